/- What verdicts could become: the recursion of both sides. No condition but those stated. -/
import Derived.Test.YtcdffikambbleaaEach
import Derived.Test.YtcdffikambbleaaRevB
namespace Go.Proofs.Ytcdffikambbleaa
set_option linter.unusedVariables false
set_option linter.unusedSimpArgs false
open Go.RowKit Go.Sort
theorem anyB_mem {l : List Int} {x : Int} : anyB l.length (fun j => ai l j == x) = true ↔ x ∈ l := by
  rw [anyB_iff]
  constructor
  · rintro ⟨j, hj, e⟩
    have := ai_lt hj
    have e2 : ai l j = x := by simpa using e
    rw [e2] at this
    exact List.mem_of_getElem? this
  · intro h
    obtain ⟨j, hj, rfl⟩ := List.mem_iff_getElem.1 h
    refine ⟨j, hj, ?_⟩
    have := ai_lt hj
    rw [List.getElem?_eq_getElem hj] at this
    injection this with this
    simp [this]
theorem lst_full (l : List Int) : lst l.length (ai l) = l := by
  rw [lst_ai l l.length (Nat.le_refl _), List.take_of_length_le (Nat.le_refl _)]
def accM (g : List Int → List Int) (vs : List Int) : Nat → List Int
  | 0 => []
  | k + 1 => accM g vs k ++ g (vs ++ [(k : Int) + 1])
def couldM : Nat → List Int → List Int
  | 0, vs => [verdict vs.length (ai vs)]
  | m + 1, vs => once (accM (couldM m) vs 3)
theorem accM_le {g : List Int → List Int} {B : Nat} (h : ∀ vs, (g vs).length ≤ B) (vs : List Int) : ∀ k, (accM g vs k).length ≤ k * B := by
  intro k
  induction k with
  | zero => simp [accM]
  | succ k ih =>
    have := h (vs ++ [(k : Int) + 1])
    simp only [accM, List.length_append, Nat.add_mul, Nat.one_mul]
    omega
theorem couldM_le : ∀ m vs, (couldM m vs).length ≤ 3 ^ m := by
  intro m
  induction m with
  | zero => intro vs; simp [couldM]
  | succ m ih =>
    intro vs
    have h1 := once_len (accM (couldM m) vs 3)
    have h2 := accM_le ih vs 3
    rw [Nat.pow_succ]
    show (once (accM (couldM m) vs 3)).length ≤ _
    omega
theorem couldM_243 {m : Nat} (hm : m ≤ 5) (vs : List Int) : (couldM m vs).length ≤ 243 :=
  Nat.le_trans (couldM_le m vs) (Nat.le_trans (Nat.pow_le_pow_right (by omega) hm) (by decide))
theorem OI.lit {base : Nat} {w : World} (x : Int) (hb : base ≤ w.heap.size) : OI base (w.alloc (.cells #[.int .i64 x] 3)) (.slice (some ⟨w.heap.size, 0, none⟩) 1 1) [x] :=
  ⟨by simp, .inr ⟨w.heap.size, 1, #[.int .i64 x], rfl, hb, heap_alloc_new w _, Nat.le_refl _, by decide, rfl, rfl⟩⟩
set_option maxHeartbeats 2000000 in
set_option maxRecDepth 100000 in
theorem C_couldBecome (m : Nat) : ∀ (v : Value) (vs : List Int) (N : Int) (w : World), SI w v vs.length (ai vs) → N = (m : Int) → m ≤ 5 → vs.length + m ≤ 1048576 →
    Calls Try.prog 105 #[v, .int .i64 N] w fun e w' => ∃ v', e = .returned v' ∧ OI w.heap.size w' v' (couldM m vs) ∧ Below w.heap.size w w' := by
  induction m with
  | zero =>
    intro v vs N w h hN h8 h9; clear h8 h9
    obtain rfl : N = 0 := hN
    have HS := Lib.hid h
    clear h
    go_enter Try.func105, Try.ntmps105
    go_wp2_with fail
    refine (C_verdictFor _ _ _ _ HS.out).mono ?_; rintro e w1 ⟨rfl, rfl⟩
    go_wp2
    go_ret
    exact ⟨_, rfl, OI.lit _ (Nat.le_refl _), by (repeat (first | with_reducible exact Below.refl _ _ | with_reducible exact below_regrown _ _ _ | with_reducible refine bel_step0 (by assumption) ?_ | with_reducible refine bel_alloc0 ?_ _ | with_reducible refine bel_regrown0 ?_ _ _ | with_reducible refine bel_regrown ?_ (by first | omega | (simp; done) | (simp; omega)) _ _ | with_reducible refine below_drewN ?_ _ | with_reducible refine Below.drew ?_ | with_reducible refine Below.alloc ?_ (by first | omega | (simp; done) | (simp; omega)) _ | with_reducible refine Below.setCell ?_ (by first | omega | (simp; done) | (simp; omega)) _ | with_reducible refine bel_step (by assumption) (by first | omega | (simp; done) | (simp; omega)) ?_ | with_reducible refine bel_grown (by assumption) (by first | omega | (simp; done) | (simp; omega)) (by first | omega | (simp; done) | (simp; omega)) ?_))⟩
  | succ m ih =>
    intro v vs N w h hN hm hl
    have HIH := Lib.hid ih
    have HS := Lib.hid h
    have HACC := Lib.hid (accM_le (couldM_243 (m := m) (by omega)) vs)
    have hN1 : 1 ≤ N := by omega
    have hN5 : N ≤ 5 := by omega
    have hN0 : ¬ N = 0 := by omega
    have HN := Lib.hid hN
    clear ih h hN
    go_enter Try.func105, Try.ntmps105
    have hNe : (N == 0) = false := by simpa using hN0
    go_wp2
    go_loopw [5, 6] (fun o i wr => ∃ k : Nat, k ≤ 3 ∧ i = .int .i64 ((k : Int) + 1) ∧ OI w.heap.size wr o (accM (couldM m) vs k) ∧ Below w.heap.size w wr) (fun _ i _ => 4 - (intOf i).toNat)
    case atStart => exact ⟨0, by omega, rfl, OI.nil _ _, Below.refl _ _⟩
    case round =>
      obtain ⟨k, hk, rfl, ho, hB⟩ := hrel
      have HO := Lib.hid ho
      have HBB := Lib.hid hB
      have hbs := hB.size
      have hacc := HACC.out k
      by_cases hlt : k < 3
      · clear ho hB
        have hki : (k : Int) + 1 ≤ 3 := by omega
        go_wp2_with fail
        refine (C_CloneInt _ _ _ _ (HS.out.below HBB.out) (by omega)).mono ?_; rintro e w1 ⟨v1, rfl, ho1, hb1⟩
        rw [lst_full] at ho1
        have HO1 := Lib.hid ho1
        have HB1 := Lib.hid hb1
        have hz1 := hb1.size
        clear ho1 hb1
        go_wp2_with (at_builtin; refine wp_app1 _ rfl (.tmp 18) (.tmp 20) rfl wr.heap.size _ _ rfl (HO1.out.alloc _) w1.heap.size ((k : Int) + 1) rfl (by simp) (by omega) (by simp; omega) ?_; intro v2 w2 ho2 hb2; have HO2 := Lib.hid ho2; have HB2 := Lib.hid ((HB1.out.alloc hz1 _).trans hb2); clear ho2 hb2)
        refine (HIH.out _ (vs ++ [(k : Int) + 1]) _ _ HO2.out.wi.si (by have := HN.out; omega) (by omega) (by simp; omega)).mono ?_; rintro e w3 ⟨v3, rfl, ho3, hb3⟩
        have HB3 := Lib.hid (bel_step0 hb3 HB2.out)
        have hl3 := couldM_243 (m := m) (by omega) (vs ++ [(k : Int) + 1])
        have hs3 := ho3.wi.si
        obtain ⟨A3, c3, rfl, _, _, _⟩ := hs3
        have HO3 := Lib.hid ho3
        have HOO := Lib.hid (HO.out.below HB3.out)
        have hz3 := HB3.out.size
        clear ho3 hb3
        go_wp2_with (at_builtin; refine wp_appN _ rfl (.tmp 16) (.tmp 24) rfl w.heap.size _ _ rfl HOO.out A3 _ c3 _ rfl HO3.out.wi.si (by omega) (by omega) ?_; intro v4 w4 ho4 hb4; rw [lst_full] at ho4; have HO4 := Lib.hid ho4; have HB4 := Lib.hid ((bel_step0 HB3.out HBB.out).trans hb4); clear ho4 hb4)
        go_roundw
        case rel => exact ⟨k + 1, by omega, by go_num, HO4.out, HB4.out⟩
        case measure => simp [intOf]; omega
      · obtain rfl : k = 3 := by omega
        clear ho hB
        go_wp2_with fail
        refine (C_eachOnce w.heap.size _ _ _ HO.out (by omega) hbs).mono ?_; rintro e w5 ⟨v5, rfl, ho5, hb5⟩
        have HO5 := Lib.hid ho5
        have HB5 := Lib.hid (HBB.out.trans hb5)
        clear ho5 hb5
        go_wp2
        go_ret
        exact ⟨_, rfl, HO5.out, HB5.out⟩
set_option maxHeartbeats 2000000 in
set_option maxRecDepth 100000 in
theorem C_l23Could (m : Nat) : ∀ (v : Value) (vs : List Int) (N : Int) (w : World), SI w v vs.length (ai vs) → N = (m : Int) → m ≤ 5 → vs.length + m ≤ 1048576 →
    Calls Try.prog 104 #[v, .int .i64 N] w fun e w' => ∃ v', e = .returned v' ∧ OI w.heap.size w' v' (couldM m vs) ∧ Below w.heap.size w w' := by
  induction m with
  | zero =>
    intro v vs N w h hN h8 h9; clear h8 h9
    obtain rfl : N = 0 := hN
    have HS := Lib.hid h
    clear h
    go_enter Try.func104, Try.ntmps104
    go_wp2_with fail
    refine (C_l23Verdict _ _ _ _ HS.out).mono ?_; rintro e w1 ⟨rfl, rfl⟩
    go_wp2
    go_ret
    exact ⟨_, rfl, OI.lit _ (Nat.le_refl _), by (repeat (first | with_reducible exact Below.refl _ _ | with_reducible exact below_regrown _ _ _ | with_reducible refine bel_step0 (by assumption) ?_ | with_reducible refine bel_alloc0 ?_ _ | with_reducible refine bel_regrown0 ?_ _ _ | with_reducible refine bel_regrown ?_ (by first | omega | (simp; done) | (simp; omega)) _ _ | with_reducible refine below_drewN ?_ _ | with_reducible refine Below.drew ?_ | with_reducible refine Below.alloc ?_ (by first | omega | (simp; done) | (simp; omega)) _ | with_reducible refine Below.setCell ?_ (by first | omega | (simp; done) | (simp; omega)) _ | with_reducible refine bel_step (by assumption) (by first | omega | (simp; done) | (simp; omega)) ?_ | with_reducible refine bel_grown (by assumption) (by first | omega | (simp; done) | (simp; omega)) (by first | omega | (simp; done) | (simp; omega)) ?_))⟩
  | succ m ih =>
    intro v vs N w h hN hm hl
    have HIH := Lib.hid ih
    have HS := Lib.hid h
    have HACC := Lib.hid (accM_le (couldM_243 (m := m) (by omega)) vs)
    have hN1 : 1 ≤ N := by omega
    have hN5 : N ≤ 5 := by omega
    have hN0 : ¬ N = 0 := by omega
    have HN := Lib.hid hN
    clear ih h hN
    go_enter Try.func104, Try.ntmps104
    have hNe : (N == 0) = false := by simpa using hN0
    go_wp2
    go_loopw [5, 6] (fun o i wr => ∃ k : Nat, k ≤ 3 ∧ i = .int .i64 ((k : Int) + 1) ∧ OI w.heap.size wr o (once (accM (couldM m) vs k)) ∧ Below w.heap.size w wr) (fun _ i _ => 4 - (intOf i).toNat)
    case atStart => exact ⟨0, by omega, rfl, OI.empty (Nat.le_refl _), by (repeat (first | with_reducible exact Below.refl _ _ | with_reducible exact below_regrown _ _ _ | with_reducible refine bel_step0 (by assumption) ?_ | with_reducible refine bel_alloc0 ?_ _ | with_reducible refine bel_regrown0 ?_ _ _ | with_reducible refine bel_regrown ?_ (by first | omega | (simp; done) | (simp; omega)) _ _ | with_reducible refine below_drewN ?_ _ | with_reducible refine Below.drew ?_ | with_reducible refine Below.alloc ?_ (by first | omega | (simp; done) | (simp; omega)) _ | with_reducible refine Below.setCell ?_ (by first | omega | (simp; done) | (simp; omega)) _ | with_reducible refine bel_step (by assumption) (by first | omega | (simp; done) | (simp; omega)) ?_ | with_reducible refine bel_grown (by assumption) (by first | omega | (simp; done) | (simp; omega)) (by first | omega | (simp; done) | (simp; omega)) ?_))⟩
    case round =>
      obtain ⟨k, hk, rfl, ho, hB⟩ := hrel
      have HO := Lib.hid ho
      have HBB := Lib.hid hB
      have hbs := hB.size
      have hacc := HACC.out k
      have honc := once_len (accM (couldM m) vs k)
      by_cases hlt : k < 3
      · clear ho hB
        have hki : (k : Int) + 1 ≤ 3 := by omega
        go_wp2_with fail
        refine (C_l1Own _ _ _ _ (HS.out.below HBB.out) (by omega)).mono ?_; rintro e w1 ⟨v1, rfl, ho1, hb1⟩
        rw [lst_full] at ho1
        have HO1 := Lib.hid ho1
        have HB1 := Lib.hid hb1
        have hz1 := hb1.size
        clear ho1 hb1
        go_wp2_with (at_builtin; refine wp_app1 _ rfl (.tmp 20) (.tmp 22) rfl wr.heap.size _ _ rfl (HO1.out.alloc _) w1.heap.size ((k : Int) + 1) rfl (by simp) (by omega) (by simp; omega) ?_; intro v2 w2 ho2 hb2; have HO2 := Lib.hid ho2; have HB2 := Lib.hid ((HB1.out.alloc hz1 _).trans hb2); clear ho2 hb2)
        refine (HIH.out _ (vs ++ [(k : Int) + 1]) _ _ HO2.out.wi.si (by have := HN.out; omega) (by omega) (by simp; omega)).mono ?_; rintro e w3 ⟨v3, rfl, ho3, hb3⟩
        have HB3 := Lib.hid (bel_step0 hb3 HB2.out)
        have hl3 := couldM_243 (m := m) (by omega) (vs ++ [(k : Int) + 1])
        obtain ⟨S, hS⟩ : ∃ S, couldM m (vs ++ [(k : Int) + 1]) = S := ⟨_, rfl⟩
        have hnext : accM (couldM m) vs (k + 1) = accM (couldM m) vs k ++ S := by rw [← hS]; rfl
        rw [hS] at ho3 hl3
        obtain ⟨P, hP⟩ : ∃ P, accM (couldM m) vs k = P := ⟨_, rfl⟩
        rw [hP] at hnext hacc honc HO
        have HNEXT := Lib.hid hnext
        obtain ⟨l3, hl3e⟩ : ∃ l3, S.length = l3 := ⟨_, rfl⟩
        have hs3 := ho3.wi.si
        rw [hl3e] at hs3 hl3
        obtain ⟨A3, c3, rfl, hr3, hc3, hm3⟩ := hs3
        have HL3 := Lib.hid hl3e
        have HR3 := Lib.hid hr3
        have HOO := Lib.hid (HO.out.below HB3.out)
        have HBW := Lib.hid (bel_step0 HB3.out HBB.out)
        have hz3 := HB3.out.size
        clear ho3 hb3 hS hnext hP hl3e hr3 HO1 HO2 HB1 HB2 HO HBB hz1
        go_wp2
        go_loopw [5, 8] (fun o i wq => ∃ q : Nat, q ≤ l3 ∧ i = .int .i64 q ∧ OI w.heap.size wq o (once (P ++ S.take q)) ∧ Below w3.heap.size w3 wq) (fun _ i _ => l3 - (intOf i).toNat)
        case atStart => exact ⟨0, by omega, rfl, by simpa using HOO.out, Below.refl _ _⟩
        case round =>
          clear HOO
          obtain ⟨q, hq, rfl, ho, hB⟩ := hrel
          have HO := Lib.hid ho
          have HBB := Lib.hid hB
          have hbq := hB.size
          have hol := once_len (P ++ S.take q)
          have htl : (P ++ S.take q).length ≤ 1000 := by rw [List.length_append, List.length_take]; omega
          by_cases hlq : q < l3
          · obtain ⟨b, off, rfl, hb, hcell⟩ := HR3.out (by omega)
            have hck := (hB.cell (p := ⟨b, off + q, none⟩) hb).trans (hcell q hlq)
            obtain ⟨y, hy⟩ : ∃ y, ai S q = y := ⟨_, rfl⟩
            rw [hy] at hck
            obtain ⟨a, ha⟩ : ∃ a, anyB (once (P ++ S.take q)).length (fun j => ai (once (P ++ S.take q)) j == y) = a := ⟨_, rfl⟩
            have hhas := C_l1Has _ _ _ y _ ho.wi.si
            rw [ha] at hhas
            have HHAS := Lib.hid hhas
            have hnext : once (P ++ S.take (q + 1)) = put (once (P ++ S.take q)) y := by
              rw [← once_snoc, List.take_add_one, ai_lt (by rw [HL3.out]; exact hlq), hy, List.append_assoc]; rfl
            have HNX := Lib.hid hnext
            have HA := Lib.hid ha
            have hqi : (q : Int) < (l3 : Int) := by omega
            clear hcell hB ho hhas hnext ha hy
            cases a
            · go_wp2_with fail
              refine HHAS.out.mono ?_; rintro e w' ⟨rfl, rfl⟩
              go_wp2_with fail
              refine (C_l1Put w.heap.size _ _ _ _ HO.out (by omega) (by omega)).mono ?_; rintro e w5 ⟨v5, rfl, ho5, hb5⟩
              have HO5 := Lib.hid ho5
              have HB5 := Lib.hid (bel_step0 hb5 HBB.out)
              clear ho5 hb5
              go_wp2
              go_roundw
              case rel => exact ⟨q + 1, by omega, by go_num, by rw [HNX.out]; exact HO5.out, HB5.out⟩
              case measure => simp [intOf]; omega
            · go_wp2_with fail
              refine HHAS.out.mono ?_; rintro e w' ⟨rfl, rfl⟩
              go_wp2
              go_roundw
              case rel => exact ⟨q + 1, by omega, by go_num, by rw [HNX.out, put_has (once_srt _) (anyB_mem.1 HA.out)]; exact HO.out, HBB.out⟩
              case measure => simp [intOf]; omega
          · obtain rfl : q = l3 := by omega
            rw [List.take_of_length_le (by rw [HL3.out]; exact Nat.le_refl _), ← HNEXT.out] at ho
            have HOF := Lib.hid ho
            clear ho hB
            go_wp2
            go_roundw
            case rel => exact ⟨k + 1, by omega, by go_num, HOF.out, bel_step0 HBB.out HBW.out⟩
            case measure => simp [intOf]; omega
      · obtain rfl : k = 3 := by omega
        clear ho hB
        go_wp2
        go_ret
        exact ⟨_, rfl, HO.out, HBB.out⟩
end Go.Proofs.Ytcdffikambbleaa
