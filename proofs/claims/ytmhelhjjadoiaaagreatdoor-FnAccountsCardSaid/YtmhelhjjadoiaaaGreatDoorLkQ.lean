/- Who saw a record: the program and the reference. No condition but those stated. -/
import Derived.Test.YtmhelhjjadoiaaaGreatDoorEach
namespace Go.Proofs.YtmhelhjjadoiaaaGreatDoor
set_option linter.unusedVariables false
set_option linter.unusedSimpArgs false
open Go.RowKit Go.Sort
def whoL (R : Nat → Lk) (x : Int) : Nat → List Int
  | 0 => []
  | k + 1 => if (R k).rid == x then whoL R x k ++ [(R k).who] else whoL R x k
theorem whoL_le (R : Nat → Lk) (x : Int) (n : Nat) : (whoL R x n).length ≤ n := by
  induction n with
  | zero => simp [whoL]
  | succ n ih => simp only [whoL]; split <;> (try rw [List.length_append, List.length_singleton]) <;> omega
theorem whoL_yes {R : Nat → Lk} {x : Int} {k : Nat} (h : ((R k).rid == x) = true) : whoL R x (k + 1) = whoL R x k ++ [(R k).who] := by simp only [whoL, h]; rfl
theorem whoL_no {R : Nat → Lk} {x : Int} {k : Nat} (h : ((R k).rid == x) = false) : whoL R x (k + 1) = whoL R x k := by simp only [whoL, h]; rfl
def wsOk (n : Nat) (R : Nat → Lk) (x : Int) : Bool := accB n R && within x 1 999
def wsL (n : Nat) (R : Nat → Lk) (x : Int) : List Int := if wsOk n R x then once (whoL R x n) else []
theorem wsL_le (n : Nat) (R : Nat → Lk) (x : Int) : (wsL n R x).length ≤ 15 := by
  unfold wsL
  split
  · rename_i h
    unfold wsOk at h
    simp only [Bool.and_eq_true] at h
    have h1 := accB_le h.1
    have h2 := whoL_le R x n
    have h3 := once_len (whoL R x n)
    omega
  · simp
theorem anyB_mem {l : List Int} {x : Int} : anyB l.length (fun j => ai l j == x) = true ↔ x ∈ l := by
  rw [anyB_iff]
  constructor
  · rintro ⟨j, hj, e⟩
    have := ai_lt hj
    have e2 : ai l j = x := by simpa using e
    rw [e2] at this
    exact List.mem_of_getElem? this
  · intro h
    obtain ⟨j, hj, rfl⟩ := List.mem_iff_getElem.1 h
    refine ⟨j, hj, ?_⟩
    have := ai_lt hj
    rw [List.getElem?_eq_getElem hj] at this
    injection this with this
    simp [this]
set_option maxHeartbeats 2000000 in
theorem C_WhoSawI (v : Value) (n : Nat) (R : Nat → Lk) (x : Int) (w : World) (h : LKs w v n R) (hs : ∀ j, j < n → (R j).why.size ≤ 9223372036854775807) :
    Calls Tryz.prog 9 #[v, .int .i64 x] w fun e w' => ∃ v', e = .returned (.tuple #[v', .bool (wsOk n R x)]) ∧ OI w.heap.size w' v' (wsL n R x) ∧ Below w.heap.size w w' := by
  have HH := Lib.hid h
  have HS := Lib.hid hs
  obtain ⟨A, cap, rfl, hr, hc, hm⟩ := h
  have HR := Lib.hid hr
  clear hr hs
  cases hd : accB n R
  · have e0 : wsOk n R x = false := by unfold wsOk; rw [hd]; rfl
    have e1 : wsL n R x = [] := by unfold wsL; rw [e0]; rfl
    rw [e0, e1]; clear e0 e1
    go_enter Tryz.func9, Tryz.ntmps9
    go_wp2_with fail
    refine (C_IsAccount _ _ _ _ HH.out HS.out).mono ?_; rintro e w1 ⟨rfl, hb1⟩; rw [hd]
    go_wp2_with fail
    go_ret2
    exact ⟨_, rfl, OI.nil _ _, hb1⟩
  cases hx : within x 1 999
  · have e0 : wsOk n R x = false := by unfold wsOk; rw [hd, hx]; rfl
    have e1 : wsL n R x = [] := by unfold wsL; rw [e0]; rfl
    rw [e0, e1]; clear e0 e1
    go_enter Tryz.func9, Tryz.ntmps9
    go_wp2_with fail
    refine (C_IsAccount _ _ _ _ HH.out HS.out).mono ?_; rintro e w1 ⟨rfl, hb1⟩; rw [hd]
    go_wp2_with fail
    refine (C_isRecordId _ _).mono ?_; rintro e w2 ⟨rfl, rfl⟩; rw [hx]
    go_wp2_with fail
    go_ret2
    exact ⟨_, rfl, OI.nil _ _, hb1⟩
  have e0 : wsOk n R x = true := by unfold wsOk; rw [hd, hx]; rfl
  have e1 : wsL n R x = once (whoL R x n) := by unfold wsL; rw [e0]; rfl
  rw [e0, e1]; clear e0 e1
  have hn15 := accB_le hd
  go_enter Tryz.func9, Tryz.ntmps9
  go_wp2_with fail
  refine (C_IsAccount _ _ _ _ HH.out HS.out).mono ?_; rintro e w1 ⟨rfl, hb1⟩; rw [hd]
  go_wp2_with fail
  refine (C_isRecordId _ _).mono ?_; rintro e w2 ⟨rfl, rfl⟩; rw [hx]
  have HB1 := Lib.hid hb1
  clear hb1 hd hx
  go_wp2_with fail
  go_loopw [6, 19] (fun o i wr => ∃ k : Nat, k ≤ n ∧ i = .int .i64 k ∧ OI w.heap.size wr o (whoL R x k) ∧ Below w.heap.size w wr) (fun _ i _ => n - (intOf i).toNat)
  case atStart => exact ⟨0, Nat.zero_le _, rfl, OI.nil _ _, HB1.out⟩
  case round =>
    obtain ⟨k, hk, rfl, ho, hB⟩ := hrel
    have HO := Lib.hid ho; clear ho
    have HBB := Lib.hid hB
    have hbs := hB.size
    by_cases hlt : k < n
    · obtain ⟨b, off, rfl, hb, hcell⟩ := (HR.out.below hB) (by omega)
      obtain ⟨c0, c1, c2, c3, c4⟩ := hcell k hlt
      have hll := whoL_le R x k
      clear hcell hB
      cases h1 : ((R k).rid == x)
      · go_wp2
        go_roundw
        case rel => exact ⟨k + 1, by omega, by go_num, by rw [whoL_no h1]; exact HO.out.alloc _, by have hB := HBB.out; (repeat (first | with_reducible exact Below.refl _ _ | with_reducible exact below_regrown _ _ _ | with_reducible refine bel_step0 (by assumption) ?_ | with_reducible refine bel_alloc0 ?_ _ | with_reducible refine bel_regrown0 ?_ _ _ | with_reducible refine bel_regrown ?_ (by first | omega | (simp; done) | (simp; omega)) _ _ | with_reducible refine below_drewN ?_ _ | with_reducible refine Below.drew ?_ | with_reducible refine Below.alloc ?_ (by first | omega | (simp; done) | (simp; omega)) _ | with_reducible refine Below.setCell ?_ (by first | omega | (simp; done) | (simp; omega)) _ | with_reducible refine bel_step (by assumption) (by first | omega | (simp; done) | (simp; omega)) ?_ | with_reducible refine bel_grown (by assumption) (by first | omega | (simp; done) | (simp; omega)) (by first | omega | (simp; done) | (simp; omega)) ?_))⟩
        case measure => simp [intOf]; omega
      · go_wp2_with (at_builtin; refine wp_app1 _ rfl (.tmp 27) (.tmp 30) rfl w.heap.size _ _ rfl ((HO.out.alloc _).alloc _) (wr.heap.size + 1) (R k).who rfl (by simp) (by omega) (by simp; omega) ?_; intro v1 w1 ho1 hb1; have HO1 := Lib.hid ho1; have HB1 := Lib.hid (show Below w.heap.size w w1 from Below.trans (by have hB := HBB.out; (repeat (first | with_reducible exact Below.refl _ _ | with_reducible exact below_regrown _ _ _ | with_reducible refine bel_step0 (by assumption) ?_ | with_reducible refine bel_alloc0 ?_ _ | with_reducible refine bel_regrown0 ?_ _ _ | with_reducible refine bel_regrown ?_ (by first | omega | (simp; done) | (simp; omega)) _ _ | with_reducible refine below_drewN ?_ _ | with_reducible refine Below.drew ?_ | with_reducible refine Below.alloc ?_ (by first | omega | (simp; done) | (simp; omega)) _ | with_reducible refine Below.setCell ?_ (by first | omega | (simp; done) | (simp; omega)) _ | with_reducible refine bel_step (by assumption) (by first | omega | (simp; done) | (simp; omega)) ?_ | with_reducible refine bel_grown (by assumption) (by first | omega | (simp; done) | (simp; omega)) (by first | omega | (simp; done) | (simp; omega)) ?_))) hb1); clear ho1 hb1)
        go_roundw
        case rel => exact ⟨k + 1, by omega, by go_num, by rw [whoL_yes h1]; exact HO1.out, HB1.out⟩
        case measure => simp [intOf]; omega
    · obtain rfl : k = n := by omega
      have hll := whoL_le R x k
      clear hB
      go_wp2_with fail
      refine (C_eachOnce w.heap.size _ _ _ HO.out (by omega) hbs).mono ?_; rintro e w5 ⟨v5, rfl, ho5, hb5⟩
      have HO5 := Lib.hid ho5
      have HB5 := Lib.hid (HBB.out.trans hb5)
      clear ho5 hb5
      go_wp2
      go_ret2
      exact ⟨_, rfl, HO5.out, HB5.out⟩
set_option maxHeartbeats 2000000 in
theorem C_WhoSawS (v : Value) (n : Nat) (R : Nat → Lk) (x : Int) (w : World) (h : LKs w v n R) (hs : ∀ j, j < n → (R j).why.size ≤ 9223372036854775807) :
    Calls Tryz.prog 10 #[v, .int .i64 x] w fun e w' => ∃ v', e = .returned (.tuple #[v', .bool (wsOk n R x)]) ∧ OI w.heap.size w' v' (wsL n R x) ∧ Below w.heap.size w w' := by
  obtain ⟨w0, hw0⟩ : ∃ w0, w0 = w.alloc (.cells #[] 3) := ⟨_, rfl⟩
  have hb0 : Below w.heap.size w w0 := by rw [hw0]; (repeat (first | with_reducible exact Below.refl _ _ | with_reducible exact below_regrown _ _ _ | with_reducible refine bel_step0 (by assumption) ?_ | with_reducible refine bel_alloc0 ?_ _ | with_reducible refine bel_regrown0 ?_ _ _ | with_reducible refine bel_regrown ?_ (by first | omega | (simp; done) | (simp; omega)) _ _ | with_reducible refine below_drewN ?_ _ | with_reducible refine Below.drew ?_ | with_reducible refine Below.alloc ?_ (by first | omega | (simp; done) | (simp; omega)) _ | with_reducible refine Below.setCell ?_ (by first | omega | (simp; done) | (simp; omega)) _ | with_reducible refine bel_step (by assumption) (by first | omega | (simp; done) | (simp; omega)) ?_ | with_reducible refine bel_grown (by assumption) (by first | omega | (simp; done) | (simp; omega)) (by first | omega | (simp; done) | (simp; omega)) ?_))
  have ho0 : OI w.heap.size w0 (.slice (some ⟨w.heap.size, 0, none⟩) 0 0) [] := by rw [hw0]; exact OI.empty (Nat.le_refl _)
  have HW0 := Lib.hid hw0
  have HO0 := Lib.hid ho0
  have HH := Lib.hid (h.below hb0)
  have HS := Lib.hid hs
  obtain ⟨A, cap, rfl, hr, hc, hm⟩ := h
  have HR := Lib.hid hr
  clear hr hs hw0 ho0
  cases hd : accB n R
  · have e0 : wsOk n R x = false := by unfold wsOk; rw [hd]; rfl
    have e1 : wsL n R x = [] := by unfold wsL; rw [e0]; rfl
    rw [e0, e1]; clear e0 e1
    go_enter Tryz.func10, Tryz.ntmps10
    go_wp2_with fail
    rw [← HW0.out]
    refine (C_l22Good _ _ _ _ HH.out HS.out).mono ?_; rintro e w1 ⟨rfl, hb1⟩; rw [hd]
    go_wp2_with fail
    go_ret2
    exact ⟨_, rfl, HO0.out.below hb1, bel_step0 hb1 hb0⟩
  cases hx : within x 1 999
  · have e0 : wsOk n R x = false := by unfold wsOk; rw [hd, hx]; rfl
    have e1 : wsL n R x = [] := by unfold wsL; rw [e0]; rfl
    rw [e0, e1]; clear e0 e1
    go_enter Tryz.func10, Tryz.ntmps10
    go_wp2_with fail
    rw [← HW0.out]
    refine (C_l22Good _ _ _ _ HH.out HS.out).mono ?_; rintro e w1 ⟨rfl, hb1⟩; rw [hd]
    go_wp2_with fail
    refine (C_l17Record _ _).mono ?_; rintro e w2 ⟨rfl, rfl⟩; rw [hx]
    go_wp2_with fail
    go_ret2
    exact ⟨_, rfl, HO0.out.below hb1, bel_step0 hb1 hb0⟩
  have e0 : wsOk n R x = true := by unfold wsOk; rw [hd, hx]; rfl
  have e1 : wsL n R x = once (whoL R x n) := by unfold wsL; rw [e0]; rfl
  rw [e0, e1]; clear e0 e1
  have hn15 := accB_le hd
  go_enter Tryz.func10, Tryz.ntmps10
  go_wp2_with fail
  rw [← HW0.out]
  refine (C_l22Good _ _ _ _ HH.out HS.out).mono ?_; rintro e w1 ⟨rfl, hb1⟩; rw [hd]
  go_wp2_with fail
  refine (C_l17Record _ _).mono ?_; rintro e w2 ⟨rfl, rfl⟩; rw [hx]
  have HB1 := Lib.hid (bel_step0 hb1 hb0)
  have HO1 := Lib.hid (HO0.out.below hb1)
  clear hb1 hb0 hd hx
  go_wp2_with fail
  go_loopw [6, 7] (fun o i wr => ∃ k : Nat, k ≤ n ∧ i = .int .i64 k ∧ OI w.heap.size wr o (once (whoL R x k)) ∧ Below w.heap.size w wr) (fun _ i _ => n - (intOf i).toNat)
  case atStart => exact ⟨0, Nat.zero_le _, rfl, HO1.out, HB1.out⟩
  case round =>
    obtain ⟨k, hk, rfl, ho, hB⟩ := hrel
    have HO := Lib.hid ho
    have HBB := Lib.hid hB
    have hbs := hB.size
    by_cases hlt : k < n
    · obtain ⟨b, off, rfl, hb, hcell⟩ := (HR.out.below hB) (by omega)
      obtain ⟨c0, c1, c2, c3, c4⟩ := hcell k hlt
      have hll := whoL_le R x k
      have hol := once_len (whoL R x k)
      cases h1 : ((R k).rid == x)
      · clear hcell hB ho
        go_wp2
        go_roundw
        case rel => exact ⟨k + 1, by omega, by go_num, by rw [whoL_no h1]; exact HO.out, HBB.out⟩
        case measure => simp [intOf]; omega
      · obtain ⟨y, hy⟩ : ∃ y, (R k).who = y := ⟨_, rfl⟩
        rw [hy] at c1
        obtain ⟨a, ha⟩ : ∃ a, anyB (once (whoL R x k)).length (fun j => ai (once (whoL R x k)) j == y) = a := ⟨_, rfl⟩
        have hhas := C_l1Has _ _ _ y wr ho.wi.si
        rw [ha] at hhas
        have HHAS := Lib.hid hhas
        have hnext : once (whoL R x (k + 1)) = put (once (whoL R x k)) y := by rw [whoL_yes h1, once_snoc, hy]
        have HNEXT := Lib.hid hnext
        have HA := Lib.hid ha
        clear hcell hB ho hhas hnext ha hy
        cases a
        · go_wp2_with fail
          refine HHAS.out.mono ?_; rintro e w' ⟨rfl, rfl⟩
          go_wp2_with fail
          refine (C_l1Put w.heap.size _ _ _ _ HO.out (by omega) hbs).mono ?_; rintro e w5 ⟨v5, rfl, ho5, hb5⟩
          have HO5 := Lib.hid ho5
          have HB5 := Lib.hid (bel_step0 hb5 HBB.out)
          clear ho5 hb5
          go_wp2
          go_roundw
          case rel => exact ⟨k + 1, by omega, by go_num, by rw [HNEXT.out]; exact HO5.out, HB5.out⟩
          case measure => simp [intOf]; omega
        · go_wp2_with fail
          refine HHAS.out.mono ?_; rintro e w' ⟨rfl, rfl⟩
          go_wp2
          go_roundw
          case rel => exact ⟨k + 1, by omega, by go_num, by rw [HNEXT.out, put_has (once_srt _) (anyB_mem.1 HA.out)]; exact HO.out, HBB.out⟩
          case measure => simp [intOf]; omega
    · obtain rfl : k = n := by omega
      clear hB ho
      go_wp2
      go_ret2
      exact ⟨_, rfl, HO.out, HBB.out⟩
end Go.Proofs.YtmhelhjjadoiaaaGreatDoor
