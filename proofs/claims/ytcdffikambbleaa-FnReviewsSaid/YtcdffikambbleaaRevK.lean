/- Copies of lists of reviews. No condition but those stated. -/
import Derived.Test.YtcdffikambbleaaRevJ
namespace Go.Proofs.Ytcdffikambbleaa
set_option linter.unusedVariables false
set_option linter.unusedSimpArgs false
open Go.RowKit Go.Sort

theorem toL_c3 (x : Rv) (sv : Value) (m : Nat) : c3 (toL x).rv sv m = c3 x sv m := rfl
theorem setv_step (R : Nat → Rv) (S : Nat → Value) (u : Value) (k i : Nat) :
    (if i = k * 3 + 2 then u else c3 (R (i / 3)) (S (i / 3)) (i % 3)) = c3 (R (i / 3)) (if i / 3 = k then u else S (i / 3)) (i % 3) := by
  by_cases e : i = k * 3 + 2
  · subst e
    rw [if_pos rfl, show (k * 3 + 2) / 3 = k by omega, show (k * 3 + 2) % 3 = 2 by omega, if_pos rfl]; rfl
  · rw [if_neg e]
    by_cases e2 : i / 3 = k
    · have hm : i % 3 = 0 ∨ i % 3 = 1 := by omega
      rcases hm with hm | hm <;> rw [hm] <;> rfl
    · rw [if_neg e2]
theorem C_copyReviews (v : Value) (n : Nat) (R : Nat → Rv) (w : World) (h : RRs w v n R) (hn : n ≤ 1048576) (hj : ∀ j, j < n → (R j).n ≤ 1099511627776) :
    Calls Try.prog 91 #[v] w fun e w' => ∃ v', e = .returned v' ∧ OR w.heap.size w' v' n (fun j => toL (R j)) ∧ Below w.heap.size w w' := by
  have hv := h
  obtain ⟨A0, cap0, rfl, hr, _, _⟩ := h
  clear hr
  have HJ := Lib.hid hj; clear hj
  have HV := Lib.hid hv; clear hv
  go_enter Try.func91, Try.ntmps91
  go_wp2_with fail
  refine (C_CloneRev _ _ _ _ HV.out hn).mono ?_
  rintro e w1 ⟨v1, T, rfl, ho1, hT, hb1⟩
  obtain ⟨A, cap, rfl, hc, hm, hA⟩ := ho1.form
  have HO1 := Lib.hid ho1; clear ho1
  have HT := Lib.hid hT; clear hT
  have HB1 := Lib.hid hb1; clear hb1
  have HA0 := Lib.hid hA; clear hA
  go_wp2
  go_loopw [9] (fun i wr => ∃ (k : Nat) (S : Nat → Value), k ≤ n ∧ i = .int .i64 k ∧ own3 w.heap.size wr (.slice A n cap) n (fun i => c3 (R (i / 3)) (S (i / 3)) (i % 3)) ∧
    (∀ j, j < k → OI w.heap.size wr (S j) (lst (R j).n (R j).f)) ∧ (∀ j, k ≤ j → S j = T j) ∧ (∀ i j, i < j → j < k → (S i).ownBlock = none ∨ (S i).ownBlock ≠ (S j).ownBlock) ∧ Below w.heap.size w wr) (fun i _ => n - (intOf i).toNat)
  case atStart => exact ⟨0, T, Nat.zero_le _, rfl, HO1.out, fun j hj => absurd hj (by omega), fun _ _ => rfl, fun i j _ hj => absurd hj (by omega), HB1.out⟩
  case round =>
    obtain ⟨k, S, hk, rfl, ho, hi, ht, hd, hB⟩ := hrel
    have HO := Lib.hid ho
    have HI := Lib.hid hi; clear hi
    have HTT := Lib.hid ht; clear ht
    have HD := Lib.hid hd; clear hd
    have HB := Lib.hid hB
    have hbs := hB.size
    by_cases hlt : k < n
    · obtain ⟨g, rfl, hg0, hg1⟩ := HA0.out (by omega)
      have hgl := (ho.lt g rfl).2
      have hck := ho.cell (i := k * 3 + 2) (by omega)
      rw [show (k * 3 + 2) / 3 = k by omega, show (k * 3 + 2) % 3 = 2 by omega] at hck
      have hfk := ho.frozen (k * 3 + 2)
      have hsk := (HT.out k hlt).below hB
      rw [← HTT.out k (Nat.le_refl _)] at hsk
      obtain ⟨SA, sc, hSk, _, _, _⟩ := hsk
      have hck2 : wr.cell? ⟨g, k * 3 + 2, none⟩ = some (.slice SA (R k).n sc) := by rw [hck]; show some (S k) = _; rw [hSk]
      have hsv : SI wr (.slice SA (R k).n sc) (R k).n (R k).f := by rw [← hSk]; rw [HTT.out k (Nat.le_refl _)]; exact (HT.out k hlt).below hB
      have HSV := Lib.hid hsv
      clear hck hSk hsv ho hB
      go_wp2_with fail
      refine (C_CloneInt _ _ _ _ HSV.out (HJ.out k hlt)).mono ?_
      rintro e w2 ⟨v2, rfl, ho2, hb2⟩
      obtain ⟨hc', hf'⟩ := bcell hb2
      have HO2 := Lib.hid ho2; clear ho2
      have HB2 := Lib.hid hb2
      have hbs2 := hb2.size
      have ho3 := HO2.out
      obtain ⟨B2, d2, hv2, _, _⟩ := ho3.wi
      subst hv2
      clear ho3 hb2
      have hgl2 : g < w2.heap.size := by omega
      go_wp2
      go_roundw
      case rel =>
        have hb2 := HB2.out
        have ho' := (HO.out.below hb2).set (k * 3 + 2) (.slice B2 (lst (R k).n (R k).f).length d2)
        have hne2 : (Value.slice B2 (lst (R k).n (R k).f).length d2).ownBlock ≠ some g := own_ne (HO.out.below hb2) HO2.out rfl
        refine ⟨k + 1, fun j => if j = k then .slice B2 (lst (R k).n (R k).f).length d2 else S j, by omega, by go_num, ho'.congr fun i _ => setv_step R S _ k i, fun j hj => ?_, fun j hj => ?_, fun i j hij hj => ?_, ?_⟩
        · by_cases e : j = k
          · subst e
            simp only [if_true]
            exact (HO2.out.mono hbs).of_block fun q hq => Below.heap_setCell _ _ _ _ (fun e => hne2 (by rw [hq, e]))
          · simp only [if_neg e]
            have hij := HI.out j (by omega)
            have hne := own_ne (HO.out) hij (g := g) rfl
            exact (hij.below hb2).of_block fun q hq => Below.heap_setCell _ _ _ _ (fun e => hne (by rw [hq, e]))
        · simp only [if_neg (show ¬ j = k by omega)]
          exact HTT.out j (by omega)
        · by_cases e : j = k
          · subst e
            simp only [if_true, if_neg (show ¬ i = j by omega)]
            cases hS : (S i).ownBlock with
            | none => exact .inl rfl
            | some q =>
              refine .inr fun e => ?_
              have h1 := (World.ownsRow.lt (HI.out i (by omega)) q hS).2
              have h2 := (World.ownsRow.lt HO2.out q e.symm).1
              omega
          · simp only [if_neg e, if_neg (show ¬ i = k by omega)]
            exact HD.out i j hij (by omega)
        · exact (HB.out.trans (hb2.mono hbs)).setCell hg0 _
      case measure => simp [intOf]; omega
    · clear ho
      go_wp2
      go_ret
      obtain rfl : k = n := by omega
      refine ⟨_, rfl, ⟨S, HO.out, HI.out, fun i j hi hj hne => ?_⟩, HB.out⟩
      rcases Nat.lt_or_gt_of_ne hne with h | h
      · exact HD.out i j h hj
      · rcases HD.out j i h hi with h0 | h0
        · cases hS : (S i).ownBlock with
          | none => exact .inl rfl
          | some q => exact .inr (by rw [h0]; simp)
        · exact .inr fun e => h0 e.symm

theorem app1_step (R : Nat → Rv) (S : Nat → Value) (sv : Value) (k i : Nat) (hi : i < (k + 1) * 3) :
    (if i < k * 3 then c3 (R (i / 3)) (S (i / 3)) (i % 3) else c3 (R k) sv (i - k * 3)) = c3 (R (i / 3)) (if i / 3 = k then sv else S (i / 3)) (i % 3) := by
  by_cases e : i < k * 3
  · rw [if_pos e, if_neg (by omega)]
  · rw [if_neg e, show i / 3 = k by omega, if_pos rfl, show i - k * 3 = i % 3 by omega]
theorem cell_new' {w : World} {cs : Array Value} {t : TypeId} {i B : Nat} {v : Value} (hB : B = w.heap.size) (h : cs[i]? = some v) : (w.alloc (.cells cs t)).cell? ⟨B, i, none⟩ = some v := by
  subst hB; exact cell_new w cs t i v h
/-- One review in three cells, to be appended. -/
theorem reads3 {w : World} {B : Nat} {x : Rv} {sv : Value} (h0 : w.cell? ⟨B, 0, none⟩ = some (.int .i64 x.rid)) (h1 : w.cell? ⟨B, 1, none⟩ = some (.int .i64 x.due)) (h2 : w.cell? ⟨B, 2, none⟩ = some sv) (hl : B < w.heap.size) :
    Reads w w.heap.size 3 (some ⟨B, 0, none⟩) 1 ((List.range (1 * 3)).map fun i => c3 x sv i) := by
  refine ⟨by simp, fun _ => ⟨_, rfl, hl, fun i u hu => ?_⟩⟩
  match i, hu with
  | 0, hu => simp [c3, List.range_succ] at hu; subst hu; exact h0
  | 1, hu => simp [c3, List.range_succ] at hu; subst hu; exact h1
  | 2, hu => simp [c3, List.range_succ] at hu; subst hu; exact h2
  | i + 3, hu => simp at hu
theorem C_l23Own (v : Value) (n : Nat) (R : Nat → Rv) (w : World) (h : RRs w v n R) (hn : n ≤ 1048576) (hj : ∀ j, j < n → (R j).n ≤ 1099511627776) :
    Calls Try.prog 88 #[v] w fun e w' => ∃ v', e = .returned v' ∧ OR w.heap.size w' v' n (fun j => toL (R j)) ∧ Below w.heap.size w w' := by
  obtain ⟨A, cap, rfl, hr, hc, hm⟩ := h
  have HR := Lib.hid hr; clear hr
  have HJ := Lib.hid hj; clear hj
  go_enter Try.func88, Try.ntmps88
  go_wp2
  go_loopw [3, 4] (fun o i wr => ∃ (k : Nat) (S : Nat → Value), k ≤ n ∧ i = .int .i64 k ∧ own3 w.heap.size wr o k (fun i => c3 (R (i / 3)) (S (i / 3)) (i % 3)) ∧
    (∀ j, j < k → OI w.heap.size wr (S j) (lst (R j).n (R j).f)) ∧ (∀ i j, i < j → j < k → (S i).ownBlock = none ∨ (S i).ownBlock ≠ (S j).ownBlock) ∧ Below w.heap.size w wr) (fun _ i _ => n - (intOf i).toNat)
  case atStart => exact ⟨0, fun _ => .slice none 0 0, Nat.zero_le _, rfl, own3.empty (Nat.le_refl _) _, fun j hj => absurd hj (by omega), fun i j _ hj => absurd hj (by omega), by (repeat (first | with_reducible exact Below.refl _ _ | with_reducible exact below_regrown _ _ _ | with_reducible refine bel_step0 (by assumption) ?_ | with_reducible refine bel_alloc0 ?_ _ | with_reducible refine bel_regrown0 ?_ _ _ | with_reducible refine bel_regrown ?_ (by first | omega | (simp; done) | (simp; omega)) _ _ | with_reducible refine below_drewN ?_ _ | with_reducible refine Below.drew ?_ | with_reducible refine Below.alloc ?_ (by first | omega | (simp; done) | (simp; omega)) _ | with_reducible refine Below.setCell ?_ (by first | omega | (simp; done) | (simp; omega)) _ | with_reducible refine bel_step (by assumption) (by first | omega | (simp; done) | (simp; omega)) ?_ | with_reducible refine bel_grown (by assumption) (by first | omega | (simp; done) | (simp; omega)) (by first | omega | (simp; done) | (simp; omega)) ?_))⟩
  case round =>
    obtain ⟨k, S, hk, rfl, ho, hi, hd, hB⟩ := hrel
    have HO := Lib.hid ho; clear ho
    have HI := Lib.hid hi; clear hi
    have HD := Lib.hid hd; clear hd
    have HB := Lib.hid hB
    have hbs := hB.size
    by_cases hlt : k < n
    · obtain ⟨b, off, rfl, hb, hcell⟩ := RRs.at_ hB HR.out (by omega)
      obtain ⟨sv, hsv, hck0, hck1, hck2⟩ := hcell k hlt; have hsv0 := hsv; obtain ⟨A1, c1, rfl, hsr1, hsc1, hsm1⟩ := hsv0; clear hsr1
      have HSV := Lib.hid hsv
      clear hcell hB hsv
      go_wp2_with fail
      refine (C_l1Own _ _ _ _ (HSV.out.below ((Below.refl _ _).alloc (Nat.le_refl _) _)) (HJ.out k hlt)).mono ?_
      rintro e w2 ⟨v2, rfl, ho2, hb2⟩
      obtain ⟨hc', hf'⟩ := bcell hb2
      have HO2 := Lib.hid ho2; clear ho2
      have HB2 := Lib.hid hb2
      have hbs2 := hb2.size
      simp only [World.size_alloc] at hbs2
      have hl2 : wr.heap.size < w2.heap.size := by omega
      have ho3 := HO2.out
      obtain ⟨B2, d2, hv2, _, _⟩ := ho3.wi
      subst hv2
      clear ho3 hb2
      have hb2 := HB2.out
      have hoA := HO.out.below ((Below.refl wr.heap.size wr).alloc (Nat.le_refl _) (.cells #[.int .i64 (R k).rid, .int .i64 (R k).due, .slice A1 (R k).n c1] 27))
      have hoB := hoA.below hb2
      have hoC := hoB.of_block (w' := w2.setCell ⟨wr.heap.size, 2, none⟩ (.slice B2 (lst (R k).n (R k).f).length d2)) fun q hq => Below.heap_setCell _ _ _ _ (by have h1 := (HO.out.lt q hq).2; show q ≠ wr.heap.size; omega)
      have HOD := Lib.hid (hoC.below ((Below.refl _ _).alloc (Nat.le_refl _) (.cells #[.int .i64 (R k).rid, .int .i64 (R k).due, .slice B2 (lst (R k).n (R k).f).length d2] 27)))
      have hRD : Reads ((w2.setCell ⟨wr.heap.size, 2, none⟩ (.slice B2 (lst (R k).n (R k).f).length d2)).alloc (.cells #[.int .i64 (R k).rid, .int .i64 (R k).due, .slice B2 (lst (R k).n (R k).f).length d2] 27)) _ 3 (some ⟨w2.heap.size, 0, none⟩) 1 _ := reads3 (x := R k) (sv := .slice B2 (lst (R k).n (R k).f).length d2) (cell_new' (by simp) rfl) (cell_new' (by simp) rfl) (cell_new' (by simp) rfl) (by simp)
      have HRD := Lib.hid hRD
      have hkeep : ∀ s xs, OI w.heap.size w2 s xs → s.ownBlock ≠ some wr.heap.size → OI w.heap.size ((w2.setCell ⟨wr.heap.size, 2, none⟩ (.slice B2 (lst (R k).n (R k).f).length d2)).alloc (.cells #[.int .i64 (R k).rid, .int .i64 (R k).due, .slice B2 (lst (R k).n (R k).f).length d2] 27)) s xs := fun s xs h hne =>
        OI.below ((Below.refl _ _).alloc (Nat.le_refl _) _) (h.of_block fun q hq => Below.heap_setCell _ _ _ _ (fun e => hne (by rw [hq, e])))
      have HKEEP := Lib.hid hkeep
      clear hoA hoB hoC hb2 hRD hkeep
      go_wp2_with (at_builtin; refine wp_app3 _ rfl (.tmp 21) (.tmp 23) rfl w.heap.size _ k _ rfl HOD.out (some ⟨w2.heap.size, 0, none⟩) 1 1 (fun i => c3 (R k) (.slice B2 (lst (R k).n (R k).f).length d2) i) rfl HRD.out (fun i hi => c3_one rfl _) (by omega) (by simp; omega) ?_; intro v3 w3 ho3 hb3 hg3)
      go_roundw
      case rel =>
        have hb2 := HB2.out
        have hB1 : Below w.heap.size w (wr.alloc (.cells #[.int .i64 (R k).rid, .int .i64 (R k).due, .slice A1 (R k).n c1] 27)) := HB.out.alloc hbs _
        have hB2 : Below w.heap.size w w2 := hB1.trans (hb2.mono (by simp; omega))
        have key : ∀ s xs, OI w.heap.size w2 s xs → s.ownBlock ≠ some wr.heap.size → OI w.heap.size w3 s xs := fun s xs h hne => by
          have h2 := HKEEP.out s xs h hne
          exact h2.of_block fun q hq => hg3.block q (World.ownsRow.lt h2 q hq).2 (fun e => own_ne HOD.out h2 e.symm hq)
        refine ⟨k + 1, fun j => if j = k then .slice B2 (lst (R k).n (R k).f).length d2 else S j, by omega, by go_num, ho3.congr fun i hi => app1_step R S _ k i hi, fun j hj => ?_, fun i j hij hj => ?_, ?_⟩
        · by_cases e : j = k
          · subst e
            simp only [if_true]
            refine key _ _ (HO2.out.mono (by simp; omega)) fun e => ?_
            have h2 := (World.ownsRow.lt HO2.out _ e).1
            simp at h2
            omega
          · simp only [if_neg e]
            have hij := HI.out j (by omega)
            refine key _ _ ((OI.below ((Below.refl _ _).alloc (Nat.le_refl _) _) hij).below hb2) fun e => ?_
            have h1 := (World.ownsRow.lt hij _ e).2
            omega
        · by_cases e : j = k
          · subst e
            simp only [if_true, if_neg (show ¬ i = j by omega)]
            cases hS : (S i).ownBlock with
            | none => exact .inl rfl
            | some q =>
              refine .inr fun e => ?_
              have h1 := (World.ownsRow.lt (HI.out i (by omega)) q hS).2
              have h2 := (World.ownsRow.lt HO2.out q e.symm).1
              simp at h2
              omega
          · simp only [if_neg e, if_neg (show ¬ i = k by omega)]
            exact HD.out i j hij (by omega)
        · exact ((hB2.setCell (by show w.heap.size ≤ wr.heap.size; omega) _).alloc (by simp; omega) _).trans hb3
      case measure => simp [intOf]; omega
    · go_wp2
      go_ret
      obtain rfl : k = n := by omega
      refine ⟨_, rfl, ⟨S, HO.out, HI.out, fun i j hi hj hne => ?_⟩, HB.out⟩
      rcases Nat.lt_or_gt_of_ne hne with h | h
      · exact HD.out i j h hj
      · rcases HD.out j i h hi with h0 | h0
        · cases hS : (S i).ownBlock with
          | none => exact .inl rfl
          | some q => exact .inr (by rw [h0]; simp)
        · exact .inr fun e => h0 e.symm

end Go.Proofs.Ytcdffikambbleaa
