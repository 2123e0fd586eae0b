/- Marks of slices of slices of numbers; rows appended. No condition but those stated. -/
import Derived.Test.YtcdffikambbleaaRevQ
namespace Go.Proofs.Ytcdffikambbleaa
set_option linter.unusedVariables false
set_option linter.unusedSimpArgs false
open Go.RowKit Go.Sort
def ms (L : Nat → List Int) : Nat → Int
  | 0 => 1
  | j + 1 => ms L j + ((L j).length : Int)
def msd (L : Nat → List Int) (j : Nat) : List Int := (List.range (L j).length).map fun (i : Nat) => ms L j + (i : Int)
theorem ms_le {L : Nat → List Int} {n : Nat} (h : ∀ j, j < n → (L j).length ≤ 1048576) : ∀ k, k ≤ n → 1 ≤ ms L k ∧ ms L k ≤ 1 + k * 1048576 := by
  intro k
  induction k with
  | zero => intro _; simp [ms]
  | succ k ih =>
    intro hk
    have := ih (by omega)
    have := h k (by omega)
    simp only [ms]
    omega
theorem SI.congr {w : World} {v : Value} {n : Nat} {f g : Nat → Int} (h : SI w v n f) (e : ∀ j, j < n → f j = g j) : SI w v n g := by
  obtain ⟨A, cap, rfl, hr, h2⟩ := h
  refine ⟨A, cap, rfl, fun h0 => ?_, h2⟩
  obtain ⟨b, off, rfl, hl, hc⟩ := hr h0
  exact ⟨b, off, rfl, hl, fun j hj => by rw [hc j hj, e j hj]⟩
theorem C_markIntSS (v : Value) (n : Nat) (L : Nat → List Int) (base : Nat) (w : World) (h : OSS base w v n L) (hn : n ≤ 1048576) (hl : ∀ j, j < n → (L j).length ≤ 1048576) (hbw : base ≤ w.heap.size) :
    Calls Try.prog 49 #[v, .int .i64 1] w fun e w' => e = .returned (.int .i64 (ms L n)) ∧ SSI w' v n (msd L) ∧ Below base w w' := by
  obtain ⟨S, h1, h2, h3⟩ := h
  obtain ⟨A, cap, rfl, hc, hm, hA⟩ := rowsA h1
  have H1 := Lib.hid h1; clear h1
  have H2 := Lib.hid h2; clear h2
  have H3 := Lib.hid h3; clear h3
  have HA := Lib.hid hA; clear hA
  have HLE := Lib.hid (ms_le hl)
  have HLL := Lib.hid hl; clear hl
  go_enter Try.func49, Try.ntmps49
  go_wp2
  go_loopw [1, 5] (fun q i wr => ∃ k : Nat, k ≤ n ∧ i = .int .i64 k ∧ q = .int .i64 (ms L k) ∧ w.heap.size ≤ wr.heap.size ∧ Below base w wr ∧
    wr.ownsRow base 22 1 (.slice A n cap) n ((List.range n).map S) ∧
    (∀ j, j < k → SI wr (S j) (msd L j).length (ai (msd L j))) ∧ ∀ j, k ≤ j → j < n → OI base wr (S j) (L j)) (fun _ i _ => n - (intOf i).toNat)
  case atStart => exact ⟨0, Nat.zero_le _, rfl, rfl, Nat.le_refl _, Below.refl _ _, H1.out, fun j hj => absurd hj (by omega), fun j _ hj => H2.out j hj⟩
  case round =>
    obtain ⟨k, hk, rfl, rfl, hz, hB, ho, hs, hi⟩ := hrel
    have HB := Lib.hid hB; clear hB
    have HO := Lib.hid ho; clear ho
    have HS := Lib.hid hs; clear hs
    have HI := Lib.hid hi; clear hi
    obtain ⟨hm0, hm1⟩ := HLE.out k hk
    by_cases hlt : k < n
    · obtain ⟨A', cap', e, _, _, hA'⟩ := rowsA HO.out
      injection e with e1 e2 e3
      subst e1
      clear e2 e3
      obtain ⟨g, rfl, hg0, hgl, hcell⟩ := hA' (by omega)
      have hck := hcell k hlt
      clear hcell hA'
      have hoi := HI.out k (Nat.le_refl _) hlt
      obtain ⟨lo, hi, hwi, hlo, hrng⟩ := hoi.wi1
      obtain ⟨SA, sc, hSk, _, hs1, hs2⟩ := hoi.wi
      have hvl := HLL.out k hlt
      rw [hSk] at hck
      have HWI := Lib.hid (show WI lo hi wr (.slice SA (L k).length sc) (L k).length (ai (L k)) by rw [← hSk]; exact hwi)
      obtain ⟨M, hM⟩ : ∃ m, (L k).length = m := ⟨_, rfl⟩
      rw [hM] at hck hvl hs1 HWI
      have HM := Lib.hid hM
      have HSK := Lib.hid hSk
      have HRNG := Lib.hid hrng
      clear hoi hwi hM hSk hrng
      go_wp2_with (go_at_call 39; refine (C_markIntS _ _ _ _ lo hi _ HWI.out (by omega) (by omega)).mono ?_; rintro e w' ⟨rfl, hw', hch⟩; have HW := Lib.hid hw'; have HCH := Lib.hid hch; clear hw' hch)
      go_roundw
      case rel =>
        have hch := HCH.out
        have hsz := hch.size
        have hrow : ∀ j, j < n → j ≠ k → ∀ q, (S j).ownBlock = some q → q < lo ∨ hi ≤ q := fun j hj hjk q hq => by
          rcases Nat.lt_or_ge q lo with h | h
          · exact .inl h
          · rcases Nat.lt_or_ge q hi with h' | h'
            · rcases H3.out j k hj hlt hjk with h0 | h0
              · rw [h0] at hq; cases hq
              · exact absurd (hq.trans (HRNG.out q h h').symm) h0
            · exact .inr h'
        have hgn : g < lo ∨ hi ≤ g := by
          rcases Nat.lt_or_ge g lo with h | h
          · exact .inl h
          · rcases Nat.lt_or_ge g hi with h' | h'
            · exact absurd (HRNG.out g h h') (rows_ne H1.out (H2.out k hlt) rfl)
            · exact .inr h'
        refine ⟨k + 1, by omega, by go_num, ?_, by omega, HB.out.trans (hch.below hlo (by omega)), own_of_block HO.out fun q hq => hch.block q (by injection hq with hq; subst hq; exact hgl) (by injection hq with hq; subst hq; exact hgn), fun j hj => ?_, fun j hj1 hj2 => ?_⟩
        · simp only [ms, HM.out]
        · by_cases e : j = k
          · subst e
            have hw := HW.out.si
            rw [HSK.out, HM.out]
            have hlen : (msd L j).length = M := by unfold msd; rw [List.length_map, List.length_range, HM.out]
            rw [hlen]
            refine SI.congr hw fun i hi => ?_
            unfold ai msd
            rw [List.getD_eq_getElem?_getD, List.getElem?_map, List.getElem?_range (by rw [HM.out]; exact hi)]; rfl
          · exact (HS.out j (by omega)).chg_ne hch (hrow j (by omega) e)
        · exact (HI.out j (by omega) hj2).of_block fun q hq => hch.block q (World.ownsRow.lt (HI.out j (by omega) hj2) q hq).2 (hrow j hj2 (by omega) q hq)
      case measure => simp [intOf]; omega
    · go_wp2
      go_ret
      obtain rfl : k = n := by omega
      exact ⟨rfl, rows_ssi HO.out HS.out, HB.out⟩
theorem C_heldIntSS (v : Value) (n : Nat) (L : Nat → List Int) (w : World) (h : SSI w v n (msd L)) (hn : n ≤ 1048576) (hl : ∀ j, j < n → (L j).length ≤ 1048576) :
    Calls Try.prog 50 #[v, .int .i64 1] w fun e w' => e = .returned (.int .i64 (ms L n)) ∧ w = w' := by
  obtain ⟨A, cap, rfl, hr, hc, hm⟩ := h
  have HR := Lib.hid hr; clear hr
  have HLE := Lib.hid (ms_le hl)
  have HLL := Lib.hid hl; clear hl
  go_enter Try.func50, Try.ntmps50
  go_wp2
  go_loop [1, 5] (fun q i => ∃ k : Nat, k ≤ n ∧ i = .int .i64 k ∧ q = .int .i64 (ms L k)) (fun _ i => n - (intOf i).toNat)
  case atStart => exact ⟨0, Nat.zero_le _, rfl, rfl⟩
  case round =>
    obtain ⟨k, hk, rfl, rfl⟩ := hrel
    obtain ⟨hm0, hm1⟩ := HLE.out k hk
    by_cases hlt : k < n
    · obtain ⟨b, off, rfl, hb, hcell⟩ := HR.out (by omega)
      obtain ⟨sv, hsv, hck⟩ := hcell k hlt
      have hlen : (msd L k).length = (L k).length := by unfold msd; rw [List.length_map, List.length_range]
      rw [hlen] at hsv
      have hsv2 : SI w sv (L k).length (fun i => ms L k + i) := hsv.congr fun i hi => by
        unfold ai msd; rw [List.getD_eq_getElem?_getD, List.getElem?_map, List.getElem?_range hi]; rfl
      have hsv0 := hsv2
      obtain ⟨A1, c1, rfl, _, hsc1, hsm1⟩ := hsv0
      have hvl := HLL.out k hlt
      have HSV := Lib.hid hsv2
      obtain ⟨M, hM⟩ : ∃ m, (L k).length = m := ⟨_, rfl⟩
      rw [hM] at hck hsc1 hvl HSV
      have HM := Lib.hid hM
      clear hsv hsv2 hM hlen hcell
      go_wp2_with (go_at_call 40; refine (C_heldIntS _ _ _ _ HSV.out (by omega) (by omega)).mono ?_; rintro e w' ⟨rfl, rfl⟩)
      all_goals (go_round; (case rel => exact ⟨k + 1, by omega, by go_num, by simp only [ms, HM.out]⟩); (case measure => simp [intOf]; omega))
    · go_wp2
      go_ret
      obtain rfl : k = n := by omega
      exact ⟨rfl, rfl⟩
end Go.Proofs.Ytcdffikambbleaa
