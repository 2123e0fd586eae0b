/- Marks, and the reviews that are decided. No condition but those stated. -/
import Derived.Test.YtcdffikambbleaaRevF
namespace Go.Proofs.Ytcdffikambbleaa
set_option linter.unusedVariables false
set_option linter.unusedSimpArgs false
open Go.RowKit Go.Sort

theorem C_markReviewS (v : Value) (n : Nat) (R : Nat → Rv) (lo hi : Nat) (w : World) (h : FRs lo hi w v n R) :
    Calls Try.prog 38 #[v, .int .i64 1] w fun e w' => ∃ k : Int, e = .returned (.int .i64 k) ∧ 0 ≤ k ∧ Chg lo hi w w' := by
  obtain ⟨g, G, rfl, hg1, hg2, hn, hr, hs, hinc⟩ := h
  have HR := Lib.hid hr; clear hr
  have HS := Lib.hid hs; clear hs
  have HI := Lib.hid hinc; clear hinc
  go_enter Try.func38, Try.ntmps38
  go_wp2
  go_loopw [1, 5] (fun q i wr => ∃ (k : Nat) (m : Int) (F : Nat → Value), k ≤ n ∧ i = .int .i64 k ∧ q = .int .i64 m ∧ 0 ≤ m ∧ m ≤ 1 + k * 1048578 ∧ Chg lo hi w wr ∧ wr.rowIs g 27 (n * 3) F ∧
    (∀ j, k ≤ j → j < n → F (j * 3 + 2) = vrow R G j) ∧ ∀ j, k ≤ j → j < n → wr.rowIs (G j) 3 (R j).n (fun i => .int .i64 ((R j).f i))) (fun _ i _ => n - (intOf i).toNat)
  case atStart => exact ⟨0, 1, _, Nat.zero_le _, rfl, rfl, by omega, by omega, Chg.refl _ _ _, HR.out, fun j _ hj => by show c3 _ _ _ = _; rw [show (j * 3 + 2) / 3 = j by omega, show (j * 3 + 2) % 3 = 2 by omega]; rfl, fun j _ hj => (HS.out j hj).2.2.2⟩
  case round =>
    obtain ⟨k, m, F, hk, rfl, rfl, hm0, hm1, hC, hrow, hF, hG⟩ := hrel
    have HC := Lib.hid hC; clear hC
    have HROW := Lib.hid hrow
    have HF := Lib.hid hF; clear hF
    have HG := Lib.hid hG; clear hG
    by_cases hlt : k < n
    · have hc0 := hrow.cell (i := k * 3) (by omega)
      have hc1 := hrow.cell (i := k * 3 + 1) (by omega)
      have hc2 := hrow.cell (i := k * 3 + 2) (by omega)
      rw [HF.out k (Nat.le_refl _) hlt] at hc2
      unfold vrow at hc2
      have hf0 := hrow.frozen (k * 3)
      have hf1 := hrow.frozen (k * 3 + 1)
      have hgl := hrow.lt
      clear hrow
      obtain ⟨hgg, hgh, hsm, _⟩ := HS.out k hlt
      have hm2 : m ≤ 1099513000000 := by omega
      have hk0 : (0 : Int) ≤ (k : Int) := by omega
      have hk1 : (k : Int) < (n : Int) := by omega
      have hne : G k ≠ g := by omega
      have hrk := ((HG.out k (Nat.le_refl _) hlt).setOther (a := ⟨g, k * 3, none⟩) hne (.int .i64 m)).setOther (a := ⟨g, k * 3 + 1, none⟩) hne (.int .i64 (m + 1))
      have HRK := Lib.hid (WI.row hsm hrk)
      clear hrk
      go_wp2_with fail
      refine (C_markIntS _ _ _ _ (G k) (G k + 1) _ HRK.out (by omega) (by omega)).mono ?_
      rintro e w' ⟨rfl, _, hch⟩
      have HCH := Lib.hid hch
      clear hch
      go_wp2
      go_roundw
      case rel =>
        have hch := HCH.out
        have hsz := hch.size
        simp only [World.size_setCell] at hsz
        refine ⟨k + 1, m + 1 + 1 + (R k).n, _, by omega, by go_num, rfl, by omega, by omega, ?_, (((HROW.out.set (k * 3) _).set (k * 3 + 1) _).of_block (hch.block g (by simpa using hgl) (.inl hgg))), fun j hj1 hj2 => ?_, fun j hj1 hj2 => ?_⟩
        · exact ((HC.out.setCell (p := ⟨g, k * 3, none⟩) hg1 hg2 _).setCell (p := ⟨g, k * 3 + 1, none⟩) hg1 hg2 _).trans (hch.mono (by omega) (by omega))
        · show (if j * 3 + 2 = k * 3 + 1 then _ else if j * 3 + 2 = k * 3 then _ else F (j * 3 + 2)) = _
          rw [if_neg (by omega), if_neg (by omega)]
          exact HF.out j (by omega) hj2
        · have hj := HG.out j (by omega) hj2
          have hgj := (HS.out j hj2).1
          have hinc := HI.out k j (by omega) hj2
          have hne' : G j ≠ g := by omega
          exact ((hj.setOther (a := ⟨g, k * 3, none⟩) hne' _).setOther (a := ⟨g, k * 3 + 1, none⟩) hne' _).of_block (hch.block (G j) (by simpa using hj.lt) (.inr hinc))
      case measure => simp [intOf]; omega
    · go_wp2
      go_ret
      exact ⟨m, rfl, hm0, HC.out⟩
end Go.Proofs.Ytcdffikambbleaa
