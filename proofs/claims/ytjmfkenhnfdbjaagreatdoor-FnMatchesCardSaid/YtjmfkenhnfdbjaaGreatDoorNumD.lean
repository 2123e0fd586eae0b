/- The reference's number as a text: only draws. No condition but those stated. -/
import Derived.Test.YtjmfkenhnfdbjaaGreatDoorNum
namespace Go.Proofs.YtjmfkenhnfdbjaaGreatDoor
set_option linter.unusedVariables false
set_option linter.unusedSimpArgs false
open Go.RowKit Go.Sort
theorem drewN_drew (w : World) : ∃ k, w.drew = w.drewN k := ⟨1, rfl⟩
theorem drewN_add (w : World) (a b : Nat) : (w.drewN a).drewN b = w.drewN (a + b) := by
  simp [World.drewN, Nat.add_assoc, Nat.add_comm, Nat.add_left_comm]
theorem drewN_step {w W w' : World} (h : ∃ k, W = w.drewN k) (h2 : ∃ k, w' = W.drewN k) : ∃ k, w' = w.drewN k := by
  obtain ⟨a, rfl⟩ := h
  obtain ⟨b, rfl⟩ := h2
  exact ⟨a + b, drewN_add w a b⟩
set_option maxRecDepth 100000 in
theorem C_l1NumD (u : Nat) : u < 1000000 → ∀ w, Calls Tryz.prog 93 #[.int .i64 (u : Int)] w fun e w' => e = .returned (.string (decN u)) ∧ ∃ k, w' = w.drewN k := by
  induction u using Nat.strongRecOn with
  | _ u ih =>
    intro hu w
    have HIH := Lib.hid ih
    clear ih
    have h0 : ¬ (u : Int) < 0 := by omega
    by_cases h1 : u < 10
    · have h2 : (u : Int) < 10 := by omega
      go_enter Tryz.func93, Tryz.ntmps93
      go_wp2
      go_ret
      exact ⟨by rw [decN_small h1]; exact congrArg (fun x => Ending.returned (Value.string x)) (dig10_piece h1), 0, by simp [World.drewN_zero]⟩
    · have h2 : ¬ (u : Int) < 10 := by omega
      obtain ⟨a, ha⟩ : ∃ a, a = u / 10 := ⟨_, rfl⟩
      obtain ⟨b, hb⟩ : ∃ b, b = u % 10 := ⟨_, rfl⟩
      have hb10 : b < 10 := by omega
      have ha6 : a < 1000000 := by omega
      have hau : a < u := by omega
      have hq : (u : Int).tdiv 10 = (a : Int) := by rw [ha, Int.tdiv_eq_ediv_of_nonneg (by omega)]; omega
      have hr : (u : Int).tmod 10 = (b : Int) := by rw [hb, Int.tmod_eq_emod_of_nonneg (by omega)]; omega
      have hsz := decN_size ha6
      have hstep : decN u = decN a ++ ⟨#[UInt8.ofNat (48 + b)]⟩ := by rw [decN_step h1, ha, hb]
      have HSTEP := Lib.hid hstep
      have hd1 : (dig10.extract b (b + 1)).size = 1 := by rw [dig10_piece hb10]; rfl
      have HE : ∀ W, (∃ k, W = w.drewN k) → Calls Tryz.prog 93 #[.int .i64 (a : Int)] W fun e w' => e = .returned (.string (decN a)) ∧ (∃ k, w' = w.drewN k) := fun W hW => (HIH.out a hau ha6 W).mono fun e w' hh => ⟨hh.1, drewN_step hW hh.2⟩
      have hsum : (decN a ++ dig10.extract b (b + 1)).size ≤ 7 := by rw [ByteArray.size_append, hd1]; omega
      have hwa : IntKind.i64.wrap (a : Int) = (a : Int) := by rw [IntKind.wrap_i64]; omega
      have hwb : IntKind.i64.wrap (b : Int) = (b : Int) := by rw [IntKind.wrap_i64]; omega
      have hwb1 : IntKind.i64.wrap ((b : Int) + 1) = (b : Int) + 1 := by rw [IntKind.wrap_i64]; omega
      have hb0 : (0 : Int) ≤ (b : Int) := by omega
      have hb2 : (0 : Int) ≤ (b : Int) + 1 := by omega
      have hb3 : (b : Int) ≤ (b : Int) + 1 := by omega
      have hns : ¬ 9223372036854775807 < (decN a).size + 1 := by omega
      have hb9 : (b : Int) + 1 ≤ 10 := by omega
      unfold dig10 at hd1 hsum
      clear hstep ha hb HIH
      go_enter Tryz.func93, Tryz.ntmps93
      go_upto_region 5 with fail
      go_region_held3 (fun W => ∃ k, W = w.drewN k) ((first | assumption | exact drewN_drew w)) (first | (go_at_call 93; refine (HE _ (by first | assumption | exact drewN_drew w)).mono ?_; rintro e w' ⟨rfl, hb1⟩))
      all_goals go_wp2
      all_goals go_ret
      all_goals exact ⟨by rw [HSTEP.out, ← dig10_piece hb10]; rfl, hb1⟩
end Go.Proofs.YtjmfkenhnfdbjaaGreatDoor
