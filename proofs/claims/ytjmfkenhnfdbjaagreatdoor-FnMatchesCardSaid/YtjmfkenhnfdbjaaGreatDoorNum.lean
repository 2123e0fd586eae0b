/- Numbers as texts: strconv.Itoa and the reference's own. No condition but those stated. -/
import Derived.Test.YtjmfkenhnfdbjaaGreatDoorMem
import Derived.Test.YtjmfkenhnfdbjaaGreatDoorItoa
import Derived.Lib.ItoaMem
import Derived.Lib.AppendIntMem
import Derived.Deep.RegionHeld3
import Derived.Deep.DrawnRows
namespace Go.Proofs.YtjmfkenhnfdbjaaGreatDoor
set_option linter.unusedVariables false
set_option linter.unusedSimpArgs false
open Go.RowKit Go.Sort
def dec (n : Int) : ByteArray := ⟨(Lib.itoa n).toArray⟩
def decN (u : Nat) : ByteArray := ⟨(Lib.decDigits u).toArray⟩
theorem dec_nat (u : Nat) : dec (u : Int) = decN u := by unfold dec decN; rw [Lib.itoa_nonneg]
theorem decN_small {u : Nat} (h : u < 10) : decN u = ⟨#[UInt8.ofNat (48 + u)]⟩ := by unfold decN; rw [Lib.decDigits_one h]
theorem decN_step {u : Nat} (h : ¬ u < 10) : decN u = decN (u / 10) ++ ⟨#[UInt8.ofNat (48 + u % 10)]⟩ := by
  unfold decN
  rw [Lib.decDigits, dif_neg h]
  apply ByteArray.ext
  simp [ByteArray.data_append]
theorem decN_size {u : Nat} (h : u < 1000000) : (decN u).size ≤ 6 := by
  have : (decN u).size = Lib.nDigits u := by unfold decN; show (Lib.decDigits u).toArray.size = _; simp [Lib.decDigits_length]
  rw [this]
  unfold Lib.nDigits; split
  · omega
  · unfold Lib.nDigits; split
    · omega
    · unfold Lib.nDigits; split
      · omega
      · unfold Lib.nDigits; split
        · omega
        · unfold Lib.nDigits; split
          · omega
          · unfold Lib.nDigits; split
            · omega
            · omega
theorem below_ahead (w : World) (k : Nat) (os : Array Obj) : Below w.heap.size w (grow (w.drewN k) os) :=
  ⟨rfl, rfl, rfl, by simp [grow, World.drewN], fun q hq => by simp [grow, World.drewN, Array.getElem?_append, hq]⟩
abbrev Tab (w : World) : Prop := Lib.TabIs Tryz.prog w "internal/strconv.uint64pow10" .u64 Lib.pow10Tab
theorem Tab.below {w w' : World} (h : Tab w) (hb : Below w.heap.size w w') : Tab w' := Lib.tabBelow_of_tabIs h w' hb
theorem C_Itoa (u : Nat) (hu : u < 1000000) (w : World) (ht : Tab w) :
    Calls Tryz.prog 126 #[.int .i64 (u : Int)] w fun e w' => e = .returned (.string (decN u)) ∧ Below w.heap.size w w' :=
  (show Calls Tryz.prog 126 #[.int .i64 (u : Int)] w fun e w' => e = .returned (.string (dec (u : Int))) ∧ ∃ k os, w' = grow (w.drewN k) os from
    Any.strconv_Itoa Tryz.laysM171 (u : Int) (by omega) (by omega) w ht).mono fun e w' ⟨h1, k, os, h2⟩ => ⟨h1.trans (by rw [dec_nat]), by rw [h2]; exact below_ahead _ _ _⟩
theorem C_decimal (u : Nat) (hu : u < 1000000) (w : World) (ht : Tab w) :
    Calls Tryz.prog 123 #[.int .i64 (u : Int)] w fun e w' => e = .returned (.string (decN u)) ∧ Below w.heap.size w w' := by
  have HT := Lib.hid ht
  clear ht
  go_enter Tryz.func123, Tryz.ntmps123
  go_wp2_with fail
  refine (C_Itoa u hu _ HT.out).mono ?_; rintro e w1 ⟨rfl, hb1⟩
  go_wp2
  go_ret
  exact ⟨rfl, hb1⟩
def dig10 : ByteArray := ⟨#[48, 49, 50, 51, 52, 53, 54, 55, 56, 57]⟩
theorem dig10_piece {i : Nat} (h : i < 10) : dig10.extract i (i + 1) = ⟨#[UInt8.ofNat (48 + i)]⟩ :=
  (show ∀ i : Fin 10, dig10.extract i.val (i.val + 1) = ⟨#[UInt8.ofNat (48 + i.val)]⟩ by decide +kernel) ⟨i, h⟩
set_option maxRecDepth 100000 in
theorem C_l1Num (u : Nat) : u < 1000000 → ∀ w, Calls Tryz.prog 93 #[.int .i64 (u : Int)] w fun e w' => e = .returned (.string (decN u)) ∧ Below w.heap.size w w' := by
  induction u using Nat.strongRecOn with
  | _ u ih =>
    intro hu w
    have HIH := Lib.hid ih
    clear ih
    have h0 : ¬ (u : Int) < 0 := by omega
    by_cases h1 : u < 10
    · have h2 : (u : Int) < 10 := by omega
      go_enter Tryz.func93, Tryz.ntmps93
      go_wp2
      go_ret
      exact ⟨by rw [decN_small h1]; exact congrArg (fun x => Ending.returned (Value.string x)) (dig10_piece h1), by (repeat (first | with_reducible exact Below.refl _ _ | with_reducible exact below_regrown _ _ _ | with_reducible refine bel_step0 (by assumption) ?_ | with_reducible refine bel_alloc0 ?_ _ | with_reducible refine bel_regrown0 ?_ _ _ | with_reducible refine bel_regrown ?_ (by first | omega | (simp; done) | (simp; omega)) _ _ | with_reducible refine below_drewN ?_ _ | with_reducible refine Below.drew ?_ | with_reducible refine Below.alloc ?_ (by first | omega | (simp; done) | (simp; omega)) _ | with_reducible refine Below.setCell ?_ (by first | omega | (simp; done) | (simp; omega)) _ | with_reducible refine bel_step (by assumption) (by first | omega | (simp; done) | (simp; omega)) ?_ | with_reducible refine bel_grown (by assumption) (by first | omega | (simp; done) | (simp; omega)) (by first | omega | (simp; done) | (simp; omega)) ?_))⟩
    · have h2 : ¬ (u : Int) < 10 := by omega
      obtain ⟨a, ha⟩ : ∃ a, a = u / 10 := ⟨_, rfl⟩
      obtain ⟨b, hb⟩ : ∃ b, b = u % 10 := ⟨_, rfl⟩
      have hb10 : b < 10 := by omega
      have ha6 : a < 1000000 := by omega
      have hau : a < u := by omega
      have hq : (u : Int).tdiv 10 = (a : Int) := by rw [ha, Int.tdiv_eq_ediv_of_nonneg (by omega)]; omega
      have hr : (u : Int).tmod 10 = (b : Int) := by rw [hb, Int.tmod_eq_emod_of_nonneg (by omega)]; omega
      have hsz := decN_size ha6
      have hstep : decN u = decN a ++ ⟨#[UInt8.ofNat (48 + b)]⟩ := by rw [decN_step h1, ha, hb]
      have HSTEP := Lib.hid hstep
      have hd1 : (dig10.extract b (b + 1)).size = 1 := by rw [dig10_piece hb10]; rfl
      have HE : ∀ W, Below w.heap.size w W → Calls Tryz.prog 93 #[.int .i64 (a : Int)] W fun e w' => e = .returned (.string (decN a)) ∧ Below w.heap.size w w' := fun W hW => (HIH.out a hau ha6 W).mono fun e w' hh => ⟨hh.1, bel_step0 hh.2 hW⟩
      have hsum : (decN a ++ dig10.extract b (b + 1)).size ≤ 7 := by rw [ByteArray.size_append, hd1]; omega
      have hwa : IntKind.i64.wrap (a : Int) = (a : Int) := by rw [IntKind.wrap_i64]; omega
      have hwb : IntKind.i64.wrap (b : Int) = (b : Int) := by rw [IntKind.wrap_i64]; omega
      have hwb1 : IntKind.i64.wrap ((b : Int) + 1) = (b : Int) + 1 := by rw [IntKind.wrap_i64]; omega
      have hb0 : (0 : Int) ≤ (b : Int) := by omega
      have hb2 : (0 : Int) ≤ (b : Int) + 1 := by omega
      have hb3 : (b : Int) ≤ (b : Int) + 1 := by omega
      have hns : ¬ 9223372036854775807 < (decN a).size + 1 := by omega
      have hb9 : (b : Int) + 1 ≤ 10 := by omega
      unfold dig10 at hd1 hsum
      clear hstep ha hb HIH
      go_enter Tryz.func93, Tryz.ntmps93
      go_upto_region 5 with fail
      go_region_held3 (fun W => Below w.heap.size w W) (((repeat (first | with_reducible exact Below.refl _ _ | with_reducible exact below_regrown _ _ _ | with_reducible refine bel_step0 (by assumption) ?_ | with_reducible refine bel_alloc0 ?_ _ | with_reducible refine bel_regrown0 ?_ _ _ | with_reducible refine bel_regrown ?_ (by first | omega | (simp; done) | (simp; omega)) _ _ | with_reducible refine below_drewN ?_ _ | with_reducible refine Below.drew ?_ | with_reducible refine Below.alloc ?_ (by first | omega | (simp; done) | (simp; omega)) _ | with_reducible refine Below.setCell ?_ (by first | omega | (simp; done) | (simp; omega)) _ | with_reducible refine bel_step (by assumption) (by first | omega | (simp; done) | (simp; omega)) ?_ | with_reducible refine bel_grown (by assumption) (by first | omega | (simp; done) | (simp; omega)) (by first | omega | (simp; done) | (simp; omega)) ?_)))) (first | (go_at_call 93; refine (HE _ (by (repeat (first | with_reducible exact Below.refl _ _ | with_reducible exact below_regrown _ _ _ | with_reducible refine bel_step0 (by assumption) ?_ | with_reducible refine bel_alloc0 ?_ _ | with_reducible refine bel_regrown0 ?_ _ _ | with_reducible refine bel_regrown ?_ (by first | omega | (simp; done) | (simp; omega)) _ _ | with_reducible refine below_drewN ?_ _ | with_reducible refine Below.drew ?_ | with_reducible refine Below.alloc ?_ (by first | omega | (simp; done) | (simp; omega)) _ | with_reducible refine Below.setCell ?_ (by first | omega | (simp; done) | (simp; omega)) _ | with_reducible refine bel_step (by assumption) (by first | omega | (simp; done) | (simp; omega)) ?_ | with_reducible refine bel_grown (by assumption) (by first | omega | (simp; done) | (simp; omega)) (by first | omega | (simp; done) | (simp; omega)) ?_)))).mono ?_; rintro e w' ⟨rfl, hb1⟩))
      all_goals go_wp2
      all_goals go_ret
      all_goals exact ⟨by rw [HSTEP.out, ← dig10_piece hb10]; rfl, hb1⟩
end Go.Proofs.YtjmfkenhnfdbjaaGreatDoor
