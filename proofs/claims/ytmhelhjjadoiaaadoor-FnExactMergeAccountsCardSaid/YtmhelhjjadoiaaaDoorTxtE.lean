/- Marks on slices of texts. No condition but those stated. -/
import Derived.Test.YtmhelhjjadoiaaaDoorTxtD
import Derived.Laws.BytesArg
namespace Go.Proofs.YtmhelhjjadoiaaaDoor
set_option linter.unusedVariables false
set_option linter.unusedSimpArgs false
open Go.RowKit Go.Sort
/-- The digits of a number, ahead of a text. -/
def mkD (k : Nat) (o : ByteArray) : ByteArray := if h : k = 0 then o else mkD (k / 10) (strOfNums [48 + (k : Int) % 10] ++ o)
termination_by k
decreasing_by omega
theorem mkD_zero (o : ByteArray) : mkD 0 o = o := by rw [mkD]; simp
theorem mkD_pos {k : Nat} (h : 0 < k) (o : ByteArray) : mkD k o = mkD (k / 10) (strOfNums [48 + (k : Int) % 10] ++ o) := by rw [mkD, dif_neg (by omega)]
def mText (k : Nat) : ByteArray := ⟨#[109]⟩ ++ mkD k ⟨#[]⟩
theorem conv1 (w : World) (b : Int) : (convert 88 9 (.slice (some ⟨w.heap.size, 0, none⟩) 1 1)).run Tryd.prog (w.alloc (.cells #[.int .u8 b] 5)) = .ok (.string (strOfNums [b])) (w.alloc (.cells #[.int .u8 b] 5)) :=
  run_convert_bytes_arg _ 88 5 Tryd.underlying88 Tryd.underlying5 _ 0 1 1 [b] rfl (fun i hi => by obtain rfl : i = 0 := (by omega); simp) 9 Tryd.underlying9
theorem str1_size (b : Int) : (strOfNums [b]).size = 1 := rfl
set_option maxHeartbeats 1000000 in
set_option maxRecDepth 10000 in
theorem C_markText (k : Nat) (w : World) (h1 : 1 ≤ k) (h2 : k ≤ 1099511627776) :
    Calls Tryd.prog 67 #[.int .i64 k] w fun e w' => e = .returned (.string (mText k)) ∧ Below w.heap.size w w' := by
  have hk0 : decide (k = 0) = false := by simp; omega
  go_enter Tryd.func67, Tryd.ntmps67
  go_wp2
  go_loopw [0, 3] (fun q o wr => ∃ (K : Nat) (O : ByteArray), q = .int .i64 K ∧ o = .string O ∧ O.size + K ≤ k ∧ mkD K O = mkD k ⟨#[]⟩ ∧ Below w.heap.size w wr) (fun q _ _ => (intOf q).toNat)
  case atStart => exact ⟨k, ⟨#[]⟩, rfl, rfl, Nat.le_of_eq (Nat.zero_add k), rfl, Below.refl _ _⟩
  case round =>
    obtain ⟨K, O, rfl, rfl, hO, hm, hB⟩ := hrel
    have HM := Lib.hid hm; clear hm
    by_cases hlt : 0 < K
    · have hcv := conv1 wr
      have hmp := mkD_pos hlt O
      have hs1 := str1_size (48 + (K : Int) % 10)
      have HMP := Lib.hid hmp
      clear hmp
      go_wp2
      go_roundw
      case rel =>
        refine ⟨K / 10, strOfNums [48 + (K : Int) % 10] ++ O, by go_num, rfl, ?_, ?_, by (repeat (first | with_reducible exact Below.refl _ _ | with_reducible exact below_regrown _ _ _ | with_reducible refine bel_step0 (by assumption) ?_ | with_reducible refine bel_alloc0 ?_ _ | with_reducible refine bel_regrown0 ?_ _ _ | with_reducible refine bel_regrown ?_ (by first | omega | (simp; done) | (simp; omega)) _ _ | with_reducible refine below_drewN ?_ _ | with_reducible refine Below.drew ?_ | with_reducible refine Below.alloc ?_ (by first | omega | (simp; done) | (simp; omega)) _ | with_reducible refine Below.setCell ?_ (by first | omega | (simp; done) | (simp; omega)) _ | with_reducible refine bel_step (by assumption) (by first | omega | (simp; done) | (simp; omega)) ?_ | with_reducible refine bel_grown (by assumption) (by first | omega | (simp; done) | (simp; omega)) (by first | omega | (simp; done) | (simp; omega)) ?_))⟩
        · rw [ByteArray.size_append, str1_size]; omega
        · rw [← HMP.out]; exact HM.out
      case measure => simp [intOf]; omega
    · obtain rfl : K = 0 := by omega
      go_wp2
      go_ret
      exact ⟨by rw [mText, ← HM.out, mkD_zero]; rfl, hB⟩
set_option maxHeartbeats 1000000 in
theorem C_markStringS (v : Value) (n : Nat) (f : Nat → ByteArray) (k0 : Nat) (lo hi : Nat) (w : World) (h : WT lo hi w v n f) (h0 : 1 ≤ k0) (h1 : k0 + n ≤ 1099511627776) :
    Calls Tryd.prog 41 #[v, .int .i64 k0] w fun e w' => e = .returned (.int .i64 ((k0 + n : Nat) : Int)) ∧ WT lo hi w' v n (fun j => mText (k0 + j)) ∧ Chg lo hi w w' := by
  obtain ⟨A, cap, rfl, hr, hc, hm⟩ := h
  have HR := Lib.hid hr; clear hr
  go_enter Tryd.func41, Tryd.ntmps41
  go_wp2
  go_loopw [1, 5] (fun q i wr => ∃ k : Nat, k ≤ n ∧ i = .int .i64 k ∧ q = .int .i64 ((k0 + k : Nat) : Int) ∧ Chg lo hi w wr ∧
    (0 < n → ∃ b off, A = some ⟨b, off, none⟩ ∧ lo ≤ b ∧ b < hi ∧ b < wr.heap.size ∧ ∀ j, j < n → wr.cell? ⟨b, off + j, none⟩ = some (.string (if j < k then mText (k0 + j) else f j)) ∧ wr.frozen? ⟨b, off + j, none⟩ = false)) (fun _ i _ => n - (intOf i).toNat)
  case atStart => exact ⟨0, Nat.zero_le _, rfl, by simp, Chg.refl _ _ _, fun h0 => by simpa using HR.out h0⟩
  case round =>
    obtain ⟨k, hk, rfl, rfl, hC, hrow⟩ := hrel
    have HC := Lib.hid hC; clear hC
    have HROW := Lib.hid hrow; clear hrow
    by_cases hlt : k < n
    · obtain ⟨b, off, rfl, hb1, hb2, hb3, hcell⟩ := HROW.out (by omega)
      obtain ⟨hck, hfk⟩ := hcell k hlt
      have HCELL := Lib.hid hcell; clear hcell
      go_wp2_with fail
      refine (C_markText _ _ (by omega) (by omega)).mono ?_; rintro e w1 ⟨rfl, hb'⟩
      have hc1 := (hb'.cell (p := ⟨b, off + k, none⟩) hb3).trans hck
      have hf1 := (hb'.frozen (p := ⟨b, off + k, none⟩) hb3).trans hfk
      have HB' := Lib.hid hb'
      clear hck hfk hb'
      go_wp2
      go_roundw
      case rel =>
        have hb' := HB'.out
        refine ⟨k + 1, by omega, by go_num, by go_num, (HC.out.trans (Chg.of_below hb')).setCell (p := ⟨b, off + k, none⟩) hb1 hb2 _, fun _ => ⟨b, off, rfl, hb1, hb2, by simpa [World.setCell] using Nat.lt_of_lt_of_le hb3 hb'.size, fun j hj => ?_⟩⟩
        obtain ⟨c1, c2⟩ := HCELL.out j hj
        have d1 := (hb'.cell (p := ⟨b, off + j, none⟩) hb3).trans c1
        have d2 := (hb'.frozen (p := ⟨b, off + j, none⟩) hb3).trans c2
        refine ⟨?_, by rw [World.frozen?_setCell]; exact d2⟩
        by_cases e : j = k
        · subst e
          rw [World.cell?_setCell_same _ _ _ d1, if_pos (by omega)]
        · rw [World.cell?_setCell_other _ _ _ _ (by intro h; injection h with _ h _; omega), d1]
          by_cases e2 : j < k
          · rw [if_pos e2, if_pos (by omega)]
          · rw [if_neg e2, if_neg (by omega)]
      case measure => simp [intOf]; omega
    · go_wp2
      go_ret
      obtain rfl : k = n := by omega
      refine ⟨rfl, ⟨A, cap, rfl, fun h0 => ?_, hc, hm⟩, HC.out⟩
      obtain ⟨b, off, e, h3, h4, h5, hcell⟩ := HROW.out h0
      exact ⟨b, off, e, h3, h4, h5, fun j hj => by have := hcell j hj; rw [if_pos hj] at this; exact this⟩
set_option maxHeartbeats 1000000 in
theorem C_heldStringS (v : Value) (n : Nat) (k0 : Nat) (w : World) (h : TI w v n (fun j => mText (k0 + j))) (h0 : 1 ≤ k0) (h1 : k0 + n ≤ 1099511627776) :
    Calls Tryd.prog 53 #[v, .int .i64 k0] w fun e w' => e = .returned (.int .i64 ((k0 + n : Nat) : Int)) ∧ Below w.heap.size w w' := by
  obtain ⟨A, cap, rfl, hr, hc, hm⟩ := h
  have HR := Lib.hid hr; clear hr
  go_enter Tryd.func53, Tryd.ntmps53
  go_wp2
  go_loopw [1, 5] (fun q i wr => ∃ k : Nat, k ≤ n ∧ i = .int .i64 k ∧ q = .int .i64 ((k0 + k : Nat) : Int) ∧ Below w.heap.size w wr) (fun _ i _ => n - (intOf i).toNat)
  case atStart => exact ⟨0, Nat.zero_le _, rfl, by simp, Below.refl _ _⟩
  case round =>
    obtain ⟨k, hk, rfl, rfl, hB⟩ := hrel
    by_cases hlt : k < n
    · obtain ⟨b, off, rfl, hb, hcell⟩ := (HR.out.below hB) (by omega)
      have hck := cell_regrown (hcell k hlt)
      have hn0 : (k : Int) < (n : Int) := by omega
      obtain ⟨s0, hs0⟩ : ∃ s0, mText (k0 + k) = s0 := ⟨_, rfl⟩
      have HE : ∀ d os, Calls Tryd.prog 67 #[.int .i64 ((k0 + k : Nat) : Int)] (grow (redrawn wr d) os) fun e w'' => e = .returned (.string s0) ∧ ∃ p : Regrown, w'' = grow (redrawn wr p.d) p.os :=
        fun d os => Calls.regrown_of ((C_markText _ _ (by omega) (by omega)).mono fun e w' hh => ⟨hh.1.trans (by rw [hs0]), hh.2⟩)
      simp only [hs0] at hck
      clear hcell hs0
      go_wp2
      (refine wp_region_quiet_below (by kernel_rfl) (by kernel_rfl) ?_; (repeat (go_big_quiet_step (exact HE _ _))); refine wpQuiet_nil ?_; intro _ hw'; obtain ⟨⟨dq, osq⟩, hw''⟩ := hw'; subst hw'')
      go_wp2
      go_roundw
      case rel => exact ⟨k + 1, by omega, by go_num, by go_num, by (repeat (first | with_reducible exact Below.refl _ _ | with_reducible exact below_regrown _ _ _ | with_reducible refine bel_step0 (by assumption) ?_ | with_reducible refine bel_alloc0 ?_ _ | with_reducible refine bel_regrown0 ?_ _ _ | with_reducible refine bel_regrown ?_ (by first | omega | (simp; done) | (simp; omega)) _ _ | with_reducible refine below_drewN ?_ _ | with_reducible refine Below.drew ?_ | with_reducible refine Below.alloc ?_ (by first | omega | (simp; done) | (simp; omega)) _ | with_reducible refine Below.setCell ?_ (by first | omega | (simp; done) | (simp; omega)) _ | with_reducible refine bel_step (by assumption) (by first | omega | (simp; done) | (simp; omega)) ?_ | with_reducible refine bel_grown (by assumption) (by first | omega | (simp; done) | (simp; omega)) (by first | omega | (simp; done) | (simp; omega)) ?_))⟩
      case measure => simp [intOf]; omega
    · go_wp2
      go_ret
      obtain rfl : k = n := by omega
      exact ⟨rfl, hB⟩
theorem C_markS1 (v : Value) (n : Nat) (f : Nat → ByteArray) (lo hi : Nat) (w : World) (h : WT lo hi w v n f) (h1 : n ≤ 1099511627775) :
    Calls Tryd.prog 41 #[v, .int .i64 1] w fun e w' => e = .returned (.int .i64 (1 + n)) ∧ WT lo hi w' v n (fun j => mText (1 + j)) ∧ Chg lo hi w w' :=
  (C_markStringS v n f 1 lo hi w h (by omega) (by omega)).mono fun e w' hh => ⟨hh.1.trans (ret_int (by omega)), hh.2⟩
theorem C_heldS1 (v : Value) (n : Nat) (w : World) (h : TI w v n (fun j => mText (1 + j))) (h1 : n ≤ 1099511627775) :
    Calls Tryd.prog 53 #[v, .int .i64 1] w fun e w' => e = .returned (.int .i64 (1 + n)) ∧ Below w.heap.size w w' :=
  (C_heldStringS v n 1 w h (by omega) (by omega)).mono fun e w' hh => ⟨hh.1.trans (ret_int (by omega)), hh.2⟩
end Go.Proofs.YtmhelhjjadoiaaaDoor
