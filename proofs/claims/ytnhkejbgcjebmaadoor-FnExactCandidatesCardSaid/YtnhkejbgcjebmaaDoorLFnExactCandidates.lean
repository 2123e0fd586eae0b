/- The law FnExactCandidates returns true, whatever its arguments, and leaves them as they were. No condition beyond the row's own. -/
import Derived.Test.YtnhkejbgcjebmaaDoorClueJ
import Derived.Test.YtnhkejbgcjebmaaDoorTxtE
import Derived.Test.YtnhkejbgcjebmaaDoorDoorW
import Derived.Test.YtnhkejbgcjebmaaDoorCards
import Derived.Test.YtnhkejbgcjebmaaDoorTie
import Derived.Test.YtnhkejbgcjebmaaDoorOpen
import Derived.Deep.DeepHandedRow
import Derived.LaidMore
import Derived.Deep.DeepLaidRun
import Derived.PinnedBridge
import Derived.OpenShut
import Derived.ChangeMaps5
namespace Go.Proofs.YtnhkejbgcjebmaaDoor.lawFnExactCandidates
open Go.ChangeShapes Go.WideShapes Go.ChangeAt Go.RowKit Go.Deep Go.Joins
open Go.ChangeMaps (open_string shut_string)
set_option linter.unusedVariables false
set_option linter.unusedSimpArgs false
set_option maxHeartbeats 4000000 in
set_option maxRecDepth 100000 in
theorem walk (v : Value) (y : Nat × (Nat → ByteArray)) (a b : Int) (s t : ByteArray) (w : World) (h : TI w v y.1 y.2 ∧ ∀ j, j < y.1 → (y.2 j).size ≤ 9223372036854775807) (_ : I64 a) (_ : I64 b) (hs1 : s.size ≤ maxLen) (hs2 : t.size ≤ maxLen) :
    Calls Tryd.prog 11 #[v, .agg #[.int .i64 a, .int .i64 b, .string s, .string t]] w fun e w' => e = .returned (.bool true) ∧ Below w.heap.size w w' := by
  unfold maxLen at hs1 hs2
  obtain ⟨n, f⟩ := y
  obtain ⟨h, hs⟩ := h
  simp only at h hs
  have HS := Lib.hid hs; clear hs
  obtain ⟨w0, hw0⟩ : ∃ w0, w0 = w.alloc (.cells #[.int .i64 a, .int .i64 b, .string s, .string t] 26) := ⟨_, rfl⟩
  have B0 : Below w.heap.size w w0 := by rw [hw0]; (repeat (first | with_reducible exact Below.refl _ _ | with_reducible exact below_regrown _ _ _ | with_reducible refine bel_step0 (by assumption) ?_ | with_reducible refine bel_alloc0 ?_ _ | with_reducible refine bel_regrown0 ?_ _ _ | with_reducible refine bel_regrown ?_ (by first | omega | (simp; done) | (simp; omega)) _ _ | with_reducible refine below_drewN ?_ _ | with_reducible refine Below.drew ?_ | with_reducible refine Below.alloc ?_ (by first | omega | (simp; done) | (simp; omega)) _ | with_reducible refine Below.setCell ?_ (by first | omega | (simp; done) | (simp; omega)) _ | with_reducible refine bel_step (by assumption) (by first | omega | (simp; done) | (simp; omega)) ?_ | with_reducible refine bel_grown (by assumption) (by first | omega | (simp; done) | (simp; omega)) (by first | omega | (simp; done) | (simp; omega)) ?_))
  have hcl : clueAt w0 w.heap.size a b s t := by rw [hw0]; exact ⟨by simp, by simp, by simp, by simp, by simp⟩
  have HW0 := Lib.hid hw0
  have h0 := h.below B0
  clear hw0
  by_cases hbig : szT 1048576 n f < 0
  · go_enter Tryd.func11, Tryd.ntmps11
    go_wp2_with fail
    rw [← HW0.out]
    refine (C_szStringS _ _ _ _ _ h0 HS.out (by omega) (by omega)).mono ?_; rintro e w1 ⟨rfl, rfl⟩
    go_wp2_with fail
    go_ret
    exact ⟨rfl, B0⟩
  have hbig0 : 0 ≤ szT 1048576 n f := by omega
  have hn : n ≤ 1048576 := by have := (szT_small hbig0).1; omega
  have hz1 := szT_le hbig0
  obtain ⟨z, hz⟩ : ∃ z, szT 1048576 n f = z := ⟨_, rfl⟩
  rw [hz] at hbig0 hz1
  have HZ := Lib.hid hz
  clear hz hbig
  by_cases hbc : szC z s t < 0
  · go_enter Tryd.func11, Tryd.ntmps11
    go_wp2_with fail
    rw [← HW0.out]
    refine (C_szStringS _ _ _ _ _ h0 HS.out (by omega) (by omega)).mono ?_; rintro e w1 ⟨rfl, rfl⟩
    rw [HZ.out]
    obtain ⟨q, q0, q1, q2, q3⟩ := hcl
    go_wp2_with fail
    refine (C_szClue _ _ _ _ _ _ hs1 hs2 (by omega) (by omega)).mono ?_; rintro e w2 ⟨rfl, hb2⟩
    go_wp2_with fail
    go_ret
    exact ⟨rfl, bel_step0 hb2 B0⟩
  obtain ⟨z2, hz2⟩ : ∃ z2, szC z s t = z2 := ⟨_, rfl⟩
  rw [hz2] at hbc
  have HZ2 := Lib.hid hz2
  obtain ⟨ok, hok⟩ : ∃ ok, (dictB n f && okC a b s t) = ok := ⟨_, rfl⟩
  obtain ⟨L, hL⟩ : ∃ L, candL n f a b s t = L := ⟨_, rfl⟩
  have hLl : L.length ≤ 12 := by rw [← hL]; exact candL_le
  obtain ⟨m, hm⟩ : ∃ m, L.length = m := ⟨_, rfl⟩
  obtain ⟨F, hF⟩ : ∃ F, atT L = F := ⟨_, rfl⟩
  have CS : ∀ W v (hv : TI W v n f), Calls Tryd.prog 37 #[v, .agg #[.int .i64 a, .int .i64 b, .string s, .string t]] W fun e w' => ∃ v', e = .returned (.tuple #[v', .bool ok]) ∧ WT W.heap.size w'.heap.size w' v' m F ∧ Below W.heap.size W w' := fun W v hv =>
    (C_CandidatesS v n f a b s t W hv HS.out hs1 hs2).mono fun e w' ⟨v', e1, e2, e3⟩ => ⟨v', by rw [e1, hok], by rw [hL] at e2; have := e2.wt; rwa [hm, hF] at this, e3⟩
  have CI : ∀ W v (hv : TI W v n f), Calls Tryd.prog 38 #[v, .agg #[.int .i64 a, .int .i64 b, .string s, .string t]] W fun e w' => ∃ v', e = .returned (.tuple #[v', .bool ok]) ∧ WT W.heap.size w'.heap.size w' v' m F ∧ Below W.heap.size W w' := fun W v hv =>
    (C_CandidatesI v n f a b s t W hv HS.out hs1 hs2).mono fun e w' ⟨v', e1, e2, e3⟩ => ⟨v', by rw [e1, hok], by rwa [hL, hm, hF] at e2, e3⟩
  rw [hm] at hLl
  have HC := Lib.hid (And.intro CI CS)
  have HH := Lib.hid h0
  have HCL := Lib.hid hcl
  have HB0 := Lib.hid B0
  clear hok hL hm hF CI CS hz2 h h0 B0 hcl
  go_enter Tryd.func11, Tryd.ntmps11
  go_wp2_with fail
  rw [← HW0.out]
  refine (C_szStringS _ _ _ _ _ HH.out HS.out (by omega) (by omega)).mono ?_; rintro e w1 ⟨rfl, rfl⟩
  rw [HZ.out]
  obtain ⟨q, q0, q1, q2, q3⟩ := HCL.out
  go_wp2_with fail
  refine (C_szClue _ _ _ _ _ _ hs1 hs2 (by omega) (by omega)).mono ?_; rintro e w2 ⟨rfl, hb2⟩
  rw [HZ2.out]
  have htix := Lib.hid (HH.out.below hb2)
  have hclx := Lib.hid (HCL.out.below hb2)
  have HB2 := Lib.hid hb2
  have hz2 := hb2.size
  clear q q0 q1 q2 q3 hb2
  go_upto_region 8 with fail
  go_cut [6, 7] (fun s6 s7 wx => s7 = .bool ok ∧ WT w2.heap.size wx.heap.size wx s6 m F ∧ Below w2.heap.size w2 wx)
  case first =>
    have r0 : ∀ W, Below w2.heap.size w2 W → W.cell? ⟨w.heap.size, 0, none⟩ = some (.int .i64 a) := fun W hW => (hclx.out.below hW).2.1
    have r1 : ∀ W, Below w2.heap.size w2 W → W.cell? ⟨w.heap.size, 1, none⟩ = some (.int .i64 b) := fun W hW => (hclx.out.below hW).2.2.1
    have r2 : ∀ W, Below w2.heap.size w2 W → W.cell? ⟨w.heap.size, 2, none⟩ = some (.string s) := fun W hW => (hclx.out.below hW).2.2.2.1
    have r3 : ∀ W, Below w2.heap.size w2 W → W.cell? ⟨w.heap.size, 3, none⟩ = some (.string t) := fun W hW => (hclx.out.below hW).2.2.2.2
    go_region_held3 (fun W => Below w2.heap.size w2 W) (((repeat (first | with_reducible exact Below.refl _ _ | with_reducible exact below_regrown _ _ _ | with_reducible refine bel_step0 (by assumption) ?_ | with_reducible refine bel_alloc0 ?_ _ | with_reducible refine bel_regrown0 ?_ _ _ | with_reducible refine bel_regrown ?_ (by first | omega | (simp; done) | (simp; omega)) _ _ | with_reducible refine below_drewN ?_ _ | with_reducible refine Below.drew ?_ | with_reducible refine Below.alloc ?_ (by first | omega | (simp; done) | (simp; omega)) _ | with_reducible refine Below.setCell ?_ (by first | omega | (simp; done) | (simp; omega)) _ | with_reducible refine bel_step (by assumption) (by first | omega | (simp; done) | (simp; omega)) ?_ | with_reducible refine bel_grown (by assumption) (by first | omega | (simp; done) | (simp; omega)) (by first | omega | (simp; done) | (simp; omega)) ?_)))) (first | (go_at_call 26; refine (C_toStringS _ _ _ _ (htix.out.below (by (repeat (first | with_reducible exact Below.refl _ _ | with_reducible exact below_regrown _ _ _ | with_reducible refine bel_step0 (by assumption) ?_ | with_reducible refine bel_alloc0 ?_ _ | with_reducible refine bel_regrown0 ?_ _ _ | with_reducible refine bel_regrown ?_ (by first | omega | (simp; done) | (simp; omega)) _ _ | with_reducible refine below_drewN ?_ _ | with_reducible refine Below.drew ?_ | with_reducible refine Below.alloc ?_ (by first | omega | (simp; done) | (simp; omega)) _ | with_reducible refine Below.setCell ?_ (by first | omega | (simp; done) | (simp; omega)) _ | with_reducible refine bel_step (by assumption) (by first | omega | (simp; done) | (simp; omega)) ?_ | with_reducible refine bel_grown (by assumption) (by first | omega | (simp; done) | (simp; omega)) (by first | omega | (simp; done) | (simp; omega)) ?_)))) hn).mono ?_; rintro e u2 ⟨v2, rfl, hv2, hb2⟩) | (go_at_call 19; refine (C_toClue _ _ _ _ _).mono ?_; rintro e u3 ⟨rfl, hb3⟩; (try have hv3 := hv2.below hb3)) | (go_at_call 37; (first | (with_reducible refine (HC.out.2 _ _ hv3.ti).mono ?_) | (with_reducible refine (HC.out.2 _ _ hv2.ti).mono ?_)); rintro e u4 ⟨v4, rfl, hv4, hb4⟩))
    all_goals
      go_wp2_with fail
      go_meet
      exact ⟨rfl, hv4.mono (by have z2 := hb2.size; have z3 := hb3.size; simp at z2 z3 ⊢; omega) (Nat.le_refl _), by (repeat (first | with_reducible exact Below.refl _ _ | with_reducible exact below_regrown _ _ _ | with_reducible refine bel_step0 (by assumption) ?_ | with_reducible refine bel_alloc0 ?_ _ | with_reducible refine bel_regrown0 ?_ _ _ | with_reducible refine bel_regrown ?_ (by first | omega | (simp; done) | (simp; omega)) _ _ | with_reducible refine below_drewN ?_ _ | with_reducible refine Below.drew ?_ | with_reducible refine Below.alloc ?_ (by first | omega | (simp; done) | (simp; omega)) _ | with_reducible refine Below.setCell ?_ (by first | omega | (simp; done) | (simp; omega)) _ | with_reducible refine bel_step (by assumption) (by first | omega | (simp; done) | (simp; omega)) ?_ | with_reducible refine bel_grown (by assumption) (by first | omega | (simp; done) | (simp; omega)) (by first | omega | (simp; done) | (simp; omega)) ?_))⟩
  case rest =>
    rename World => wx
    obtain ⟨rfl, ho3, hbx⟩ := hcut
    have B3 := bel_step0 hbx HB2.out
    have O3 := Lib.hid ho3
    clear htix hclx HB2 ho3 hbx
    go_wp2_with fail
    refine (C_toStringS _ _ _ _ (HH.out.below B3) hn).mono ?_; rintro e w4 ⟨v4, rfl, hv4, hb4⟩
    have Y4 := Lib.hid hv4.wt
    have B4 := bel_step0 hb4 B3
    have F4 := Lib.hid hb4
    have hzx := B3.size
    clear hv4 hb4 B3
    obtain ⟨q, q0, q1, q2, q3⟩ := HCL.out.below B4
    go_wp2_with fail
    clear q q0 q1 q2 q3
    refine (C_toClue _ _ _ _ _).mono ?_; rintro e w5 ⟨rfl, hb5⟩
    have B5 := bel_step0 hb5 B4
    have F5 := Lib.hid (bel_step0 hb5 F4.out)
    have Y5 := Lib.hid (Y4.out.below hb5)
    have hz45 := hb5.size
    have hzx4 := F4.out.size
    clear Y4 F4 B4 hb5
    go_wp2_with fail
    refine (HC.out.1 _ _ Y5.out.ti).mono ?_; rintro e w6 ⟨v6, rfl, ht6, hb6⟩
    have B6 := bel_step0 hb6 B5
    have F6 := Lib.hid (bel_step0 hb6 F5.out)
    have Y6 := Lib.hid (Y5.out.below hb6)
    have T6 := Lib.hid ht6
    have hz56 := hb6.size
    clear ht6 B5 F5 Y5 hb6
    go_wp2_with fail
    refine (C_eqStringS_same _ _ _ _ _ T6.out.ti (O3.out.below F6.out).ti).mono ?_; rintro e w7 ⟨rfl, hb7⟩
    have B7 := bel_step0 hb7 B6
    have F7 := Lib.hid (bel_step0 hb7 F6.out)
    have Y7 := Lib.hid (Y6.out.below hb7)
    have T7 := Lib.hid (T6.out.below hb7)
    clear B6 F6 Y6 T6 hb7
    go_wp2_with fail
    refine (C_toStringS _ _ _ _ (HH.out.below B7) hn).mono ?_; rintro e w8 ⟨v8, rfl, hv8, hb8⟩
    have B8 := bel_step0 hb8 B7
    have F8 := Lib.hid (bel_step0 hb8 F7.out)
    have Y8 := Lib.hid (Y7.out.below hb8)
    have T8 := Lib.hid (T7.out.below hb8)
    clear B7 F7 Y7 T7 hb8
    go_wp2_with fail
    refine (C_eqStringS_same _ _ _ _ _ Y8.out.ti hv8.ti).mono ?_; rintro e w9 ⟨rfl, hb9⟩
    have B9 := bel_step0 hb9 B8
    have F9 := Lib.hid (bel_step0 hb9 F8.out)
    have Y9 := Lib.hid (Y8.out.below hb9)
    have T9 := Lib.hid (T8.out.below hb9)
    clear B8 F8 Y8 T8 hb9 hv8
    go_wp2_with fail
    refine (C_markS1 _ _ _ _ _ _ Y9.out (by omega)).mono ?_; rintro e w10 ⟨rfl, _, hc10⟩
    have B10 := bel_chg hc10 hzx B9
    have F10 := Lib.hid (bel_chg hc10 (Nat.le_refl _) F9.out)
    have T10 := Lib.hid (T9.out.chg hc10 (.inr (by omega)))
    clear B9 F9 Y9 T9 hc10
    go_wp2_with fail
    refine (C_eqStringS_same _ _ _ _ _ T10.out.ti (O3.out.below F10.out).ti).mono ?_; rintro e w11 ⟨rfl, hb11⟩
    have B11 := bel_step0 hb11 B10
    have F11 := Lib.hid (bel_step0 hb11 F10.out)
    have T11 := Lib.hid (T10.out.below hb11)
    clear B10 F10 T10 hb11
    go_wp2_with fail
    refine (C_markS1 _ _ _ _ _ _ T11.out (by omega)).mono ?_; rintro e w12 ⟨rfl, ht12, hc12⟩
    have B12 := bel_chg hc12 (by omega) B11
    have F12 := Lib.hid (bel_chg hc12 (by omega) F11.out)
    have T12 := Lib.hid ht12
    clear B11 F11 T11 hc12 ht12
    go_wp2_with fail
    refine (C_heldS1 _ _ _ T12.out.ti (by omega)).mono ?_; rintro e w13 ⟨rfl, hb13⟩
    have B13 := bel_step0 hb13 B12
    have F13 := Lib.hid (bel_step0 hb13 F12.out)
    have T13 := Lib.hid (T12.out.below hb13)
    have htix := Lib.hid (HH.out.below B13)
    have hclx := Lib.hid (HCL.out.below B13)
    have HB13 := Lib.hid B13
    clear B12 F12 T12 hb13 B13
    go_upto_region 27 with fail
    go_cut [14, 15] (fun s6 s7 wy => s7 = .bool ok ∧ WT w13.heap.size wy.heap.size wy s6 m F ∧ Below w13.heap.size w13 wy)
    case first =>
      have r0 : ∀ W, Below w13.heap.size w13 W → W.cell? ⟨w.heap.size, 0, none⟩ = some (.int .i64 a) := fun W hW => (hclx.out.below hW).2.1
      have r1 : ∀ W, Below w13.heap.size w13 W → W.cell? ⟨w.heap.size, 1, none⟩ = some (.int .i64 b) := fun W hW => (hclx.out.below hW).2.2.1
      have r2 : ∀ W, Below w13.heap.size w13 W → W.cell? ⟨w.heap.size, 2, none⟩ = some (.string s) := fun W hW => (hclx.out.below hW).2.2.2.1
      have r3 : ∀ W, Below w13.heap.size w13 W → W.cell? ⟨w.heap.size, 3, none⟩ = some (.string t) := fun W hW => (hclx.out.below hW).2.2.2.2
      go_region_held3 (fun W => Below w13.heap.size w13 W) (((repeat (first | with_reducible exact Below.refl _ _ | with_reducible exact below_regrown _ _ _ | with_reducible refine bel_step0 (by assumption) ?_ | with_reducible refine bel_alloc0 ?_ _ | with_reducible refine bel_regrown0 ?_ _ _ | with_reducible refine bel_regrown ?_ (by first | omega | (simp; done) | (simp; omega)) _ _ | with_reducible refine below_drewN ?_ _ | with_reducible refine Below.drew ?_ | with_reducible refine Below.alloc ?_ (by first | omega | (simp; done) | (simp; omega)) _ | with_reducible refine Below.setCell ?_ (by first | omega | (simp; done) | (simp; omega)) _ | with_reducible refine bel_step (by assumption) (by first | omega | (simp; done) | (simp; omega)) ?_ | with_reducible refine bel_grown (by assumption) (by first | omega | (simp; done) | (simp; omega)) (by first | omega | (simp; done) | (simp; omega)) ?_)))) (first | (go_at_call 26; refine (C_toStringS _ _ _ _ (htix.out.below (by (repeat (first | with_reducible exact Below.refl _ _ | with_reducible exact below_regrown _ _ _ | with_reducible refine bel_step0 (by assumption) ?_ | with_reducible refine bel_alloc0 ?_ _ | with_reducible refine bel_regrown0 ?_ _ _ | with_reducible refine bel_regrown ?_ (by first | omega | (simp; done) | (simp; omega)) _ _ | with_reducible refine below_drewN ?_ _ | with_reducible refine Below.drew ?_ | with_reducible refine Below.alloc ?_ (by first | omega | (simp; done) | (simp; omega)) _ | with_reducible refine Below.setCell ?_ (by first | omega | (simp; done) | (simp; omega)) _ | with_reducible refine bel_step (by assumption) (by first | omega | (simp; done) | (simp; omega)) ?_ | with_reducible refine bel_grown (by assumption) (by first | omega | (simp; done) | (simp; omega)) (by first | omega | (simp; done) | (simp; omega)) ?_)))) hn).mono ?_; rintro e u2 ⟨v2, rfl, hv2, hb2⟩) | (go_at_call 19; refine (C_toClue _ _ _ _ _).mono ?_; rintro e u3 ⟨rfl, hb3⟩; (try have hv3 := hv2.below hb3)) | (go_at_call 38; (first | (with_reducible refine (HC.out.1 _ _ hv3.ti).mono ?_) | (with_reducible refine (HC.out.1 _ _ hv2.ti).mono ?_)); rintro e u4 ⟨v4, rfl, hv4, hb4⟩))
      all_goals
        go_wp2_with fail
        go_meet
        exact ⟨rfl, hv4.mono (by have z2 := hb2.size; have z3 := hb3.size; simp at z2 z3 ⊢; omega) (Nat.le_refl _), by (repeat (first | with_reducible exact Below.refl _ _ | with_reducible exact below_regrown _ _ _ | with_reducible refine bel_step0 (by assumption) ?_ | with_reducible refine bel_alloc0 ?_ _ | with_reducible refine bel_regrown0 ?_ _ _ | with_reducible refine bel_regrown ?_ (by first | omega | (simp; done) | (simp; omega)) _ _ | with_reducible refine below_drewN ?_ _ | with_reducible refine Below.drew ?_ | with_reducible refine Below.alloc ?_ (by first | omega | (simp; done) | (simp; omega)) _ | with_reducible refine Below.setCell ?_ (by first | omega | (simp; done) | (simp; omega)) _ | with_reducible refine bel_step (by assumption) (by first | omega | (simp; done) | (simp; omega)) ?_ | with_reducible refine bel_grown (by assumption) (by first | omega | (simp; done) | (simp; omega)) (by first | omega | (simp; done) | (simp; omega)) ?_))⟩
    case rest =>
      rename_i wy
      obtain ⟨rfl, ho14, hby⟩ := hcut
      have B14 := bel_step0 hby HB13.out
      have F14 := Lib.hid (bel_step0 hby F13.out)
      have T14 := Lib.hid (T13.out.below hby)
      have O14 := Lib.hid ho14
      clear htix hclx F13 T13 hby ho14 HB13
      go_wp2_with fail
      refine (C_eqStringS_same _ _ _ _ _ O14.out.ti (O3.out.below F14.out).ti).mono ?_; rintro e w15 ⟨rfl, hb15⟩
      have B15 := bel_step0 hb15 B14
      have T15 := Lib.hid (T14.out.below hb15)
      clear B14 F14 T14 hb15
      go_wp2_with fail
      refine (C_heldS1 _ _ _ T15.out.ti (by omega)).mono ?_; rintro e w16 ⟨rfl, hb16⟩
      have B16 := bel_step0 hb16 B15
      go_wp2_with fail
      go_ret
      exact ⟨rfl, bel_step0 B16 HB0.out⟩
set_option maxRecDepth 100000 in
theorem contract (H : Type) (enc : TypeId × Value → H) (W : World) (base : Nat) (args : Array Value) (ds gs : List (DataW H)) (before : List MemPlace)
    (hval0 : ∀ (j : Nat) t v, Tryd.f11.params[j]? = some t → args[j]? = some v → Value.okWide Tryd.prog W .any base t v)
    (hW : DataW.Whole enc Tryd.prog Tryd.f11.params.toList Rows.fnExactCandidatesSpec.vars false W args.toList ds gs before) (hL : laidMetH Tryd.prog Rows.fnExactCandidatesRow.laid W) :
    Calls Tryd.prog 11 args W fun e W' => ∃ v, e = .returned v ∧ Rows.fnExactCandidatesSpec.post enc Tryd.prog Tryd.f11 false true false false W args v W' := by
  have hval : ∀ (j : Nat) t v, Tryd.f11.params[j]? = some t → args[j]? = some v → Value.okWide Tryd.prog W .any base t v := hval0
  have hW' := hW
  obtain ⟨p, q, hA0, hV, rfl, hfz, hnd⟩ := hW
  have hA : DataW.TrodAll enc Tryd.prog W 0 (fun _ => true) true Tryd.f11.params.toList args.toList ds p := hA0
  rw [Tryd.params11] at hA hval
  obtain ⟨v0, vs0, d0, ds0, p0, q0, hargs, rfl, rfl, h0, r0⟩ := trodAll_cons hA
  obtain ⟨v1, vs1, d1, ds1, p1, q1, rfl, rfl, rfl, h1, r1⟩ := trodAll_cons r0
  obtain ⟨rfl, rfl, rfl⟩ := trodAll_nil r1
  obtain rfl : args = #[v0, v1] := by cases args; simp_all
  obtain ⟨rfl, rfl⟩ := trodVars_none hV
  have k0 := h0
  have lt0 : ∀ x ∈ p0, x.block < W.heap.size := by obtain ⟨m, hm⟩ := k0; exact DataW.trod_lt m _ _ _ hm
  have k1 := h1
  have lt1 : ∀ x ∈ p1, x.block < W.heap.size := by obtain ⟨m, hm⟩ := k1; exact DataW.trod_lt m _ _ _ hm
  obtain ⟨n0, b0⟩ := view_Sstring (hval 0 36 v0 rfl rfl) h0
  obtain ⟨x1_0, x1_1, x1_2, x1_3, y1_0, y1_1, y1_2, y1_3, _, rfl, _, _, t1_0, t1_1, t1_2, t1_3⟩ := open_agg4 Tryd.underlying26 (by kernel_rfl) (by kernel_rfl) (hval 1 26 v1 rfl rfl) h1
  obtain ⟨n1_0, e, _, b1_0⟩ := DataW.trod_int Tryd.underlying3 t1_0; simp only [List.cons.injEq, and_true] at e; subst e
  obtain ⟨n1_1, e, _, b1_1⟩ := DataW.trod_int Tryd.underlying3 t1_1; simp only [List.cons.injEq, and_true] at e; subst e
  obtain ⟨n1_2, e, _, b1_2⟩ := DataW.trod_string Tryd.underlying9 t1_2; simp only [List.cons.injEq, and_true] at e; subst e
  obtain ⟨n1_3, e, _, b1_3⟩ := DataW.trod_string Tryd.underlying9 t1_3; simp only [List.cons.injEq, and_true] at e; subst e
  clear hA0 hval0
  refine (walk v0 n0 n1_0 n1_1 n1_2 n1_3 W b0 (i64_of_wf b1_0) (i64_of_wf b1_1) b1_2 b1_3).mono fun e W' ⟨he, bel⟩ => ?_
  subst he
  exact ⟨_, rfl, _, _, _, [], _, [], hW', trodAll_mk1 (shut_bool Tryd.underlying4 _), (trodAll_cons_mk (Below.trod laidOut (by kernel_rfl) (of_decide_eq_true (by kernel_rfl)) k0 bel lt0) (trodAll_cons_mk (Below.trod laidOut (by kernel_rfl) (of_decide_eq_true (by kernel_rfl)) k1 bel lt1) trodAll_mk0)), rfl, bel.frame _, fun h => by cases h⟩
theorem reads (os : Os) {H : Type} (enc : TypeId × Value → H) : ∃ places, DataW.whole enc Tryd.prog ((doorW os).forCall (fun _ _ => 0) ⟨#[], #[.slice none 0 0, .agg #[.int .i64 0, .int .i64 0, .string ⟨#[]⟩, .string ⟨#[]⟩]], []⟩).memory Tryd.f11.params.toList Rows.fnExactCandidatesSpec.vars false #[.slice none 0 0, .agg #[.int .i64 0, .int .i64 0, .string ⟨#[]⟩, .string ⟨#[]⟩]].toList 8 = some ([.nil, .agg [.lit (.int .i64 0), .lit (.int .i64 0), .lit (.string []), .lit (.string [])]], [], places) :=
  ⟨[], by kernel_rfl⟩
set_option maxRecDepth 100000 in
theorem lifted (os : Os) (started : os.Started) (H : Type) (enc : TypeId × Value → H) (F : Stop.Interp) :
    ReturnsInHanded {} Tryd.checked os 11 .any ((OpenSpec.ofChange Rows.fnExactCandidatesSpec).preRow enc Tryd.prog Tryd.f11 Rows.fnExactCandidatesRow.domain false Rows.fnExactCandidatesRow.laid) (((OpenSpec.ofChange Rows.fnExactCandidatesSpec).at F).post enc Tryd.prog Tryd.f11 false true false false) := by
  obtain ⟨places, hx⟩ := reads os enc
  refine returnsInHanded_of_row (C := Tryd.checked) (s := OpenSpec.ofChange Rows.fnExactCandidatesSpec) own started (by kernel_rfl) Tryd.func11
    (witness_row_at (enc := enc) (C := Tryd.checked) false (doorW os) #[.slice none 0 0, .agg #[.int .i64 0, .int .i64 0, .string ⟨#[]⟩, .string ⟨#[]⟩]] rfl (door_shape os _) (door_rest os _) (by kernel_rfl)
      (OpenSpec.preRow_of_cond 8 hx (by kernel_rfl) (fun k hk => by cases hk) (by kernel_rfl) (door_met os _))) ?_
  intro W base args ds gs before hval hW _ _ _ hL _ _
  exact contract H enc W base args ds gs before hval hW hL
theorem said : Rows.FnExactCandidatesSaid :=
  OpenClaim.holds_of_cond 11 Tryd.f11 rfl rfl rfl rfl rfl rfl rfl ⟨rfl, rfl, rfl, rfl, rfl⟩ rfl rfl rfl rfl rfl (by kernel_rfl) Tryd.func11 (by kernel_rfl)
    (of_decide_eq_true (by kernel_rfl)) (by unfold Func.isWrapper; first | (rw [if_pos (by decide +kernel)]; kernel_rfl) | (rw [if_neg (by decide +kernel)]; exact ⟨rfl, rfl⟩))
    (fun os started H enc _ F => by rw [OpenClaim.pre_eq_preRow]; exact lifted os started H enc F)
theorem plain (f : FuncId) (fn : Func) (hf : Tryd.pinned.checked.prog.funcNamed Rows.fnExactCandidatesRow.func = some f) (hfn : Tryd.pinned.checked.prog.funcs[f]? = some fn) :
    false = Tryd.pinned.checked.prog.looks [] ∧ ∀ (j : Nat) t, fn.params[j]? = some t → Tryd.pinned.checked.prog.wantsStandIn t = false := by
  obtain rfl : f = 11 := Option.some.inj ((show Tryd.prog.funcNamed Rows.fnExactCandidatesRow.func = some 11 by kernel_rfl).symm.trans hf) |>.symm
  obtain rfl : fn = Tryd.f11 := (Option.some.inj (Tryd.func11.symm.trans hfn)).symm
  refine ⟨by kernel_rfl, fun j t ht => ?_⟩
  rw [Tryd.params11] at ht
  have hm : t = 36 ∨ t = 26 := by have := Array.mem_of_getElem? ht; simp at this; omega
  rcases hm with rfl | rfl
  · exact (show Tryd.prog.wantsStandIn 36 = false by kernel_rfl)
  · exact (show Tryd.prog.wantsStandIn 26 = false by kernel_rfl)
theorem proved : Rows.FnExactCandidatesCardSaid :=
  Claim7.holds_tied_plain_at .later [] _ _ _ _ said (fun _ h => by cases h) (by kernel_rfl) (fun _ h => by cases h) fnExactCandidates_row_tie rfl ⟨rfl, rfl⟩ (by kernel_rfl) rfl plain (by kernel_rfl)
#print axioms proved
end Go.Proofs.YtnhkejbgcjebmaaDoor.lawFnExactCandidates
