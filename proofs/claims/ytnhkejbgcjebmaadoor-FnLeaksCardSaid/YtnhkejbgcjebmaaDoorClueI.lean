/- WhatLeaks: the reference. No condition but those stated. -/
import Derived.Test.YtnhkejbgcjebmaaDoorClueH
namespace Go.Proofs.YtnhkejbgcjebmaaDoor
set_option linter.unusedVariables false
set_option linter.unusedSimpArgs false
open Go.RowKit Go.Sort
theorem C_toldTF (x : ByteArray) (w : World) (hx : wordB x = true) (ca cb : Int) (ha : (if true then (x.size : Int) else 0) = ca) (hb : (if false then fstI x else 0) = cb) :
    Calls Tryd.prog 68 #[.string x, .bool true, .bool false] w fun e w' => e = .returned (.agg #[.int .i64 ca, .int .i64 cb, .string ByteArray.empty, .string ByteArray.empty]) ∧ Below w.heap.size w w' := by
  subst ha hb
  exact C_l20Told x true false w hx
theorem C_cntTF (v : Value) (n : Nat) (f : Nat → ByteArray) (x : ByteArray) (w : World) (h : TI w v n f) (hn : n ≤ 1048576) (hw : ∀ j, j < n → wordB (f j) = true) (ca cb : Int) (ha : (if true then (x.size : Int) else 0) = ca) (hb : (if false then fstI x else 0) = cb) (m : Nat) (hm : cT n f true false x = m) :
    Calls Tryd.prog 65 #[v, .agg #[.int .i64 ca, .int .i64 cb, .string ByteArray.empty, .string ByteArray.empty]] w fun e w' => e = .returned (.int .i64 m) ∧ Below w.heap.size w w' := by
  subst ha hb hm
  exact C_countTold v n f true false x w h hn hw
theorem C_toldFT (x : ByteArray) (w : World) (hx : wordB x = true) (ca cb : Int) (ha : (if false then (x.size : Int) else 0) = ca) (hb : (if true then fstI x else 0) = cb) :
    Calls Tryd.prog 68 #[.string x, .bool false, .bool true] w fun e w' => e = .returned (.agg #[.int .i64 ca, .int .i64 cb, .string ByteArray.empty, .string ByteArray.empty]) ∧ Below w.heap.size w w' := by
  subst ha hb
  exact C_l20Told x false true w hx
theorem C_cntFT (v : Value) (n : Nat) (f : Nat → ByteArray) (x : ByteArray) (w : World) (h : TI w v n f) (hn : n ≤ 1048576) (hw : ∀ j, j < n → wordB (f j) = true) (ca cb : Int) (ha : (if false then (x.size : Int) else 0) = ca) (hb : (if true then fstI x else 0) = cb) (m : Nat) (hm : cT n f false true x = m) :
    Calls Tryd.prog 65 #[v, .agg #[.int .i64 ca, .int .i64 cb, .string ByteArray.empty, .string ByteArray.empty]] w fun e w' => e = .returned (.int .i64 m) ∧ Below w.heap.size w w' := by
  subst ha hb hm
  exact C_countTold v n f false true x w h hn hw
theorem C_toldTT (x : ByteArray) (w : World) (hx : wordB x = true) (ca cb : Int) (ha : (if true then (x.size : Int) else 0) = ca) (hb : (if true then fstI x else 0) = cb) :
    Calls Tryd.prog 68 #[.string x, .bool true, .bool true] w fun e w' => e = .returned (.agg #[.int .i64 ca, .int .i64 cb, .string ByteArray.empty, .string ByteArray.empty]) ∧ Below w.heap.size w w' := by
  subst ha hb
  exact C_l20Told x true true w hx
theorem C_cntTT (v : Value) (n : Nat) (f : Nat → ByteArray) (x : ByteArray) (w : World) (h : TI w v n f) (hn : n ≤ 1048576) (hw : ∀ j, j < n → wordB (f j) = true) (ca cb : Int) (ha : (if true then (x.size : Int) else 0) = ca) (hb : (if true then fstI x else 0) = cb) (m : Nat) (hm : cT n f true true x = m) :
    Calls Tryd.prog 65 #[v, .agg #[.int .i64 ca, .int .i64 cb, .string ByteArray.empty, .string ByteArray.empty]] w fun e w' => e = .returned (.int .i64 m) ∧ Below w.heap.size w w' := by
  subst ha hb hm
  exact C_countTold v n f true true x w h hn hw
set_option maxHeartbeats 4000000 in
theorem C_WhatLeaksS (v : Value) (n : Nat) (f : Nat → ByteArray) (x : ByteArray) (k : Int) (w : World) (h : TI w v n f) (hs : ∀ j, j < n → (f j).size ≤ 9223372036854775807) (hx : x.size ≤ 9223372036854775807) :
    Calls Tryd.prog 41 #[v, .string x, .int .i64 k] w fun e w' => e = .returned (.tuple #[.string (if dictB n f && inB n f x && within k 1 12 then wleak n f k x else ⟨#[]⟩), .bool (dictB n f && inB n f x && within k 1 12)]) ∧ Below w.heap.size w w' := by
  have HH := Lib.hid h
  have HS := Lib.hid hs
  clear hs
  obtain ⟨A, cap, rfl, hr, hc, hm⟩ := h
  have HR := Lib.hid hr; clear hr
  obtain ⟨wo, hwo⟩ : ∃ wo, inB n f x = wo := ⟨_, rfl⟩
  obtain ⟨d, hd⟩ : ∃ d, (dictB n f && within k 1 12) = d := ⟨_, rfl⟩
  have hgd : (dictB n f && wo && within k 1 12) = (d && wo) := by rw [← hd]; cases dictB n f <;> cases wo <;> simp
  rw [hwo, hgd]
  obtain ⟨OK, hOK⟩ : ∃ OK, (d && wo) = OK := ⟨_, rfl⟩
  obtain ⟨RS, hRS⟩ : ∃ RS : ByteArray, (if (d && wo) = true then wleak n f k x else ⟨#[]⟩) = RS := ⟨_, rfl⟩
  rw [hRS, hOK]
  have HOK := Lib.hid hOK
  have HRS := Lib.hid hRS
  have HWI := Lib.hid hwo
  have HDI := Lib.hid hd
  clear hOK hRS hwo hd hgd
  go_enter Tryd.func41, Tryd.ntmps41
  go_wp2
  go_loopw [8, 9] (fun q i wr => ∃ m : Nat, m ≤ n ∧ i = .int .i64 m ∧ q = .bool (anyB m fun j => (f j).toList == x.toList) ∧ Below w.heap.size w wr) (fun _ i _ => n - (intOf i).toNat)
  case atStart => exact ⟨0, Nat.zero_le _, rfl, rfl, by (repeat (first | with_reducible exact Below.refl _ _ | with_reducible exact below_regrown _ _ _ | with_reducible refine bel_step0 (by assumption) ?_ | with_reducible refine bel_alloc0 ?_ _ | with_reducible refine bel_regrown0 ?_ _ _ | with_reducible refine bel_regrown ?_ (by first | omega | (simp; done) | (simp; omega)) _ _ | with_reducible refine below_drewN ?_ _ | with_reducible refine Below.drew ?_ | with_reducible refine Below.alloc ?_ (by first | omega | (simp; done) | (simp; omega)) _ | with_reducible refine Below.setCell ?_ (by first | omega | (simp; done) | (simp; omega)) _ | with_reducible refine bel_step (by assumption) (by first | omega | (simp; done) | (simp; omega)) ?_ | with_reducible refine bel_grown (by assumption) (by first | omega | (simp; done) | (simp; omega)) (by first | omega | (simp; done) | (simp; omega)) ?_))⟩
  case round =>
    obtain ⟨m, hk, rfl, hq, hB⟩ := hrel
    by_cases hlt : m < n
    · obtain ⟨bb, off, rfl, hb, hcell⟩ := (HR.out.below hB) (by omega)
      have hck := hcell m hlt
      have hnx : (anyB (m + 1) fun j => (f j).toList == x.toList) = ((anyB m fun j => (f j).toList == x.toList) || ((f m).toList == x.toList)) := anyB_succ _ _
      obtain ⟨p, hp⟩ : ∃ p, (anyB m fun j => (f j).toList == x.toList) = p := ⟨_, rfl⟩
      rw [hp] at hnx hq
      have HNX := Lib.hid hnx
      clear hcell hp hnx
      subst hq
      cases p
      · cases he : ((f m).toList == x.toList)
        all_goals
          go_wp2
          go_roundw
          case rel => exact ⟨m + 1, by omega, by go_num, by rw [HNX.out, he]; rfl, hB⟩
          case measure => simp [intOf]; omega
      · go_wp2
        go_roundw
        case rel => exact ⟨m + 1, by omega, by go_num, by rw [HNX.out]; rfl, hB⟩
        case measure => simp [intOf]; omega
    · obtain rfl : m = n := by omega
      have hq2 : (anyB m fun j => (f j).toList == x.toList) = wo := HWI.out
      rw [hq2] at hq
      subst hq
      clear hq2
      have HK := Lib.hid (fun W v (hv : TI W v m f) => (C_l20K v m f k W hv HS.out))
      rw [HDI.out] at HK
      have hdict : d = true → dictB m f = true := fun h => by have hd := HDI.out; rw [h] at hd; revert hd; cases dictB m f <;> simp
      have hwo2 : wo = true → inB m f x = true := fun h => by rw [HWI.out]; exact h
      have HD := Lib.hid hdict
      have HWO := Lib.hid hwo2
      clear hdict hwo2 HWI HDI
      cases d
      · go_wp2_with fail
        refine (HK.out _ _ (HH.out.below hB)).mono ?_; rintro e w1 ⟨rfl, hb1⟩
        go_wp2_with fail
        go_ret2
        exact ⟨by rw [← HRS.out, ← HOK.out]; rfl, bel_step0 hb1 hB⟩
      cases wo
      · go_wp2_with fail
        refine (HK.out _ _ (HH.out.below hB)).mono ?_; rintro e w1 ⟨rfl, hb1⟩
        go_wp2_with fail
        go_ret2
        exact ⟨by rw [← HRS.out, ← HOK.out]; rfl, bel_step0 hb1 hB⟩
      have hw : ∀ j, j < m → wordB (f j) = true := fun j hj => dictB_word (HD.out rfl) hj
      have hn := (dictB_len (HD.out rfl)).2
      have hxw := inB_word hw (HWO.out rfl)
      obtain ⟨m1, hm1⟩ : ∃ z : Nat, cT m f true false x = z := ⟨_, rfl⟩
      obtain ⟨m2, hm2⟩ : ∃ z : Nat, cT m f false true x = z := ⟨_, rfl⟩
      obtain ⟨m3, hm3⟩ : ∃ z : Nat, cT m f true true x = z := ⟨_, rfl⟩
      have hwl : wleak m f k x = wl (!decide (k ≤ (m1 : Int))) (!decide (k ≤ (m2 : Int))) (!decide (k ≤ (m3 : Int))) := by unfold wleak leakB; rw [hm1, hm2, hm3]
      obtain ⟨ca, hca⟩ : ∃ ca : Int, (if true then (x.size : Int) else 0) = ca := ⟨_, rfl⟩
      obtain ⟨c0, hc0⟩ : ∃ c0 : Int, (if false then (x.size : Int) else 0) = c0 := ⟨_, rfl⟩
      obtain ⟨cb, hcb⟩ : ∃ cb : Int, (if true then fstI x else 0) = cb := ⟨_, rfl⟩
      obtain ⟨d0, hd0⟩ : ∃ d0 : Int, (if false then fstI x else 0) = d0 := ⟨_, rfl⟩
      have T1 := Lib.hid (fun W => C_toldTF x W hxw ca d0 hca hd0)
      have T2 := Lib.hid (fun W => C_toldFT x W hxw c0 cb hc0 hcb)
      have T3 := Lib.hid (fun W => C_toldTT x W hxw ca cb hca hcb)
      have N1 := Lib.hid (fun W (hW : Below w.heap.size w W) => C_cntTF _ m f x W (HH.out.below hW) (by omega) hw ca d0 hca hd0 m1 hm1)
      have N2 := Lib.hid (fun W (hW : Below w.heap.size w W) => C_cntFT _ m f x W (HH.out.below hW) (by omega) hw c0 cb hc0 hcb m2 hm2)
      have N3 := Lib.hid (fun W (hW : Below w.heap.size w W) => C_cntTT _ m f x W (HH.out.below hW) (by omega) hw ca cb hca hcb m3 hm3)
      have HWL := Lib.hid hwl
      have HX := Lib.hid (fun W (hW : Below w.heap.size w W) => HH.out.below hW)
      clear hm1 hm2 hm3 hwl hca hc0 hcb hd0 hw hxw HH HD HWO HR HS
      by_cases g1 : k ≤ (m1 : Int)
      · by_cases g2 : k ≤ (m2 : Int)
        · by_cases g3 : k ≤ (m3 : Int)
          · have hR : wleak m f k x = ⟨#[110, 111, 116, 104, 105, 110, 103]⟩ := by rw [HWL.out]; simp [wl, g1, g2, g3]
            have HRX := Lib.hid hR; clear hR
            (go_wp2_with fail; (refine (HK.out _ _ (HX.out _ hB)).mono ?_; rintro e w1 ⟨rfl, hb1⟩); (replace hB := bel_step0 hb1 hB); clear hb1; go_wp2_with fail; ((refine (T1.out _).mono ?_; rintro e w1 ⟨rfl, hb1⟩); (replace hB := bel_step0 hb1 hB); clear hb1; go_wp2_with fail; (refine (N1.out _ hB).mono ?_; rintro e w1 ⟨rfl, hb1⟩); (replace hB := bel_step0 hb1 hB); clear hb1; go_wp2_with fail))
            ((refine (T2.out _).mono ?_; rintro e w1 ⟨rfl, hb1⟩); (replace hB := bel_step0 hb1 hB); clear hb1; go_wp2_with fail; (refine (N2.out _ hB).mono ?_; rintro e w1 ⟨rfl, hb1⟩); (replace hB := bel_step0 hb1 hB); clear hb1; go_wp2_with fail)
            ((refine (T3.out _).mono ?_; rintro e w1 ⟨rfl, hb1⟩); (replace hB := bel_step0 hb1 hB); clear hb1; go_wp2_with fail; (refine (N3.out _ hB).mono ?_; rintro e w1 ⟨rfl, hb1⟩); (replace hB := bel_step0 hb1 hB); clear hb1; go_wp2_with fail)
            go_ret2
            exact ⟨by rw [← HRS.out, ← HOK.out]; simp [HRX.out], hB⟩
          · have hR : wleak m f k x = ⟨#[98, 111, 116, 104]⟩ := by rw [HWL.out]; simp [wl, g1, g2, g3]
            have HRX := Lib.hid hR; clear hR
            (go_wp2_with fail; (refine (HK.out _ _ (HX.out _ hB)).mono ?_; rintro e w1 ⟨rfl, hb1⟩); (replace hB := bel_step0 hb1 hB); clear hb1; go_wp2_with fail; ((refine (T1.out _).mono ?_; rintro e w1 ⟨rfl, hb1⟩); (replace hB := bel_step0 hb1 hB); clear hb1; go_wp2_with fail; (refine (N1.out _ hB).mono ?_; rintro e w1 ⟨rfl, hb1⟩); (replace hB := bel_step0 hb1 hB); clear hb1; go_wp2_with fail))
            ((refine (T2.out _).mono ?_; rintro e w1 ⟨rfl, hb1⟩); (replace hB := bel_step0 hb1 hB); clear hb1; go_wp2_with fail; (refine (N2.out _ hB).mono ?_; rintro e w1 ⟨rfl, hb1⟩); (replace hB := bel_step0 hb1 hB); clear hb1; go_wp2_with fail)
            ((refine (T3.out _).mono ?_; rintro e w1 ⟨rfl, hb1⟩); (replace hB := bel_step0 hb1 hB); clear hb1; go_wp2_with fail; (refine (N3.out _ hB).mono ?_; rintro e w1 ⟨rfl, hb1⟩); (replace hB := bel_step0 hb1 hB); clear hb1; go_wp2_with fail)
            go_ret2
            exact ⟨by rw [← HRS.out, ← HOK.out]; simp [HRX.out], hB⟩
        · have hR : wleak m f k x = ⟨#[102, 105, 114, 115, 116]⟩ := by rw [HWL.out]; simp [wl, g1, g2]
          have HRX := Lib.hid hR; clear hR
          (go_wp2_with fail; (refine (HK.out _ _ (HX.out _ hB)).mono ?_; rintro e w1 ⟨rfl, hb1⟩); (replace hB := bel_step0 hb1 hB); clear hb1; go_wp2_with fail; ((refine (T1.out _).mono ?_; rintro e w1 ⟨rfl, hb1⟩); (replace hB := bel_step0 hb1 hB); clear hb1; go_wp2_with fail; (refine (N1.out _ hB).mono ?_; rintro e w1 ⟨rfl, hb1⟩); (replace hB := bel_step0 hb1 hB); clear hb1; go_wp2_with fail))
          ((refine (T2.out _).mono ?_; rintro e w1 ⟨rfl, hb1⟩); (replace hB := bel_step0 hb1 hB); clear hb1; go_wp2_with fail; (refine (N2.out _ hB).mono ?_; rintro e w1 ⟨rfl, hb1⟩); (replace hB := bel_step0 hb1 hB); clear hb1; go_wp2_with fail)
          go_ret2
          exact ⟨by rw [← HRS.out, ← HOK.out]; simp [HRX.out], hB⟩
      · have hR : wleak m f k x = ⟨#[108, 101, 110, 103, 116, 104]⟩ := by rw [HWL.out]; simp [wl, g1]
        have HRX := Lib.hid hR; clear hR
        (go_wp2_with fail; (refine (HK.out _ _ (HX.out _ hB)).mono ?_; rintro e w1 ⟨rfl, hb1⟩); (replace hB := bel_step0 hb1 hB); clear hb1; go_wp2_with fail; ((refine (T1.out _).mono ?_; rintro e w1 ⟨rfl, hb1⟩); (replace hB := bel_step0 hb1 hB); clear hb1; go_wp2_with fail; (refine (N1.out _ hB).mono ?_; rintro e w1 ⟨rfl, hb1⟩); (replace hB := bel_step0 hb1 hB); clear hb1; go_wp2_with fail))
        go_ret2
        exact ⟨by rw [← HRS.out, ← HOK.out]; simp [HRX.out], hB⟩
end Go.Proofs.YtnhkejbgcjebmaaDoor
