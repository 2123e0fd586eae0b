/- Both of two queries: both sides. No condition but those stated. -/
import Derived.Test.YtjmfkenhnfdbjaaGreatDoorQyQ
import Derived.Test.YtjmfkenhnfdbjaaGreatDoorJoin
namespace Go.Proofs.YtjmfkenhnfdbjaaGreatDoor
set_option linter.unusedVariables false
set_option linter.unusedSimpArgs false
open Go.RowKit Go.Sort
theorem C_IsQuery (s : ByteArray) (hs : s.size ≤ 1048576) (w : World) (hk : Pk w) :
    Calls Tryz.prog 9 #[.string s] w fun e w' => e = .returned (.bool (goodQ s)) ∧ Below w.heap.size w w' := by
  have HC := Lib.hid (C_readQuery s hs w hk)
  clear hk
  go_enter Tryz.func9, Tryz.ntmps9
  go_wp2_with fail
  refine HC.out.mono ?_; rintro e w1 ⟨x, mo, rfl, hr⟩
  have HB := Lib.hid hr.1
  clear hr HC
  go_wp2
  go_ret
  exact ⟨rfl, HB.out.alloc HB.out.size _⟩
def asQ (s : ByteArray) : ByteArray := if goodQ s then s else ByteArray.empty
theorem C_asQuery (s : ByteArray) (hs : s.size ≤ 1048576) (w : World) (hk : Pk w) :
    Calls Tryz.prog 41 #[.string s] w fun e w' => e = .returned (.tuple #[.string (asQ s), .bool (goodQ s)]) ∧ Below w.heap.size w w' := by
  have HC := Lib.hid (C_IsQuery s hs w hk)
  clear hk
  obtain ⟨g, hg⟩ : ∃ g, goodQ s = g := ⟨_, rfl⟩
  have HQ := Lib.hid (show asQ s = if g then s else ByteArray.empty by unfold asQ; rw [hg])
  rw [hg] at HC ⊢
  cases g
  all_goals
    go_enter Tryz.func41, Tryz.ntmps41
    go_wp2_with fail
    refine HC.out.mono ?_; rintro e w1 ⟨rfl, hb⟩
    go_wp2
    go_ret2
    rw [HQ.out]
    exact ⟨rfl, hb⟩
theorem extra156 : Go.Proofs.Builder.Extra Tryz.prog Tryz.lays156_ren :=
  { sizeBuilder := by kernel_rfl
    liesBuilder := by kernel_rfl
    t5 := Tryz.underlying5
    a5 := Tryz.isAgg5
    z5 := Tryz.sizeOf5
    v5 := Tryz.zeroValue5
    infoByte := by kernel_rfl
    cellsByte := by kernel_rfl
    sizeByte := by kernel_rfl
    neB5 := by decide }
def bothT (a b : ByteArray) : ByteArray := ByteArray.mk #[40] ++ a ++ ByteArray.mk #[41, 38, 40] ++ b ++ ByteArray.mk #[41]
theorem join_both (a b : ByteArray) : (⟨(Lib.join ([ByteArray.mk #[40], a, ByteArray.mk #[41, 38, 40], b, ByteArray.mk #[41]].map (·.data.toList)) (ByteArray.mk #[]).data.toList).toArray⟩ : ByteArray) = bothT a b := by
  apply ByteArray.ext
  apply Array.toList_inj.1
  unfold bothT
  simp [Lib.join, ByteArray.data_append]
theorem both_size (a b : ByteArray) : (bothT a b).size = a.size + b.size + 5 := by
  unfold bothT
  simp [ByteArray.size_append]
  rw [show (ByteArray.mk #[40]).size = 1 from rfl, show (ByteArray.mk #[41, 38, 40]).size = 3 from rfl, show (ByteArray.mk #[41]).size = 1 from rfl]
  omega
def bothOk (a b : ByteArray) : Bool := goodQ a && (goodQ b && goodQ (bothT a b))
def bothS (a b : ByteArray) : ByteArray := if bothOk a b then bothT a b else ByteArray.empty
set_option maxHeartbeats 4000000 in
theorem C_BothQueriesS (a b : ByteArray) (ha : a.size ≤ 1048576) (hb : b.size ≤ 1048576) (w : World) :
    Calls Tryz.prog 14 #[.string a, .string b] w fun e w' => e = .returned (.tuple #[.string (bothS a b), .bool (bothOk a b)]) ∧ Below w.heap.size w w' := by
  obtain ⟨ga, hga⟩ : ∃ g, goodQ a = g := ⟨_, rfl⟩
  obtain ⟨gb, hgb⟩ : ∃ g, goodQ b = g := ⟨_, rfl⟩
  obtain ⟨T, hT⟩ : ∃ T, bothT a b = T := ⟨_, rfl⟩
  obtain ⟨gt, hgt⟩ : ∃ g, goodQ T = g := ⟨_, rfl⟩
  have HO := Lib.hid (show bothOk a b = (ga && (gb && gt)) ∧ bothS a b = if ga && (gb && gt) then T else ByteArray.empty by
    unfold bothS bothOk; rw [hga, hgb, hT, hgt]; exact ⟨rfl, rfl⟩)
  have HA := Lib.hid (fun w => C_l19Good a ha w)
  have HB := Lib.hid (fun w => C_l19Good b hb w)
  have HT : Hid (ga = true → gb = true → ∀ w, Calls Tryz.prog 38 #[.string T] w fun e w' => e = .returned (.bool gt) ∧ Below w.heap.size w w') := Lib.hid fun h1 h2 w => by
    have l1 := good_len (hga.trans h1)
    have l2 := good_len (hgb.trans h2)
    have := both_size a b
    rw [hT] at this
    have := C_l19Good T (by omega) w
    rwa [hgt] at this
  rw [hga] at HA
  rw [hgb] at HB
  have hT2 : ByteArray.mk #[40] ++ a ++ ByteArray.mk #[41, 38, 40] ++ b ++ ByteArray.mk #[41] = T := hT
  clear hga hgb hgt hT
  cases ga
  · go_enter Tryz.func14, Tryz.ntmps14
    go_wp2_with fail
    refine (HA.out _).mono ?_; rintro e w1 ⟨rfl, hb1⟩
    go_wp2
    go_ret2
    rw [HO.out.1, HO.out.2]
    exact ⟨rfl, hb1⟩
  · cases gb
    · go_enter Tryz.func14, Tryz.ntmps14
      go_wp2_with fail
      refine (HA.out _).mono ?_; rintro e w1 ⟨rfl, hb1⟩
      go_wp2_with fail
      refine (HB.out _).mono ?_; rintro e w2 ⟨rfl, hb2⟩
      go_wp2
      go_ret2
      rw [HO.out.1, HO.out.2]
      exact ⟨rfl, bel_step0 hb2 hb1⟩
    · cases gt
      all_goals
        go_enter Tryz.func14, Tryz.ntmps14
        go_wp2_with fail
        refine (HA.out _).mono ?_; rintro e w1 ⟨rfl, hb1⟩
        go_wp2_with fail
        refine (HB.out _).mono ?_; rintro e w2 ⟨rfl, hb2⟩
        go_wp2_with fail
        refine (HT.out (by trivial) (by trivial) _).mono ?_; rintro e w3 ⟨rfl, hb3⟩
        go_wp2
        go_ret2
        rw [HO.out.1, HO.out.2]
        exact ⟨rfl, bel_step0 hb3 (bel_step0 hb2 hb1)⟩
set_option maxHeartbeats 4000000 in
theorem C_BothQueriesI (a b : ByteArray) (ha : a.size ≤ 1048576) (hb : b.size ≤ 1048576) (w : World) (hk : Pk w) :
    Calls Tryz.prog 13 #[.string a, .string b] w fun e w' => e = .returned (.tuple #[.string (bothS a b), .bool (bothOk a b)]) ∧ Below w.heap.size w w' := by
  obtain ⟨ga, hga⟩ : ∃ g, goodQ a = g := ⟨_, rfl⟩
  obtain ⟨gb, hgb⟩ : ∃ g, goodQ b = g := ⟨_, rfl⟩
  obtain ⟨T, hT⟩ : ∃ T, bothT a b = T := ⟨_, rfl⟩
  obtain ⟨gt, hgt⟩ : ∃ g, goodQ T = g := ⟨_, rfl⟩
  have HO := Lib.hid (show bothOk a b = (ga && (gb && gt)) ∧ bothS a b = if ga && (gb && gt) then T else ByteArray.empty by
    unfold bothS bothOk; rw [hga, hgb, hT, hgt]; exact ⟨rfl, rfl⟩)
  have HA := Lib.hid (C_IsQuery a ha w hk)
  have HB : Hid (∀ w1, Below w.heap.size w w1 → Calls Tryz.prog 9 #[.string b] w1 fun e w' => e = .returned (.bool gb) ∧ Below w1.heap.size w1 w') := Lib.hid fun w1 h1 => by
    have := C_IsQuery b hb w1 (hk.below h1)
    rwa [hgb] at this
  have HT : Hid (ga = true → gb = true → T.size ≤ 1048576 ∧ ∀ w1, Below w.heap.size w w1 → Calls Tryz.prog 41 #[.string T] w1 fun e w' => e = .returned (.tuple #[.string (if gt then T else ByteArray.empty), .bool gt]) ∧ Below w1.heap.size w1 w') := Lib.hid fun h1 h2 => by
    have l1 := good_len (hga.trans h1)
    have l2 := good_len (hgb.trans h2)
    have hz := both_size a b
    rw [hT] at hz
    refine ⟨by omega, fun w1 hw1 => ?_⟩
    have := C_asQuery T (by omega) w1 (hk.below hw1)
    unfold asQ at this
    rwa [hgt] at this
  have HJ := Lib.hid (join_both a b)
  rw [hT] at HJ
  rw [hga] at HA
  clear hga hgb hgt hT hk
  cases ga
  · go_enter Tryz.func13, Tryz.ntmps13
    go_wp2_with fail
    refine HA.out.mono ?_; rintro e w1 ⟨rfl, hb1⟩
    go_wp2
    go_ret2
    rw [HO.out.1, HO.out.2]
    exact ⟨rfl, hb1⟩
  · cases gb
    · go_enter Tryz.func13, Tryz.ntmps13
      go_wp2_with fail
      refine HA.out.mono ?_; rintro e w1 ⟨rfl, hb1⟩
      have HB1 := Lib.hid hb1
      go_wp2_with fail
      refine (HB.out w1 HB1.out).mono ?_; rintro e w2 ⟨rfl, hb2⟩
      go_wp2
      go_ret2
      rw [HO.out.1, HO.out.2]
      exact ⟨rfl, bel_step0 hb2 hb1⟩
    · obtain ⟨HZ, HAS⟩ := HT.out rfl rfl
      have HAB := Lib.hid (And.intro ha hb)
      clear HT
      cases gt
      all_goals
        simp only [if_true, if_false, Bool.false_eq_true] at HAS
        have HAS := Lib.hid HAS
        go_enter Tryz.func13, Tryz.ntmps13
        go_wp2_with fail
        refine HA.out.mono ?_; rintro e w1 ⟨rfl, hb1⟩
        have HB1 := Lib.hid hb1
        go_wp2_with fail
        refine (HB.out w1 HB1.out).mono ?_; rintro e w2 ⟨rfl, hb2⟩
        have HB2 := Lib.hid (bel_step0 hb2 hb1)
        clear hb1 hb2 HB1
        go_wp2_with fail
        refine (Go.Proofs.Any.strings_Join_many Tryz.lays156 extra156 w2.heap.size 0 5 [ByteArray.mk #[40], a, ByteArray.mk #[41, 38, 40], b, ByteArray.mk #[41]] (ByteArray.mk #[]) _ ?_ ?_ ?_ ?_ ?_ ?_).mono ?_
        · intro j x hx
          match j, hx with
          | 0, hx => simp at hx; subst hx; exact cell_new _ _ _ _ _ rfl
          | 1, hx => simp at hx; subst hx; exact cell_new _ _ _ _ _ rfl
          | 2, hx => simp at hx; subst hx; exact cell_new _ _ _ _ _ rfl
          | 3, hx => simp at hx; subst hx; exact cell_new _ _ _ _ _ rfl
          | 4, hx => simp at hx; subst hx; exact cell_new _ _ _ _ _ rfl
          | n + 5, hx => simp at hx
        · simp
        · simp
        · simp
        · simp
        · have h1 := congrArg (fun t : ByteArray => t.data.toList.length) HJ.out
          simp only at h1
          rw [h1, ← Lib.size_eq]
          omega
        rintro e w3 ⟨rfl, hb3⟩
        rw [HJ.out]
        have HB3 := Lib.hid (show Below w.heap.size w w3 from bel_step0 hb3 (HB2.out.alloc HB2.out.size _))
        clear hb3 HB2
        go_wp2_with fail
        refine (HAS.out _ HB3.out).mono ?_; rintro e w4 ⟨rfl, hb4⟩
        go_wp2
        go_ret2
        rw [HO.out.1, HO.out.2]
        exact ⟨rfl, bel_step0 hb4 HB3.out⟩
end Go.Proofs.YtjmfkenhnfdbjaaGreatDoor
