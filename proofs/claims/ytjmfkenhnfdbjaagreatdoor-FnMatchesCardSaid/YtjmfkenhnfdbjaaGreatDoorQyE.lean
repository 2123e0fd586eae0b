/- The program's reader of numbers, at digits. No condition but those stated. -/
import Derived.Test.YtjmfkenhnfdbjaaGreatDoorQyD
import Derived.Test.YtjmfkenhnfdbjaaGreatDoorAtoi
import Derived.Test.YtjmfkenhnfdbjaaGreatDoorTab
import Derived.WalkLawsBesides
import Derived.WalkSmall
import Derived.Stop.LaidErr
namespace Go.Proofs.YtjmfkenhnfdbjaaGreatDoor
set_option linter.unusedVariables false
set_option linter.unusedSimpArgs false
open Go.RowKit Go.Sort
/-- What the package variables of errors hold. -/
def Ers (w : World) : Prop := (∃ tp p, w.var? Tryz.prog "strconv.ErrSyntax" = some #[.iface tp p]) ∧ (∃ tp p, w.var? Tryz.prog "strconv.ErrRange" = some #[.iface tp p])
theorem C_Atoi (t : ByteArray) (hd : DigT t) (hs : t.size ≤ 1048576) (w : World) (he : Ers w) :
    Calls Tryz.prog 122 #[.string t] w fun e w' => ((∃ N T, e = .returned (.tuple #[.int .i64 0, .iface T (.pointer (some ⟨N, 0, none⟩))]) ∧ numO t = none) ∨ (∃ N T, e = .returned (.tuple #[.int .i64 (Lib.atoiSat t.data.toList), .iface T (.pointer (some ⟨N, 0, none⟩))]) ∧ numO t = none) ∨ (e = .returned (.tuple #[.int .i64 (valT t : Nat), .nilIface]))) ∧ Below w.heap.size w w' := by
  obtain ⟨⟨t1, p1, h1⟩, t2, p2, h2⟩ := he
  rcases atoi_dig t.data.toList hd with e0 | e1 | ⟨e1, e2⟩
  · refine (Any.strconv_Atoi_syntax_var Tryz.laysC172 t (by omega) (by rw [e0]; rfl) t1 p1 w h1).mono ?_
    rintro e w' ⟨N, rfl, _, _, hb⟩
    exact ⟨.inl ⟨N, _, rfl, numO_len (by rw [Lib.size_eq, e0]; simp)⟩, hb⟩
  · refine (Any.strconv_Atoi_ok Tryz.laysC172 t (by omega) _ e1 w).mono ?_
    rintro e w' ⟨rfl, hw⟩
    refine ⟨.inr (.inr rfl), ?_⟩
    rcases hw with rfl | ⟨l, rfl⟩
    · exact Below.refl _ _
    · exact Lib.bytesWorld_below _ _ _
  · refine (Any.strconv_Atoi_range_var Tryz.laysC172 t (by omega) e1 t2 p2 w h2).mono ?_
    rintro e w' ⟨N, rfl, _, _, hb⟩
    exact ⟨.inr (.inl ⟨N, _, rfl, numO_no (.inl e2)⟩), hb⟩
theorem Ers.below {w w' : World} (hb : Below w.heap.size w w') (h : Ers w) : Ers w' := by
  obtain ⟨⟨t1, p1, h1⟩, t2, p2, h2⟩ := h
  have g1 : Tryz.prog.globalNamed "strconv.ErrSyntax" = some 1 := by kernel_rfl
  have g2 : Tryz.prog.globalNamed "strconv.ErrRange" = some 2 := by kernel_rfl
  have c1 : w.cell? ⟨1, 0, none⟩ = some (.iface t1 p1) := by have h0 := World.var?_cell g1 h1 0; simpa using h0
  have c2 : w.cell? ⟨2, 0, none⟩ = some (.iface t2 p2) := by have h0 := World.var?_cell g2 h2 0; simpa using h0
  exact ⟨⟨t1, p1, var?_below hb g1 (World.block_lt_of_cell? w _ c1) h1⟩, t2, p2, var?_below hb g2 (World.block_lt_of_cell? w _ c2) h2⟩
theorem errStar : "*" ++ "errors.errorString" = "*errors.errorString" := by decide
theorem errRow (u : TypeId) (h : Tryz.prog.typeName? 3 u = some "*errors.errorString") : u = 151 :=
  typeName_ptr_named (nm := "errors.errorString") (by rw [errStar]; kernel_rfl) (by kernel_rfl) (by decide) u (by rw [errStar]; exact h)
theorem ers_of (W : World) (hL : laidMetH Tryz.prog Rows.fnQueriesRow.laid W) : Ers W := by
  have h : laidMet Tryz.prog Rows.fnQueriesRow.laid W := hL
  have h3 := laidMet.tail (laidMet.tail (laidMet.tail h))
  have h4 := laidMet.tail h3
  obtain ⟨a0, s0, hv0, -, -, -⟩ := laid_sentinel (g := 2) (ti := 101) (te := 153) (ts := 9) h3 (by kernel_rfl) (by kernel_rfl) Tryz.underlying101 errRow Tryz.underlying151 Tryz.underlying153 rfl rfl Tryz.underlying9 (by kernel_rfl) (by kernel_rfl)
  obtain ⟨a1, s1, hv1, -, -, -⟩ := laid_sentinel (g := 1) (ti := 101) (te := 153) (ts := 9) h4 (by kernel_rfl) (by kernel_rfl) Tryz.underlying101 errRow Tryz.underlying151 Tryz.underlying153 rfl rfl Tryz.underlying9 (by kernel_rfl) (by kernel_rfl)
  exact ⟨⟨_, _, hv1⟩, _, _, hv0⟩
/-- The package variables that the reading of numbers looks at. -/
def Pk (w : World) : Prop := Tab w ∧ Ers w
theorem Pk.below {w w' : World} (hb : Below w.heap.size w w') (h : Pk w) : Pk w' := ⟨h.1.below hb, h.2.below hb⟩
set_option maxHeartbeats 4000000 in
theorem C_ParseInt (t : ByteArray) (hd : DigT t) (hs : t.size ≤ 1048576) (w : World) (hp : Pk w) :
    Calls Tryz.prog 118 #[.string t] w fun e w' => e = .returned (.tuple #[.int .i64 (numV t), .bool (numO t).isSome]) ∧ Below w.heap.size w w' := by
  have K := Lib.hid (C_Atoi t hd hs w hp.2)
  have HP := Lib.hid hp
  clear hp hd
  go_enter Tryz.func118, Tryz.ntmps118
  go_wp2_with fail
  refine K.out.mono ?_; rintro e w1 ⟨hh, hb⟩
  clear K
  rcases hh with ⟨N, T, rfl, hn⟩ | ⟨N, T, rfl, hn⟩ | rfl
  · have HN := Lib.hid (show numV t = 0 ∧ (numO t).isSome = false by unfold numV; rw [hn]; exact ⟨rfl, rfl⟩)
    clear hn
    go_wp2
    go_ret2
    exact ⟨by rw [HN.out.1, HN.out.2]; rfl, hb⟩
  · have HN := Lib.hid (show numV t = 0 ∧ (numO t).isSome = false by unfold numV; rw [hn]; exact ⟨rfl, rfl⟩)
    clear hn
    go_wp2
    go_ret2
    exact ⟨by rw [HN.out.1, HN.out.2]; rfl, hb⟩
  · obtain ⟨V, hV⟩ : ∃ V, valT t = V := ⟨_, rfl⟩
    have hyes := numO_yes (t := t)
    have hno := numO_no (t := t)
    rw [hV] at hyes hno ⊢
    have HY := Lib.hid (And.intro hyes hno)
    have HV := Lib.hid hV
    clear hyes hno hV
    by_cases hlt : V < 1000000
    · have hw : within (V : Int) (-999999) 999999 = true := by unfold within; rw [decide_eq_true (by omega), decide_eq_true (by omega)]; rfl
      obtain ⟨bb, hbb⟩ : ∃ bb, ((decN V).toList == t.toList) = bb := ⟨_, rfl⟩
      have HBB := Lib.hid hbb
      go_wp2_with fail
      refine (C_within _ _ _ _).mono ?_; rintro e w2 ⟨rfl, rfl⟩
      rw [hw]
      go_wp2_with fail
      refine (C_decimal V hlt _ (HP.out.1.below hb)).mono ?_; rintro e w3 ⟨rfl, hb3⟩
      have B3 := bel_step0 hb3 hb
      cases bb
      · go_wp2
        go_ret2
        refine ⟨?_, B3⟩
        have := HY.out.2 (.inr HBB.out)
        unfold numV
        rw [this]; rfl
      · go_wp2
        go_ret2
        refine ⟨?_, B3⟩
        have := HY.out.1 hlt HBB.out
        unfold numV
        rw [this]; rfl
    · have hw : within (V : Int) (-999999) 999999 = false := by unfold within; rw [decide_eq_false (show ¬ (V : Int) ≤ 999999 by omega)]; simp
      go_wp2_with fail
      refine (C_within _ _ _ _).mono ?_; rintro e w2 ⟨rfl, rfl⟩
      rw [hw]
      go_wp2
      go_ret2
      refine ⟨?_, hb⟩
      have := HY.out.2 (.inl (by omega))
      unfold numV
      rw [this]; rfl
end Go.Proofs.YtjmfkenhnfdbjaaGreatDoor
