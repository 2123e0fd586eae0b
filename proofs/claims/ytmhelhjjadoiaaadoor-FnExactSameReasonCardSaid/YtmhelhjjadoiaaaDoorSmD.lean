/- The sort of the reasons. No condition but those stated. -/
import Derived.Test.YtmhelhjjadoiaaaDoorSmC
import Derived.Test.YtmhelhjjadoiaaaDoorSmB
import Derived.Test.YtmhelhjjadoiaaaDoorEach
import Derived.Test.YtmhelhjjadoiaaaDoorSortF
namespace Go.Proofs.YtmhelhjjadoiaaaDoor
set_option linter.unusedVariables false
set_option linter.unusedSimpArgs false
open Go.RowKit Go.Sort Go.Lib
theorem alloc_grow (w : World) (o : Obj) : w.alloc o = grow (w.drewN 0) #[o] := by
  unfold World.alloc grow World.drewN
  simp
def sortW (c : Lit → Int) (ws : List Wd) : List Wd := ws.mergeSort fun x y => !(ltOf (cfW c)) y x
theorem wd_inj {x y : Wd} (h : x.1.toList = y.1.toList) : x = y := by
  have h2 : x.1.data.toList = y.1.data.toList := by rw [← Lib.toList_data, ← Lib.toList_data]; exact h
  have h3 := Go.WideShapes.bytes_inj h2
  cases x; cases y; simp only at h3; subst h3; rfl
/-- A count tells its word, where the words are told apart. -/
theorem cfW_tot (c : Lit → Int) (x y : Wd) (h1 : (ltOf (cfW c)) x y = false) (h2 : (ltOf (cfW c)) y x = false) : x = y := by
  rw [Bool.eq_false_iff, Ne, lt_cfW] at h1 h2
  have e : c (kS y.1) = c (kS x.1) := by
    by_cases a : c (kS y.1) < c (kS x.1)
    · exact absurd (.inl a) h1
    · by_cases b : c (kS x.1) < c (kS y.1)
      · exact absurd (.inl b) h2
      · omega
  have a1 : ¬ x.1.toList < y.1.toList := fun h => h1 (.inr ⟨e, h⟩)
  have a2 : ¬ y.1.toList < x.1.toList := fun h => h2 (.inr ⟨e.symm, h⟩)
  exact wd_inj (List.le_antisymm (List.not_lt.1 a2) (List.not_lt.1 a1))
theorem map_enc (ws : List Wd) : ws.map encW = (ws.map Wd.s).map Value.string := by rw [List.map_map]; rfl
theorem C_SortW (B n : Nat) (c : Lit → Int) (v : Value) (ws : List Wd) (w0 w : World) (h : SM B w0 w v (ws.map Wd.s) n c) (hn : ws.length ≤ 1048576) :
    Calls Tryd.prog 83 #[v, .func (.func 84) #[] #[.pointer (some ⟨B + 1, 0, none⟩)]] w fun e w' => e = .returned (.tuple #[]) ∧ SM B w0 w' v ((sortW c ws).map Wd.s) n c := by
  have hot : w.ownsRow (B + 1 + 1) 9 1 v ws.length (ws.map encW) := by have := h.ot; unfold OT at this; rwa [List.length_map, ← map_enc] at this
  by_cases hv : v = .slice none 0 0
  · subst hv
    have h0 : ws = [] := by
      rcases hot.2 with ⟨_, h0⟩ | ⟨g, cap, cur, e, _⟩
      · simpa using h0
      · injection e with e1 _ _; cases e1
    subst h0
    exact (show Calls Tryd.prog 83 #[.slice none 0 0, .func (.func 84) #[] #[.pointer (some ⟨B + 1, 0, none⟩)]] w fun e w' => e = .returned (.tuple #[]) ∧ w' = w from
      AnyF.slices_SortFunc_none { Tryd.laysSF with } none 0 _ w).mono fun e w' ⟨h1, h2⟩ => ⟨h1, by rw [h2]; simpa [sortW] using h⟩
  · obtain ⟨g, cap, rfl, hbg, hg, hnc, hcm, hl, hH⟩ := holds_of_ownsRow hot hv
    have hbw : ∀ (m : Nat) (os : Array Obj) (dk : Array Wd), Below (B + 1 + 1) w (sortWorld encW w g 0 m dk os) := fun m os dk => by
      unfold sortWorld
      exact (below_putRow (Below.refl _ _) hbg).trans ((below_grow0 _ _).mono (by rw [size_putRow]; exact h.lt))
    have hcmp : CmpLays1 Tryd.prog 84 #[.pointer (some ⟨B + 1, 0, none⟩)] encW (cfW c) g 0 ws.toArray.size w := fun m os dk _ x y =>
      (C_Same1 x.1 y.1 (B + 1) B n c _ x.2 y.2 (((hbw m os dk).cell (p := ⟨B + 1, 0, none⟩) (by simp)).trans h.ce) (h.cm.of_block ((hbw m os dk).block B (by omega)))).mono fun e w' ⟨h1, o, h2⟩ => ⟨h1, 0, #[o], by rw [h2]; exact alloc_grow _ _⟩
    have eg : ∀ args w, (callFunc 84 args).run Tryd.prog w = .ok (.enter 84 args) w := enters_of Tryd.func84 (by kernel_rfl) rfl
    have hsz : ws.toArray.size < 4611686018427387904 := by simp; omega
    have hcon := Any.slices_SortFunc_total Tryd.laysSF encW (fun _ => rfl) (cfW c) (swoW c) 84 #[.pointer (some ⟨B + 1, 0, none⟩)] g 0 cap ws.toArray w eg hcmp hH hg hsz (fun x y => cfW_tot c x y)
    change Calls Tryd.prog 83 _ _ _ at hcon
    refine Calls.mono hcon fun e w' ⟨h1, q, os, h2⟩ => ⟨h1, ?_⟩
    have hlen : (sortW c ws).length = ws.length := List.length_mergeSort _
    have hb := hbw q os (sortW c ws).toArray
    rw [h2]
    refine ⟨h.be.trans (hb.mono (by have := h.hB; omega)), ?_, h.cm.of_block (hb.block B (by omega)), (hb.cell (p := ⟨B + 1, 0, none⟩) (by simp)).trans h.ce, Nat.lt_of_lt_of_le h.lt hb.size, h.hB⟩
    have := ownsRow_putRow (q := q) (k := ws.length) (ys := sortW c ws) hot hlen (Nat.le_refl _)
    rw [List.take_of_length_le (by rw [hlen]; exact Nat.le_refl _)] at this
    unfold sortWorld
    refine OT.below (below_grow0 _ _) ?_
    unfold OT
    rw [List.length_map, hlen, ← map_enc]
    exact this
end Go.Proofs.YtmhelhjjadoiaaaDoor
