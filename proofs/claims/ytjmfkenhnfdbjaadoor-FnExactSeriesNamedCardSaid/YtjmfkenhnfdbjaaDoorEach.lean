/- Each number once: sorted and compacted. No condition but those stated. -/
import Derived.Test.YtjmfkenhnfdbjaaDoorPut
import Derived.Lib.OwnBridge
namespace Go.Proofs.YtjmfkenhnfdbjaaDoor
set_option linter.unusedVariables false
set_option linter.unusedSimpArgs false
open Go.RowKit Go.Sort Go.Lib
theorem below_grow0 (W : World) (os : Array Obj) : Below W.heap.size W (grow W os) :=
  ⟨rfl, rfl, rfl, by simp [grow], fun k hk => by simp [grow, Array.getElem?_append, hk]⟩
theorem C_SortI (base : Nat) (v : Value) (xs : List Int) (w : World) (h : OI base w v xs) (hn : xs.length ≤ 1048576) :
    Calls Tryd.prog 71 #[v] w fun e w' => e = .returned (.tuple #[]) ∧ OI base w' v (xs.mergeSort fun x y => decide (x ≤ y)) ∧ (base ≤ w.heap.size → Below base w w') := by
  by_cases hv : v = .slice none 0 0
  · subst hv
    have h0 : xs.length = 0 := by
      rcases h.2 with ⟨_, h0⟩ | ⟨g, cap, cur, e, _⟩
      · exact h0
      · injection e with e1 _ _; cases e1
    have hx : xs = [] := List.length_eq_zero_iff.1 h0
    subst hx
    exact (show Calls Tryd.prog 71 #[.slice none 0 0] w fun e w' => e = .returned (.tuple #[]) ∧ w' = w from Any.slices_Sort_int_none Tryd.lays189 none 0 w).mono fun e w' ⟨h1, h2⟩ => ⟨h1, by rw [h2]; simpa using h, fun _ => by rw [h2]; exact Below.refl _ _⟩
  · have hO := h
    obtain ⟨g, cap, rfl, hbg, hg, hnc, hcm, hl, hH⟩ := holds_of_ownsRow h hv
    refine (show Calls Tryd.prog 71 #[.slice (some ⟨g, 0, none⟩) xs.length cap] w fun e w' => e = .returned (.tuple #[]) ∧ ∃ n os, w' = grow (putRow (Value.int .i64) (Sort.ahead w n) g 0 (xs.mergeSort fun x y => decide (x ≤ y)).toArray) os from
      Any.slices_Sort_int Tryd.lays189 g 0 cap xs w hH hg (by omega)).mono fun e w' ⟨h1, q, os, h2⟩ => ⟨h1, ?_, fun hb => ?_⟩
    · have hlen : (xs.mergeSort fun x y => decide (x ≤ y)).length = xs.length := List.length_mergeSort _
      have := ownsRow_putRow (q := q) hO hlen (Nat.le_refl _)
      rw [List.take_of_length_le (by rw [hlen]; exact Nat.le_refl _)] at this
      rw [h2]
      refine OI.below (below_grow0 _ _) ?_
      unfold OI
      rw [hlen]; exact this
    · rw [h2]
      exact (below_putRow (Below.refl _ _) hbg).trans ((below_grow0 _ _).mono (by rw [size_putRow]; exact hb))
theorem C_compact0 (blk off cap : Nat) (zs : List Int) (w : World) (hH : Holds (Value.int .i64) w blk off zs.toArray) (hsz : zs.length ≤ 9223372036854775807) (hcap : zs.length ≤ cap) :
    Calls Tryd.prog 72 #[.slice (some ⟨blk, off, none⟩) zs.length cap] w fun e w' => e = .returned (.slice (some ⟨blk, off, none⟩) (Lib.compact zs).length cap) ∧ ∃ q, w' = putRow (Value.int .i64) (Sort.ahead w q) blk off (Lib.compact zs ++ List.replicate (zs.length - (Lib.compact zs).length) 0).toArray := Any.slices_Compact_int Tryd.laysNm220 blk off cap zs w hH hsz hcap
theorem C_CompactI (base : Nat) (v : Value) (xs : List Int) (w : World) (h : OI base w v xs) (hn : xs.length ≤ 1048576) :
    Calls Tryd.prog 72 #[v] w fun e w' => ∃ v', e = .returned v' ∧ OI base w' v' (compact xs) ∧ (base ≤ w.heap.size → Below base w w') := by
  by_cases hv : v = .slice none 0 0
  · subst hv
    have h0 : xs.length = 0 := by
      rcases h.2 with ⟨_, h0⟩ | ⟨g, cap, cur, e, _⟩
      · exact h0
      · injection e with e1 _ _; cases e1
    have hx : xs = [] := List.length_eq_zero_iff.1 h0
    subst hx
    exact (show Calls Tryd.prog 72 #[.slice none 0 0] w fun e w' => e = .returned (.slice none 0 0) ∧ w' = w from Any.slices_Compact_int_empty Tryd.laysNm220 none 0 w).mono fun e w' ⟨h1, h2⟩ => ⟨_, h1, by rw [h2]; simpa [compact, compactUpTo] using h, fun _ => by rw [h2]; exact Below.refl _ _⟩
  · have hO := h
    obtain ⟨g, cap, rfl, hbg, hg, hnc, hcm, hl, hH⟩ := holds_of_ownsRow h hv
    have hcl : (compact xs).length ≤ xs.length := by
      unfold compact compactUpTo
      rw [List.length_map]
      exact Nat.le_trans (List.length_filter_le _ _) (by simp)
    have hsz : xs.length ≤ 9223372036854775807 := by omega
    refine (C_compact0 g 0 cap xs w hH hsz hnc).mono fun e w' ⟨h1, q, h2⟩ => ⟨_, h1, ?_, fun hb => ?_⟩
    · have := ownsRow_putRow (q := q) (k := (compact xs).length) (ys := compact xs ++ List.replicate (xs.length - (compact xs).length) 0) hO (by rw [List.length_append, List.length_replicate]; omega) hcl
      rw [List.take_left] at this
      rw [h2]; exact this
    · rw [h2]; exact below_putRow (Below.refl _ _) hbg
theorem C_eachOnce (base : Nat) (v : Value) (xs : List Int) (w : World) (h : OI base w v xs) (hn : xs.length ≤ 1048576) (hb : base ≤ w.heap.size) :
    Calls Tryd.prog 51 #[v] w fun e w' => ∃ v', e = .returned v' ∧ OI base w' v' (once xs) ∧ Below base w w' := by
  have HO := Lib.hid h
  obtain ⟨A, cap, rfl, hr, hc, hm⟩ := h.wi.si
  clear hr h
  have HX := Lib.hid hn
  go_enter Tryd.func51, Tryd.ntmps51
  go_wp2_with fail
  refine (C_SortI base _ xs _ HO.out hn).mono ?_; rintro e w1 ⟨rfl, ho1, hb1⟩
  have HB1 := Lib.hid (hb1 hb)
  have HO1 := Lib.hid ho1
  clear ho1 hb1
  go_wp2_with fail
  refine (C_CompactI base _ _ _ HO1.out (by rw [List.length_mergeSort]; exact hn)).mono ?_; rintro e w2 ⟨v2, rfl, ho2, hb2⟩
  have HB2 := Lib.hid (hb2 (Nat.le_trans hb HB1.out.size))
  rw [compact_sort] at ho2
  have HO2 := Lib.hid ho2
  clear ho2 hb2
  go_wp2_with fail
  go_ret
  exact ⟨_, rfl, HO2.out, HB1.out.trans HB2.out⟩
end Go.Proofs.YtjmfkenhnfdbjaaDoor
