/- Deciders: the program. No condition but those stated. -/
import Derived.Test.YtcdffikambbleaaRevU
namespace Go.Proofs.Ytcdffikambbleaa
set_option linter.unusedVariables false
set_option linter.unusedSimpArgs false
open Go.RowKit Go.Sort
theorem lst_get {n j : Nat} (f : Nat → Int) (h : j < n) : (lst n f)[j]? = some (f j) := by
  unfold lst; rw [List.getElem?_map, List.getElem?_range h]; rfl
theorem del_get (n i j : Nat) (f : Nat → Int) (hi : i < n) (hj : j < n - 1) : (((lst n f).take n).take i ++ ((lst n f).take n).drop (i + 1) ++ List.replicate (i + 1 - i) 0)[j]? = some (dropAt f i j) := by
  have hl := lst_length n f
  have ht : (lst n f).take n = lst n f := List.take_of_length_le (by omega)
  rw [ht, List.getElem?_append_left (by rw [List.length_append, List.length_take, List.length_drop]; omega)]
  unfold dropAt
  by_cases e : j < i
  · rw [List.getElem?_append_left (by rw [List.length_take]; omega), if_pos e, List.getElem?_take_of_lt e, lst_get f (by omega)]
  · have hm : ((lst n f).take i).length = i := by rw [List.length_take]; omega
    rw [List.getElem?_append_right (by omega), if_neg e, hm, List.getElem?_drop, show i + 1 + (j - i) = j + 1 by omega, lst_get f (by omega)]
theorem C_DeleteAt (wb : World) (v : Value) (n : Nat) (f : Nat → Int) (i : Nat) (w : World) (h : OI wb.heap.size w v (lst n f)) (hb : Below wb.heap.size wb w) (hi : i < n) :
    Calls Try.prog 93 #[v, .int .i64 i, .int .i64 ((i : Int) + 1)] w fun e w' => ∃ v', e = .returned v' ∧ SI w' v' (n - 1) (dropAt f i) ∧ Below wb.heap.size wb w' := by
  obtain ⟨lo, hi', hwi, hlo, _⟩ := h.wi1
  rw [lst_length] at hwi
  obtain ⟨A, cap, rfl, hr, hc, hm⟩ := hwi
  obtain ⟨b, off, rfl, hlb, _, hbs, hcell⟩ := hr (by omega)
  have hl := lst_length n f
  refine (Try.slices_Delete_int_cells b off n cap i (i + 1) (lst n f) w (by omega) hc hm (by omega) (by omega) (fun j hj => ?_) (fun j hj => (hcell j hj).2)).mono ?_
  · rw [(hcell j (by omega)).1]; rfl
  · rintro e w' ⟨rfl, q, rfl⟩
    obtain ⟨vs, hvs⟩ : ∃ vs, (((lst n f).take n).take i ++ ((lst n f).take n).drop (i + 1) ++ List.replicate (i + 1 - i) 0) = vs := ⟨_, rfl⟩
    have hlen : vs.length = n := by rw [← hvs]; simp only [List.length_append, List.length_take, List.length_drop, List.length_replicate]; omega
    have hget : ∀ j, j < n - 1 → vs[j]? = some (dropAt f i j) := fun j hj => by rw [← hvs]; exact del_get n i j f hi hj
    rw [hvs]
    have hB : Below wb.heap.size wb ((w.drewN q).setCells b off (vs.map (Value.int .i64))) := below_setCells (by omega) _ _ _ (below_drewN hb q)
    have hB0 : Below 0 w ((w.drewN q).setCells b off (vs.map (Value.int .i64))) := below_setCells (Nat.zero_le b) _ _ _ (below_drewN (Below.refl _ _) q)
    have hsz := hB0.size
    rw [show i + 1 - i = 1 by omega]
    refine ⟨_, rfl, ⟨_, _, rfl, fun h0 => ⟨b, off, rfl, by omega, fun j hj => ?_⟩, by omega, hm⟩, hB⟩
    have hj2 : j < (vs.map (Value.int .i64)).length := by rw [List.length_map]; omega
    rw [World.cell?_setCells_in b (vs.map (Value.int .i64)) off (w.drewN q) (fun t ht => ?_) j hj2]
    · have := hget j hj
      rw [← List.getElem?_eq_getElem hj2, List.getElem?_map, this]; rfl
    · rw [List.length_map] at ht
      have := (hcell t (by omega)).1
      show (w.cell? _).isSome = true
      rw [this]; rfl
end Go.Proofs.Ytcdffikambbleaa
