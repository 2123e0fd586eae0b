/- Rows appended. No condition but those stated. -/
import Derived.Test.YtmhelhjjadoiaaaGreatDoorRevR
namespace Go.Proofs.YtmhelhjjadoiaaaGreatDoor
set_option linter.unusedVariables false
set_option linter.unusedSimpArgs false
open Go.RowKit Go.Sort
def snocL (L : Nat → List Int) (n : Nat) (r : List Int) (j : Nat) : List Int := if j < n then L j else r
theorem info_islice : (Tryz.prog.info? 29).map (fun i => (i.zero, i.size, i.bytes)) = some (some (.slice none 0 0), 1, 24) := by kernel_rfl
theorem wp_appRow (w : World) {ops : Array Oper} {rest : List Oper} {o : Oper} {a : Act} {Q : Exit → Act → World → Prop} (hgd : o.guard = none) (s x : Operand)
    (ho : o.op = .call { callee := .builtin .append, args := #[s, x], argTypes := #[58, 58] })
    (base : Nat) (v : Value) (n : Nat) (L : Nat → List Int) (y z : Int) (hs : a.eval s = v) (hown : OSS base w v n L) (hx : a.eval x = .slice (some ⟨w.heap.size + 1, 0, none⟩) 1 1) (hlen : n ≤ 1048576) (hbase : base ≤ w.heap.size)
    (h : ∀ v' w', OSS base w' v' (n + 1) (snocL L n [y, z]) → Below base ((w.alloc (.cells #[.int .i64 y, .int .i64 z] 3)).alloc (.cells #[.slice (some ⟨w.heap.size, 0, none⟩) 2 2] 29)) w' →
      (∀ q, q < w.heap.size → v.ownBlock ≠ some q → w'.heap[q]? = w.heap[q]?) → (v'.ownBlock = v.ownBlock ∨ v'.ownBlock = some (w.heap.size + 1 + 1)) → wpList Tryz.prog ops Q rest (a.put o.dst v') w') :
    wpList Tryz.prog ops Q (o :: rest) a ((w.alloc (.cells #[.int .i64 y, .int .i64 z] 3)).alloc (.cells #[.slice (some ⟨w.heap.size, 0, none⟩) 2 2] 29)) := by
  obtain ⟨i0, hi, hz0, hz1, hz2⟩ := info_parts info_islice
  obtain ⟨S, h1, h2, h3⟩ := hown
  have b1 : Below w.heap.size w (w.alloc (.cells #[.int .i64 y, .int .i64 z] 3)) := (Below.refl _ _).alloc (Nat.le_refl _) _
  have b2 : Below w.heap.size w ((w.alloc (.cells #[.int .i64 y, .int .i64 z] 3)).alloc (.cells #[.slice (some ⟨w.heap.size, 0, none⟩) 2 2] 29)) := b1.alloc (by simp) _
  have hnew : OI base ((w.alloc (.cells #[.int .i64 y, .int .i64 z] 3)).alloc (.cells #[.slice (some ⟨w.heap.size, 0, none⟩) 2 2] 29)) (.slice (some ⟨w.heap.size, 0, none⟩) 2 2) [y, z] :=
    OI.alloc _ (World.ownsRow_lit w #[.int .i64 y, .int .i64 z] 2 hbase (by decide) rfl)
  have h1' := own_of_block (w' := (w.alloc (.cells #[.int .i64 y, .int .i64 z] 3)).alloc (.cells #[.slice (some ⟨w.heap.size, 0, none⟩) 2 2] 29)) h1 fun g hg => b2.block g (h1.lt g hg).2
  refine wpList_append_own_at _ hgd s x 58 ho base 29 i0 _ 1 24 Tryz.underlying58 hi hz0 hz1 hz2 rfl (by omega) v n _ hs h1' ⟨w.heap.size + 1, 0, none⟩ 1 1 [.slice (some ⟨w.heap.size, 0, none⟩) 2 2] hx rfl
    (fun j u hu => ?_) (fun u hu => ?_) (by unfold maxLen; omega) (by omega) (by simp; omega) (fun v' w' k1 k2 _ k4 => h v' w' ⟨fun j => if j < n then S j else .slice (some ⟨w.heap.size, 0, none⟩) 2 2, ?_, fun j hj => ?_, fun i j hi hj hij => ?_⟩ ?_ (fun q hq hn => (k2.block q (by simp; omega) (fun e => hn e.symm)).trans (b2.block q hq)) (by simpa using k4))
  · match j, hu with
    | 0, hu =>
      simp only [List.getElem?_cons_zero, Option.some.injEq] at hu; subst hu
      exact cell_new' (by simp) rfl
    | j + 1, hu => simp at hu
  · simp only [List.mem_singleton] at hu; subst hu; rfl
  · have e : (List.range (n + 1)).map (fun j => if j < n then S j else .slice (some ⟨w.heap.size, 0, none⟩) 2 2) = (List.range n).map S ++ [.slice (some ⟨w.heap.size, 0, none⟩) 2 2] := by
      rw [List.range_succ, List.map_append, List.map_congr_left (g := S) fun j hj => by rw [if_pos (List.mem_range.1 hj)]]
      simp
    rw [e]; exact k1
  · have keep : ∀ s xs, OI base ((w.alloc (.cells #[.int .i64 y, .int .i64 z] 3)).alloc (.cells #[.slice (some ⟨w.heap.size, 0, none⟩) 2 2] 29)) s xs → OI base w' s xs := fun s xs hh =>
      hh.of_block fun q hq => k2.block q (World.ownsRow.lt hh q hq).2 (fun e => rows_ne h1' hh e.symm hq)
    by_cases e : j < n
    · simp only [if_pos e, snocL]; exact keep _ _ ((h2 j e).below b2)
    · simp only [if_neg e, snocL]; exact keep _ _ hnew
  · have hold : ∀ j, j < n → (S j).ownBlock ≠ some w.heap.size := fun j hj e => by have := (World.ownsRow.lt (h2 j hj) _ e).2; omega
    by_cases e : i < n
    · by_cases e2 : j < n
      · simp only [if_pos e, if_pos e2]; exact h3 i j e e2 hij
      · simp only [if_pos e, if_neg e2]; exact .inr (hold i e)
    · by_cases e2 : j < n
      · simp only [if_neg e, if_pos e2]; exact .inr fun h => hold j e2 h.symm
      · omega
  · exact (Below.refl base _).grown k2 (by simp; omega) (fun q hq => (World.ownsRow.lt h1' q hq).1)
def at_ (rows : List (List Int)) (j : Nat) : List Int := rows.getD j []
theorem snoc_at (rows : List (List Int)) (r : List Int) (j : Nat) (hj : j < rows.length + 1) : snocL (at_ rows) rows.length r j = at_ (rows ++ [r]) j := by
  unfold snocL at_
  rw [List.getD_eq_getElem?_getD, List.getD_eq_getElem?_getD]
  by_cases e : j < rows.length
  · rw [if_pos e, List.getElem?_append_left e]
  · rw [if_neg e, List.getElem?_append_right (by omega), show j - rows.length = 0 by omega]; rfl
theorem OSS.congr {base : Nat} {w : World} {v : Value} {n : Nat} {L T : Nat → List Int} (h : OSS base w v n L) (e : ∀ j, j < n → L j = T j) : OSS base w v n T := by
  obtain ⟨S, h1, h2, h3⟩ := h
  exact ⟨S, h1, fun j hj => by rw [← e j hj]; exact h2 j hj, h3⟩
end Go.Proofs.YtmhelhjjadoiaaaGreatDoor
