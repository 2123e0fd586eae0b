/- Copies of slices of numbers. No condition but those stated. -/
import Derived.Test.YtcdffikambbleaaAppA
import Derived.Lib.LazyBuf
import Derived.Lib.BufferMore
namespace Go.Proofs.Ytcdffikambbleaa
set_option linter.unusedVariables false
set_option linter.unusedSimpArgs false
open Go.RowKit Go.Sort

def lst (n : Nat) (f : Nat → Int) : List Int := (List.range n).map f
theorem lst_length (n : Nat) (f : Nat → Int) : (lst n f).length = n := by simp [lst]
theorem ai_lst {n j : Nat} (f : Nat → Int) (h : j < n) : ai (lst n f) j = f j := by
  unfold ai lst; rw [List.getD_eq_getElem?_getD, List.getElem?_map, List.getElem?_range h]; rfl
theorem SI.reads {w : World} {A : Option Addr} {n cap : Nat} {f : Nat → Int} (h : SI w (.slice A n cap) n f) : Reads w w.heap.size 1 A n ((lst n f).map (Value.int .i64)) := by
  obtain ⟨A', cap', e, hr, _, _⟩ := h
  cases e
  refine ⟨by simp [lst], fun h0 => ?_⟩
  obtain ⟨b, off, rfl, hb, hc⟩ := hr h0
  refine ⟨_, rfl, hb, fun j u hu => ?_⟩
  have hj : j < n := by have := (List.getElem?_eq_some_iff.1 hu).1; simpa [lst] using this
  rw [List.getElem?_map, show (lst n f)[j]? = some (f j) by unfold lst; rw [List.getElem?_map, List.getElem?_range hj]; rfl] at hu
  simp only [Option.map_some, Option.some.injEq] at hu
  subst hu
  have := hc j hj
  unfold Addr.add
  by_cases e : j = 0
  · subst e; simpa using this
  · rw [if_neg e]; exact this
theorem wp_appN (w : World) {ops : Array Oper} {rest : List Oper} {o : Oper} {a : Act} {Q : Exit → Act → World → Prop} (hgd : o.guard = none) (s x : Operand)
    (ho : o.op = .call { callee := .builtin .append, args := #[s, x], argTypes := #[22, 22] })
    (base : Nat) (v : Value) (xs : List Int) (hs : a.eval s = v) (hown : OI base w v xs) (A : Option Addr) (m c : Nat) (f : Nat → Int) (hx : a.eval x = .slice A m c) (hr : SI w (.slice A m c) m f)
    (hlen : xs.length + m ≤ 1099511627776) (hbase : base ≤ w.heap.size)
    (h : ∀ v' w', OI base w' v' (xs ++ lst m f) → Below base w w' → wpList Try.prog ops Q rest (a.put o.dst v') w') : wpList Try.prog ops Q (o :: rest) a w := by
  obtain ⟨i0, hi, hz0, hz1, hz2⟩ := info_parts info_int
  refine wpList_append_any w hgd s x 22 ho base 3 i0 (.int .i64 0) 1 8 Try.underlying22 hi hz0 hz1 hz2 rfl (by omega) v xs.length (xs.map (Value.int .i64)) hs hown w.heap.size A m c _ hx hr.reads
    (fun u hu => ?_) (by unfold maxLen; omega) (by omega) hbase (fun v' w' h1 h2 _ => h v' w' ?_ ?_)
  · obtain ⟨y, _, rfl⟩ := List.mem_map.1 hu; rfl
  · unfold OI; rw [List.length_append, lst_length, List.map_append]; exact h1
  · exact (Below.refl base w).grown h2 hbase (fun k hk => (World.ownsRow.lt hown k hk).1)
theorem C_l1Own (v : Value) (n : Nat) (f : Nat → Int) (w : World) (h : SI w v n f) (hn : n ≤ 1099511627776) :
    Calls Try.prog 92 #[v] w fun e w' => ∃ v', e = .returned v' ∧ OI w.heap.size w' v' (lst n f) ∧ Below w.heap.size w w' := by
  have hs := h
  obtain ⟨A, cap, rfl, hr, hc, hm⟩ := h
  have HR := Lib.hid hr; clear hr
  have HS := Lib.hid hs; clear hs
  go_enter Try.func92, Try.ntmps92
  go_wp2_with (at_builtin; refine wp_appN _ rfl (.tmp 3) (.tmp 4) rfl w.heap.size _ _ rfl (OI.empty (Nat.le_refl _)) A n cap f rfl (HS.out.below ((Below.refl _ _).alloc (Nat.le_refl _) _)) (by simp; omega) (by simp) ?_; intro v1 w1 ho1 hb1)
  go_ret
  refine ⟨_, rfl, by simpa using ho1, Below.trans ?_ hb1⟩
  (repeat (first | with_reducible exact Below.refl _ _ | with_reducible exact below_regrown _ _ _ | with_reducible refine bel_step0 (by assumption) ?_ | with_reducible refine bel_alloc0 ?_ _ | with_reducible refine bel_regrown0 ?_ _ _ | with_reducible refine bel_regrown ?_ (by first | omega | (simp; done) | (simp; omega)) _ _ | with_reducible refine below_drewN ?_ _ | with_reducible refine Below.drew ?_ | with_reducible refine Below.alloc ?_ (by first | omega | (simp; done) | (simp; omega)) _ | with_reducible refine Below.setCell ?_ (by first | omega | (simp; done) | (simp; omega)) _ | with_reducible refine bel_step (by assumption) (by first | omega | (simp; done) | (simp; omega)) ?_ | with_reducible refine bel_grown (by assumption) (by first | omega | (simp; done) | (simp; omega)) (by first | omega | (simp; done) | (simp; omega)) ?_))

theorem C_CloneInt (v : Value) (n : Nat) (f : Nat → Int) (w : World) (h : SI w v n f) (hn : n ≤ 1099511627776) :
    Calls Try.prog 94 #[v] w fun e w' => ∃ v', e = .returned v' ∧ OI w.heap.size w' v' (lst n f) ∧ Below w.heap.size w w' := by
  have hs := h
  obtain ⟨A, cap, rfl, hr, hc, hm⟩ := h
  have HR := Lib.hid hr; clear hr
  have HS := Lib.hid hs; clear hs
  rcases A with _ | ad
  · have h0 : n = 0 := by
      rcases Nat.eq_zero_or_pos n with h0 | h0
      · exact h0
      · obtain ⟨b, off, e, _⟩ := HR.out h0; cases e
    subst h0
    have hnil := Lib.run_eql_slice_nil_nil (P := Try.prog) (t := 22) (e := 3)
    have hnil2 := fun W : World => hnil W 0 cap Try.underlying22
    clear hnil
    go_enter Try.func94, Try.ntmps94
    go_wp2
    go_ret
    exact ⟨_, rfl, OI.nil _ _, Below.refl _ _⟩
  · have hnil2 := fun W : World => Lib.run_eql_slice_nil (P := Try.prog) W 22 3 (some ad) n cap 0 0 Try.underlying22
    go_enter Try.func94, Try.ntmps94
    go_wp2_with (at_builtin; refine wp_appN _ rfl (.tmp 5) (.tmp 6) rfl w.heap.size _ _ rfl (OI.empty (Nat.le_refl _)) (some ad) n cap f rfl (HS.out.below ((Below.refl _ _).alloc (Nat.le_refl _) _)) (by simp; omega) (by simp) ?_; intro v1 w1 ho1 hb1)
    go_ret
    refine ⟨_, rfl, by simpa using ho1, Below.trans ?_ hb1⟩
    (repeat (first | with_reducible exact Below.refl _ _ | with_reducible exact below_regrown _ _ _ | with_reducible refine bel_step0 (by assumption) ?_ | with_reducible refine bel_alloc0 ?_ _ | with_reducible refine bel_regrown0 ?_ _ _ | with_reducible refine bel_regrown ?_ (by first | omega | (simp; done) | (simp; omega)) _ _ | with_reducible refine below_drewN ?_ _ | with_reducible refine Below.drew ?_ | with_reducible refine Below.alloc ?_ (by first | omega | (simp; done) | (simp; omega)) _ | with_reducible refine Below.setCell ?_ (by first | omega | (simp; done) | (simp; omega)) _ | with_reducible refine bel_step (by assumption) (by first | omega | (simp; done) | (simp; omega)) ?_ | with_reducible refine bel_grown (by assumption) (by first | omega | (simp; done) | (simp; omega)) (by first | omega | (simp; done) | (simp; omega)) ?_))

end Go.Proofs.Ytcdffikambbleaa
