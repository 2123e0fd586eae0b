/- l1Put and eachOnce. No condition but those stated. -/
import Derived.Test.YtjmfkenhnfdbjaaDoorOnce
import Derived.Test.YtjmfkenhnfdbjaaDoorShelf
import Derived.Deep.RegionHeld3
import Derived.Deep.DrawnRows
namespace Go.Proofs.YtjmfkenhnfdbjaaDoor
set_option linter.unusedVariables false
set_option linter.unusedSimpArgs false
open Go.RowKit Go.Sort
theorem SI.cut {w : World} {A : Option Addr} {n cap k : Nat} {f : Nat → Int} (h : SI w (.slice A n cap) n f) (hk : k ≤ n) : SI w (.slice A k cap) k f := by
  obtain ⟨A', cap', e, hr, hc, hm⟩ := h
  cases e
  refine ⟨A, cap, rfl, fun h0 => ?_, by omega, hm⟩
  obtain ⟨b, off, rfl, hl, hcell⟩ := hr (by omega)
  exact ⟨b, off, rfl, hl, fun j hj => hcell j (by omega)⟩
theorem SI.tail {w : World} {b off n cap k : Nat} {f : Nat → Int} (h : SI w (.slice (some ⟨b, off, none⟩) n cap) n f) (hk : k ≤ n) : SI w (.slice (some ⟨b, off + k, none⟩) (n - k) (cap - k)) (n - k) (fun j => f (k + j)) := by
  obtain ⟨A', cap', e, hr, hc, hm⟩ := h
  cases e
  refine ⟨_, _, rfl, fun h0 => ?_, by omega, by omega⟩
  obtain ⟨b', off', e, hl, hcell⟩ := hr (by omega)
  cases e
  exact ⟨b, off + k, rfl, hl, fun j hj => by rw [Nat.add_assoc]; exact hcell (k + j) (by omega)⟩
theorem SI.tailIf {w : World} {b off n cap k : Nat} {f : Nat → Int} (h : SI w (.slice (some ⟨b, off, none⟩) n cap) n f) (hk : k ≤ n) : SI w (.slice (if cap = k then some ⟨b, off, none⟩ else some ⟨b, off + k, none⟩) (n - k) (cap - k)) (n - k) (fun j => f (k + j)) := by
  by_cases e : cap = k
  · rw [if_pos e]
    have hc := h
    obtain ⟨A', cap', e', _, hc1, hc2⟩ := hc
    cases e'
    exact ⟨_, _, rfl, fun h0 => absurd h0 (by omega), by omega, by omega⟩
  · rw [if_neg e]; exact h.tail hk
theorem step_appN (w : World) {ops : Array Oper} {o : Oper} {a : Act} {K : Act → World → Prop} {Q : Exit → Act → World → Prop} {E : Prop} (hgd : o.guard = none) (s x : Operand)
    (ho : o.op = .call { callee := .builtin .append, args := #[s, x], argTypes := #[44, 44] })
    (wb : World) (v : Value) (xs : List Int) (hs : a.eval s = v) (hown : OI wb.heap.size w v xs) (hb : Below wb.heap.size wb w) (A : Option Addr) (m c : Nat) (f : Nat → Int) (hx : a.eval x = .slice A m c) (hr : SI w (.slice A m c) m f)
    (hlen : xs.length + m ≤ 1099511627776)
    (h : ∀ v' w', OI wb.heap.size w' v' (xs ++ lst m f) → Below wb.heap.size wb w' → K (a.put o.dst v') w') : if Region.wanted o (yielded ops a.tmps) = true then Oper.wp Tryd.prog o a w K Q else E := by
  obtain ⟨i0, hi, hz0, hz1, hz2⟩ := info_parts info_int
  have hbase := hb.size
  refine step_append_any w hgd s x 44 ho wb.heap.size 3 i0 (.int .i64 0) 1 8 Tryd.underlying44 hi hz0 hz1 hz2 rfl (by omega) v xs.length (xs.map (Value.int .i64)) hs hown w.heap.size A m c _ hx hr.reads
    (fun u hu => ?_) (by unfold maxLen; omega) (by omega) hbase (fun v' w' h1 h2 _ => h v' w' ?_ ?_)
  · obtain ⟨y, _, rfl⟩ := List.mem_map.1 hu; rfl
  · unfold OI; rw [List.length_append, lst_length, List.map_append]; exact h1
  · exact hb.trans ((Below.refl _ w).grown h2 hbase (fun k hk => (World.ownsRow.lt hown k hk).1))
/-- Putting behind the numbers that are smaller. -/
theorem put_split (l : List Int) (x : Int) (k : Nat) (hk : k ≤ l.length) (hlo : ∀ j, j < k → ai l j < x) (hhi : k < l.length → ¬ ai l k < x) :
    put l x = if k < l.length ∧ ai l k = x then l else l.take k ++ x :: l.drop k := by
  induction l generalizing k with
  | nil =>
    have : k = 0 := by simpa using hk
    subst this
    simp [put]
  | cons a r ih =>
    unfold put
    cases k with
    | zero =>
      have h := hhi (by simp)
      have e : ai (a :: r) 0 = a := rfl
      rw [e] at h ⊢
      rw [if_neg h]
      by_cases h2 : a = x
      · rw [if_pos h2, if_pos ⟨by simp, h2⟩]
      · rw [if_neg h2, if_neg (fun hh => h2 hh.2)]; simp
    | succ k =>
      have h0 := hlo 0 (by omega)
      have e : ai (a :: r) 0 = a := rfl
      rw [e] at h0
      rw [if_pos h0]
      have es : ∀ j, ai (a :: r) (j + 1) = ai r j := fun j => rfl
      rw [ih k (by simpa using hk) (fun j hj => by have := hlo (j + 1) (by omega); rwa [es] at this) (fun hj => by have := hhi (by simpa using hj); rwa [es] at this)]
      rw [es]
      by_cases h2 : k < r.length ∧ ai r k = x
      · rw [if_pos h2, if_pos ⟨by simpa using h2.1, h2.2⟩]
      · rw [if_neg h2, if_neg (fun hh => h2 ⟨by simpa using hh.1, hh.2⟩)]; simp
theorem lst_ai (l : List Int) (k : Nat) (hk : k ≤ l.length) : lst k (ai l) = l.take k := by
  show (List.range k).map (ai l) = l.take k
  apply List.ext_getElem
  · rw [List.length_map, List.length_range, List.length_take]; omega
  · intro j h1 h2
    rw [List.getElem_map, List.getElem_range, List.getElem_take]
    have hj : j < l.length := by simp at h1; omega
    have := ai_lt hj
    rw [List.getElem?_eq_getElem hj] at this
    injection this with this
    exact this.symm
theorem lst_ai_drop (l : List Int) (k : Nat) (hk : k ≤ l.length) : lst (l.length - k) (fun j => ai l (k + j)) = l.drop k := by
  show (List.range (l.length - k)).map (fun j => ai l (k + j)) = l.drop k
  apply List.ext_getElem
  · rw [List.length_map, List.length_range, List.length_drop]
  · intro j h1 h2
    rw [List.getElem_map, List.getElem_range, List.getElem_drop]
    have hj : k + j < l.length := by simp at h1; omega
    have := ai_lt hj
    rw [List.getElem?_eq_getElem hj] at this
    injection this with this
    exact this.symm
theorem step_appK (w : World) {ops : Array Oper} {o : Oper} {a : Act} {K : Act → World → Prop} {Q : Exit → Act → World → Prop} {E : Prop} (hgd : o.guard = none) (s x : Operand)
    (ho : o.op = .call { callee := .builtin .append, args := #[s, x], argTypes := #[44, 44] })
    (wb : World) (v : Value) (xs : List Int) (hs : a.eval s = v) (hown : OI wb.heap.size w v xs) (hb : Below wb.heap.size wb w) (A : Option Addr) (m c : Nat) (f : Nat → Int) (hx : a.eval x = .slice A m c) (hr : SI w (.slice A m c) m f)
    (hlen : xs.length + m ≤ 1099511627776)
    (h : ∀ v' w', OI wb.heap.size w' v' (xs ++ lst m f) → Below wb.heap.size wb w' → (∀ q, q < w.heap.size → v.ownBlock ≠ some q → w'.heap[q]? = w.heap[q]?) → w.heap.size ≤ w'.heap.size → K (a.put o.dst v') w') : if Region.wanted o (yielded ops a.tmps) = true then Oper.wp Tryd.prog o a w K Q else E := by
  obtain ⟨i0, hi, hz0, hz1, hz2⟩ := info_parts info_int
  have hbase := hb.size
  refine step_append_any w hgd s x 44 ho wb.heap.size 3 i0 (.int .i64 0) 1 8 Tryd.underlying44 hi hz0 hz1 hz2 rfl (by omega) v xs.length (xs.map (Value.int .i64)) hs hown w.heap.size A m c _ hx hr.reads
    (fun u hu => ?_) (by unfold maxLen; omega) (by omega) hbase (fun v' w' h1 h2 _ => h v' w' ?_ ?_ (fun q hq hn => h2.block q hq (fun e => hn e.symm)) h2.size)
  · obtain ⟨y, _, rfl⟩ := List.mem_map.1 hu; rfl
  · unfold OI; rw [List.length_append, lst_length, List.map_append]; exact h1
  · exact hb.trans ((Below.refl _ w).grown h2 hbase (fun k hk => (World.ownsRow.lt hown k hk).1))
theorem OI.emptyAt {base : Nat} {W : World} {g : Nat} (hg : g = W.heap.size) (hb : base ≤ g) : OI base (W.alloc (.cells #[] 3)) (.slice (some ⟨g, 0, none⟩) 0 0) [] := by
  subst hg; exact OI.empty hb
theorem si_cell {w : World} {g : Nat} {x : Int} (hg : g < w.heap.size) (h : w.cell? ⟨g, 0, none⟩ = some (.int .i64 x)) : SI w (.slice (some ⟨g, 0, none⟩) 1 1) 1 (fun _ => x) :=
  ⟨_, _, rfl, fun _ => ⟨g, 0, rfl, hg, fun j hj => by obtain rfl : j = 0 := (by omega); exact h⟩, Nat.le_refl _, by omega⟩
theorem si_lit (W : World) (x : Int) (T : TypeId) : SI (W.alloc (.cells #[.int .i64 x] T)) (.slice (some ⟨W.heap.size, 0, none⟩) 1 1) 1 (fun _ => x) :=
  si_cell (by simp) (cell_new _ _ _ _ _ rfl)
theorem lit_kept1 {w w2 : World} {T T' : TypeId} {x : Int} (hq : ∀ q, q < ((w.alloc (.cells #[] T)).alloc (.cells #[.int .i64 x] T')).heap.size → (Value.slice (some ⟨w.heap.size, 0, none⟩) 0 0).ownBlock ≠ some q → w2.heap[q]? = ((w.alloc (.cells #[] T)).alloc (.cells #[.int .i64 x] T')).heap[q]?)
    (hs : ((w.alloc (.cells #[] T)).alloc (.cells #[.int .i64 x] T')).heap.size ≤ w2.heap.size) : SI w2 (.slice (some ⟨w.heap.size + 1, 0, none⟩) 1 1) 1 (fun _ => x) := by
  simp only [World.size_alloc] at hs
  refine si_cell (by omega) ((World.cell?_of_block (a := ⟨w.heap.size + 1, 0, none⟩) (hq (w.heap.size + 1) (by simp) (by simp [Value.ownBlock]))).trans ?_)
  have := cell_new (w.alloc (.cells #[] T)) #[.int .i64 x] T' 0 _ rfl
  rw [World.size_alloc] at this
  exact this
theorem lit_kept0 {w w2 : World} {T T' : TypeId} {x : Int} (hq : ∀ q, q < ((w.alloc (.cells #[.int .i64 x] T')).alloc (.cells #[] T)).heap.size → (Value.slice (some ⟨w.heap.size + 1, 0, none⟩) 0 0).ownBlock ≠ some q → w2.heap[q]? = ((w.alloc (.cells #[.int .i64 x] T')).alloc (.cells #[] T)).heap[q]?)
    (hs : ((w.alloc (.cells #[.int .i64 x] T')).alloc (.cells #[] T)).heap.size ≤ w2.heap.size) : SI w2 (.slice (some ⟨w.heap.size, 0, none⟩) 1 1) 1 (fun _ => x) := by
  simp only [World.size_alloc] at hs
  exact si_cell (by omega) ((World.cell?_of_block (a := ⟨w.heap.size, 0, none⟩) (hq w.heap.size (by simp) (by simp [Value.ownBlock]))).trans (cell_old _ (by simp) (cell_new _ _ _ _ _ rfl)))
set_option maxRecDepth 100000 in
set_option maxHeartbeats 4000000 in
theorem C_l1Put (base : Nat) (v : Value) (xs : List Int) (x : Int) (w : World) (h : OI base w v xs) (hn : xs.length ≤ 1048576) (hb : base ≤ w.heap.size) :
    Calls Tryd.prog 48 #[v, .int .i64 x] w fun e w' => ∃ v', e = .returned v' ∧ OI base w' v' (put xs x) ∧ Below w.heap.size w w' := by
  have HO := Lib.hid h
  have HS := Lib.hid h.wi.si
  obtain ⟨A, cap, rfl, hr, hc, hm⟩ := h.wi.si
  have HR := Lib.hid hr
  clear hr h
  obtain ⟨n, hne⟩ : ∃ n, xs.length = n := ⟨_, rfl⟩
  obtain ⟨f, hf⟩ : ∃ f, ai xs = f := ⟨_, rfl⟩
  have hps := fun k => put_split xs x k
  rw [hne, hf] at hps
  have HPS := Lib.hid hps
  have HN := Lib.hid hne
  have HF := Lib.hid hf
  rw [hne] at hn hc HR HS HO ⊢
  rw [hf] at HR HS
  clear hps hne hf
  go_enter Tryd.func48, Tryd.ntmps48
  go_wp2
  go_loop [5] (fun i => ∃ k : Nat, k ≤ n ∧ i = .int .i64 k ∧ ∀ j, j < k → f j < x) (fun i => n - (intOf i).toNat)
  case atStart => exact ⟨0, Nat.zero_le _, rfl, fun j hj => absurd hj (by omega)⟩
  case round =>
    obtain ⟨k, hk, rfl, ha⟩ := hrel
    have HA := Lib.hid ha; clear ha
    by_cases hlt : k < n
    · obtain ⟨b, off, rfl, hb2, hcell⟩ := HR.out (by omega)
      have hck := hcell k hlt
      clear hcell
      by_cases hx : f k < x
      · go_wp2
        go_round
        case rel => exact ⟨k + 1, by omega, by go_num, fun j hj => by
          by_cases e : j = k
          · subst e; exact hx
          · exact HA.out j (by omega)⟩
        case measure => simp [intOf]; omega
      · have hki : (k : Int) < (n : Int) := by omega
        cases he : (f k == x)
        · have hput : put xs x = (xs.take k ++ [x]) ++ xs.drop k := by
            rw [HPS.out k hk HA.out (fun _ => by omega), if_neg (fun hh => by rw [hh.2] at he; simp at he)]; simp
          have heq : [] ++ lst k f ++ lst 1 (fun _ => x) ++ lst (n - k) (fun j => f (k + j)) = put xs x := by
            rw [hput, ← HF.out, ← HN.out, lst_ai xs k (by rw [HN.out]; omega), lst_ai_drop xs k (by rw [HN.out]; omega)]; rfl
          have HEQ := Lib.hid heq
          clear hput heq
          have HTL := Lib.hid (HS.out.tail (k := k) (by omega))
          have HC := Lib.hid (HS.out.cut (k := k) (by omega))
          have hk0 : (0 : Int) ≤ (k : Int) := by omega
          have hk1 : (k : Int) ≤ (n : Int) := by omega
          have hk2 : (k : Int) ≤ (cap : Int) := by omega
          have hk3 : (n : Int) ≤ (cap : Int) := by omega
          have hk4 : ¬ cap = k := by omega
          go_wp2
          go_region_held3 (fun W => Below w.heap.size w W) (((repeat (first | with_reducible exact Below.refl _ _ | with_reducible exact below_regrown _ _ _ | with_reducible refine bel_step0 (by assumption) ?_ | with_reducible refine bel_alloc0 ?_ _ | with_reducible refine bel_regrown0 ?_ _ _ | with_reducible refine bel_regrown ?_ (by first | omega | (simp; done) | (simp; omega)) _ _ | with_reducible refine below_drewN ?_ _ | with_reducible refine Below.drew ?_ | with_reducible refine Below.alloc ?_ (by first | omega | (simp; done) | (simp; omega)) _ | with_reducible refine Below.setCell ?_ (by first | omega | (simp; done) | (simp; omega)) _ | with_reducible refine bel_step (by assumption) (by first | omega | (simp; done) | (simp; omega)) ?_ | with_reducible refine bel_grown (by assumption) (by first | omega | (simp; done) | (simp; omega)) (by first | omega | (simp; done) | (simp; omega)) ?_)))) (first | ((refine step_appK _ (by rfl) (.tmp 33) (.tmp 36) (by rfl) w _ _ (by rfl) (by first | exact OI.emptyAt (by simp) (by simp) | exact OI.alloc _ (OI.emptyAt (by simp) (by simp))) (by (repeat (first | with_reducible exact Below.refl _ _ | with_reducible exact below_regrown _ _ _ | with_reducible refine bel_step0 (by assumption) ?_ | with_reducible refine bel_alloc0 ?_ _ | with_reducible refine bel_regrown0 ?_ _ _ | with_reducible refine bel_regrown ?_ (by first | omega | (simp; done) | (simp; omega)) _ _ | with_reducible refine below_drewN ?_ _ | with_reducible refine Below.drew ?_ | with_reducible refine Below.alloc ?_ (by first | omega | (simp; done) | (simp; omega)) _ | with_reducible refine Below.setCell ?_ (by first | omega | (simp; done) | (simp; omega)) _ | with_reducible refine bel_step (by assumption) (by first | omega | (simp; done) | (simp; omega)) ?_ | with_reducible refine bel_grown (by assumption) (by first | omega | (simp; done) | (simp; omega)) (by first | omega | (simp; done) | (simp; omega)) ?_))) _ _ _ _ (by rfl) (HC.out.below (by (repeat (first | with_reducible exact Below.refl _ _ | with_reducible exact below_regrown _ _ _ | with_reducible refine bel_step0 (by assumption) ?_ | with_reducible refine bel_alloc0 ?_ _ | with_reducible refine bel_regrown0 ?_ _ _ | with_reducible refine bel_regrown ?_ (by first | omega | (simp; done) | (simp; omega)) _ _ | with_reducible refine below_drewN ?_ _ | with_reducible refine Below.drew ?_ | with_reducible refine Below.alloc ?_ (by first | omega | (simp; done) | (simp; omega)) _ | with_reducible refine Below.setCell ?_ (by first | omega | (simp; done) | (simp; omega)) _ | with_reducible refine bel_step (by assumption) (by first | omega | (simp; done) | (simp; omega)) ?_ | with_reducible refine bel_grown (by assumption) (by first | omega | (simp; done) | (simp; omega)) (by first | omega | (simp; done) | (simp; omega)) ?_)))) (by simp; omega) ?_; intro v2 w2 ho2 hb2 hq2 hs2; have HQ2 := Lib.hid hq2; have HS2 := Lib.hid hs2; clear hq2 hs2)) | ((refine step_appK _ (by rfl) (.tmp 37) (.tmp 39) (by rfl) w _ _ (by rfl) (by first | exact ho2 | exact OI.alloc _ ho2) (by (repeat (first | with_reducible exact Below.refl _ _ | with_reducible exact below_regrown _ _ _ | with_reducible refine bel_step0 (by assumption) ?_ | with_reducible refine bel_alloc0 ?_ _ | with_reducible refine bel_regrown0 ?_ _ _ | with_reducible refine bel_regrown ?_ (by first | omega | (simp; done) | (simp; omega)) _ _ | with_reducible refine below_drewN ?_ _ | with_reducible refine Below.drew ?_ | with_reducible refine Below.alloc ?_ (by first | omega | (simp; done) | (simp; omega)) _ | with_reducible refine Below.setCell ?_ (by first | omega | (simp; done) | (simp; omega)) _ | with_reducible refine bel_step (by assumption) (by first | omega | (simp; done) | (simp; omega)) ?_ | with_reducible refine bel_grown (by assumption) (by first | omega | (simp; done) | (simp; omega)) (by first | omega | (simp; done) | (simp; omega)) ?_))) _ _ _ _ (by rfl) (by first | exact si_lit _ _ _ | exact lit_kept1 HQ2.out HS2.out | exact lit_kept0 HQ2.out HS2.out) (by rw [List.nil_append, lst_length]; omega) ?_; intro v3 w3 ho3 hb3 hq3 hs3; clear hq3 hs3)) | ((refine step_appK _ (by rfl) (.tmp 40) (.tmp 43) (by rfl) w _ _ (by rfl) ho3 (by (repeat (first | with_reducible exact Below.refl _ _ | with_reducible exact below_regrown _ _ _ | with_reducible refine bel_step0 (by assumption) ?_ | with_reducible refine bel_alloc0 ?_ _ | with_reducible refine bel_regrown0 ?_ _ _ | with_reducible refine bel_regrown ?_ (by first | omega | (simp; done) | (simp; omega)) _ _ | with_reducible refine below_drewN ?_ _ | with_reducible refine Below.drew ?_ | with_reducible refine Below.alloc ?_ (by first | omega | (simp; done) | (simp; omega)) _ | with_reducible refine Below.setCell ?_ (by first | omega | (simp; done) | (simp; omega)) _ | with_reducible refine bel_step (by assumption) (by first | omega | (simp; done) | (simp; omega)) ?_ | with_reducible refine bel_grown (by assumption) (by first | omega | (simp; done) | (simp; omega)) (by first | omega | (simp; done) | (simp; omega)) ?_))) _ _ _ _ (by rfl) (HTL.out.below (by (repeat (first | with_reducible exact Below.refl _ _ | with_reducible exact below_regrown _ _ _ | with_reducible refine bel_step0 (by assumption) ?_ | with_reducible refine bel_alloc0 ?_ _ | with_reducible refine bel_regrown0 ?_ _ _ | with_reducible refine bel_regrown ?_ (by first | omega | (simp; done) | (simp; omega)) _ _ | with_reducible refine below_drewN ?_ _ | with_reducible refine Below.drew ?_ | with_reducible refine Below.alloc ?_ (by first | omega | (simp; done) | (simp; omega)) _ | with_reducible refine Below.setCell ?_ (by first | omega | (simp; done) | (simp; omega)) _ | with_reducible refine bel_step (by assumption) (by first | omega | (simp; done) | (simp; omega)) ?_ | with_reducible refine bel_grown (by assumption) (by first | omega | (simp; done) | (simp; omega)) (by first | omega | (simp; done) | (simp; omega)) ?_)))) (by rw [List.length_append, List.nil_append, lst_length, lst_length]; omega) ?_; intro v4 w4 ho4 hb4 hq4 hs4; clear hq4 hs4)))
          all_goals go_wp2
          all_goals go_ret
          all_goals exact ⟨_, rfl, by rw [← HEQ.out]; exact ho4.mono hb, hb4⟩
        · have hput : put xs x = xs := by rw [HPS.out k hk HA.out (fun _ => by omega), if_pos ⟨hlt, by simpa using he⟩]
          have HPUT := Lib.hid hput
          clear hput
          go_wp2
          go_ret
          exact ⟨_, rfl, by rw [HPUT.out]; exact HO.out, Below.refl _ _⟩
    · obtain rfl : k = n := by omega
      have hput : put xs x = xs ++ [x] := by
        rw [HPS.out k hk HA.out (fun h => absurd h hlt), if_neg (fun hh => hlt hh.1), ← HN.out]; simp
      have heq : [] ++ lst k f ++ lst 1 (fun _ => x) ++ lst 0 (fun _ => 0) = put xs x := by
        rw [hput, ← HF.out, lst_ai xs k (by rw [HN.out]; omega), List.take_of_length_le (by rw [HN.out]; exact Nat.le_refl _)]; simp [lst]
      have HEQ := Lib.hid heq
      clear hput heq
      have HC := Lib.hid (HS.out.cut (k := k) (Nat.le_refl _))
      have hk0 : (0 : Int) ≤ (k : Int) := by omega
      have hk2 : (k : Int) ≤ (cap : Int) := by omega
      have hz : ∀ W A c, c ≤ 9223372036854775807 → SI W (.slice A 0 c) 0 (fun _ => 0) := fun W A c hc => ⟨A, c, rfl, fun h => absurd h (by omega), by omega, hc⟩
      have HZ := Lib.hid hz
      clear hz
      by_cases hcn : cap = k
      · subst hcn
        go_wp2
        go_region_held3 (fun W => Below w.heap.size w W) (((repeat (first | with_reducible exact Below.refl _ _ | with_reducible exact below_regrown _ _ _ | with_reducible refine bel_step0 (by assumption) ?_ | with_reducible refine bel_alloc0 ?_ _ | with_reducible refine bel_regrown0 ?_ _ _ | with_reducible refine bel_regrown ?_ (by first | omega | (simp; done) | (simp; omega)) _ _ | with_reducible refine below_drewN ?_ _ | with_reducible refine Below.drew ?_ | with_reducible refine Below.alloc ?_ (by first | omega | (simp; done) | (simp; omega)) _ | with_reducible refine Below.setCell ?_ (by first | omega | (simp; done) | (simp; omega)) _ | with_reducible refine bel_step (by assumption) (by first | omega | (simp; done) | (simp; omega)) ?_ | with_reducible refine bel_grown (by assumption) (by first | omega | (simp; done) | (simp; omega)) (by first | omega | (simp; done) | (simp; omega)) ?_)))) (first | ((refine step_appK _ (by rfl) (.tmp 33) (.tmp 36) (by rfl) w _ _ (by rfl) (by first | exact OI.emptyAt (by simp) (by simp) | exact OI.alloc _ (OI.emptyAt (by simp) (by simp))) (by (repeat (first | with_reducible exact Below.refl _ _ | with_reducible exact below_regrown _ _ _ | with_reducible refine bel_step0 (by assumption) ?_ | with_reducible refine bel_alloc0 ?_ _ | with_reducible refine bel_regrown0 ?_ _ _ | with_reducible refine bel_regrown ?_ (by first | omega | (simp; done) | (simp; omega)) _ _ | with_reducible refine below_drewN ?_ _ | with_reducible refine Below.drew ?_ | with_reducible refine Below.alloc ?_ (by first | omega | (simp; done) | (simp; omega)) _ | with_reducible refine Below.setCell ?_ (by first | omega | (simp; done) | (simp; omega)) _ | with_reducible refine bel_step (by assumption) (by first | omega | (simp; done) | (simp; omega)) ?_ | with_reducible refine bel_grown (by assumption) (by first | omega | (simp; done) | (simp; omega)) (by first | omega | (simp; done) | (simp; omega)) ?_))) _ _ _ _ (by rfl) (HC.out.below (by (repeat (first | with_reducible exact Below.refl _ _ | with_reducible exact below_regrown _ _ _ | with_reducible refine bel_step0 (by assumption) ?_ | with_reducible refine bel_alloc0 ?_ _ | with_reducible refine bel_regrown0 ?_ _ _ | with_reducible refine bel_regrown ?_ (by first | omega | (simp; done) | (simp; omega)) _ _ | with_reducible refine below_drewN ?_ _ | with_reducible refine Below.drew ?_ | with_reducible refine Below.alloc ?_ (by first | omega | (simp; done) | (simp; omega)) _ | with_reducible refine Below.setCell ?_ (by first | omega | (simp; done) | (simp; omega)) _ | with_reducible refine bel_step (by assumption) (by first | omega | (simp; done) | (simp; omega)) ?_ | with_reducible refine bel_grown (by assumption) (by first | omega | (simp; done) | (simp; omega)) (by first | omega | (simp; done) | (simp; omega)) ?_)))) (by simp; omega) ?_; intro v2 w2 ho2 hb2 hq2 hs2; have HQ2 := Lib.hid hq2; have HS2 := Lib.hid hs2; clear hq2 hs2)) | ((refine step_appK _ (by rfl) (.tmp 37) (.tmp 39) (by rfl) w _ _ (by rfl) (by first | exact ho2 | exact OI.alloc _ ho2) (by (repeat (first | with_reducible exact Below.refl _ _ | with_reducible exact below_regrown _ _ _ | with_reducible refine bel_step0 (by assumption) ?_ | with_reducible refine bel_alloc0 ?_ _ | with_reducible refine bel_regrown0 ?_ _ _ | with_reducible refine bel_regrown ?_ (by first | omega | (simp; done) | (simp; omega)) _ _ | with_reducible refine below_drewN ?_ _ | with_reducible refine Below.drew ?_ | with_reducible refine Below.alloc ?_ (by first | omega | (simp; done) | (simp; omega)) _ | with_reducible refine Below.setCell ?_ (by first | omega | (simp; done) | (simp; omega)) _ | with_reducible refine bel_step (by assumption) (by first | omega | (simp; done) | (simp; omega)) ?_ | with_reducible refine bel_grown (by assumption) (by first | omega | (simp; done) | (simp; omega)) (by first | omega | (simp; done) | (simp; omega)) ?_))) _ _ _ _ (by rfl) (by first | exact si_lit _ _ _ | exact lit_kept1 HQ2.out HS2.out | exact lit_kept0 HQ2.out HS2.out) (by rw [List.nil_append, lst_length]; omega) ?_; intro v3 w3 ho3 hb3 hq3 hs3; clear hq3 hs3)) | ((refine step_appK _ (by rfl) (.tmp 40) (.tmp 43) (by rfl) w _ _ (by rfl) ho3 (by (repeat (first | with_reducible exact Below.refl _ _ | with_reducible exact below_regrown _ _ _ | with_reducible refine bel_step0 (by assumption) ?_ | with_reducible refine bel_alloc0 ?_ _ | with_reducible refine bel_regrown0 ?_ _ _ | with_reducible refine bel_regrown ?_ (by first | omega | (simp; done) | (simp; omega)) _ _ | with_reducible refine below_drewN ?_ _ | with_reducible refine Below.drew ?_ | with_reducible refine Below.alloc ?_ (by first | omega | (simp; done) | (simp; omega)) _ | with_reducible refine Below.setCell ?_ (by first | omega | (simp; done) | (simp; omega)) _ | with_reducible refine bel_step (by assumption) (by first | omega | (simp; done) | (simp; omega)) ?_ | with_reducible refine bel_grown (by assumption) (by first | omega | (simp; done) | (simp; omega)) (by first | omega | (simp; done) | (simp; omega)) ?_))) _ _ _ _ (by rfl) (HZ.out _ _ _ (by omega)) (by rw [List.length_append, List.nil_append, lst_length, lst_length]; omega) ?_; intro v4 w4 ho4 hb4 hq4 hs4; clear hq4 hs4)))
        all_goals go_wp2
        all_goals go_ret
        all_goals exact ⟨_, rfl, by rw [← HEQ.out]; exact ho4.mono hb, hb4⟩
      · rcases A with _ | ⟨b, off, spot⟩
        · exfalso
          rcases HO.out.2 with ⟨e, h0⟩ | ⟨g, cap', cur, e, _⟩
          · injection e with _ e1 e2; omega
          · injection e with e1 _ _; cases e1
        · go_wp2
          go_region_held3 (fun W => Below w.heap.size w W) (((repeat (first | with_reducible exact Below.refl _ _ | with_reducible exact below_regrown _ _ _ | with_reducible refine bel_step0 (by assumption) ?_ | with_reducible refine bel_alloc0 ?_ _ | with_reducible refine bel_regrown0 ?_ _ _ | with_reducible refine bel_regrown ?_ (by first | omega | (simp; done) | (simp; omega)) _ _ | with_reducible refine below_drewN ?_ _ | with_reducible refine Below.drew ?_ | with_reducible refine Below.alloc ?_ (by first | omega | (simp; done) | (simp; omega)) _ | with_reducible refine Below.setCell ?_ (by first | omega | (simp; done) | (simp; omega)) _ | with_reducible refine bel_step (by assumption) (by first | omega | (simp; done) | (simp; omega)) ?_ | with_reducible refine bel_grown (by assumption) (by first | omega | (simp; done) | (simp; omega)) (by first | omega | (simp; done) | (simp; omega)) ?_)))) (first | ((refine step_appK _ (by rfl) (.tmp 33) (.tmp 36) (by rfl) w _ _ (by rfl) (by first | exact OI.emptyAt (by simp) (by simp) | exact OI.alloc _ (OI.emptyAt (by simp) (by simp))) (by (repeat (first | with_reducible exact Below.refl _ _ | with_reducible exact below_regrown _ _ _ | with_reducible refine bel_step0 (by assumption) ?_ | with_reducible refine bel_alloc0 ?_ _ | with_reducible refine bel_regrown0 ?_ _ _ | with_reducible refine bel_regrown ?_ (by first | omega | (simp; done) | (simp; omega)) _ _ | with_reducible refine below_drewN ?_ _ | with_reducible refine Below.drew ?_ | with_reducible refine Below.alloc ?_ (by first | omega | (simp; done) | (simp; omega)) _ | with_reducible refine Below.setCell ?_ (by first | omega | (simp; done) | (simp; omega)) _ | with_reducible refine bel_step (by assumption) (by first | omega | (simp; done) | (simp; omega)) ?_ | with_reducible refine bel_grown (by assumption) (by first | omega | (simp; done) | (simp; omega)) (by first | omega | (simp; done) | (simp; omega)) ?_))) _ _ _ _ (by rfl) (HC.out.below (by (repeat (first | with_reducible exact Below.refl _ _ | with_reducible exact below_regrown _ _ _ | with_reducible refine bel_step0 (by assumption) ?_ | with_reducible refine bel_alloc0 ?_ _ | with_reducible refine bel_regrown0 ?_ _ _ | with_reducible refine bel_regrown ?_ (by first | omega | (simp; done) | (simp; omega)) _ _ | with_reducible refine below_drewN ?_ _ | with_reducible refine Below.drew ?_ | with_reducible refine Below.alloc ?_ (by first | omega | (simp; done) | (simp; omega)) _ | with_reducible refine Below.setCell ?_ (by first | omega | (simp; done) | (simp; omega)) _ | with_reducible refine bel_step (by assumption) (by first | omega | (simp; done) | (simp; omega)) ?_ | with_reducible refine bel_grown (by assumption) (by first | omega | (simp; done) | (simp; omega)) (by first | omega | (simp; done) | (simp; omega)) ?_)))) (by simp; omega) ?_; intro v2 w2 ho2 hb2 hq2 hs2; have HQ2 := Lib.hid hq2; have HS2 := Lib.hid hs2; clear hq2 hs2)) | ((refine step_appK _ (by rfl) (.tmp 37) (.tmp 39) (by rfl) w _ _ (by rfl) (by first | exact ho2 | exact OI.alloc _ ho2) (by (repeat (first | with_reducible exact Below.refl _ _ | with_reducible exact below_regrown _ _ _ | with_reducible refine bel_step0 (by assumption) ?_ | with_reducible refine bel_alloc0 ?_ _ | with_reducible refine bel_regrown0 ?_ _ _ | with_reducible refine bel_regrown ?_ (by first | omega | (simp; done) | (simp; omega)) _ _ | with_reducible refine below_drewN ?_ _ | with_reducible refine Below.drew ?_ | with_reducible refine Below.alloc ?_ (by first | omega | (simp; done) | (simp; omega)) _ | with_reducible refine Below.setCell ?_ (by first | omega | (simp; done) | (simp; omega)) _ | with_reducible refine bel_step (by assumption) (by first | omega | (simp; done) | (simp; omega)) ?_ | with_reducible refine bel_grown (by assumption) (by first | omega | (simp; done) | (simp; omega)) (by first | omega | (simp; done) | (simp; omega)) ?_))) _ _ _ _ (by rfl) (by first | exact si_lit _ _ _ | exact lit_kept1 HQ2.out HS2.out | exact lit_kept0 HQ2.out HS2.out) (by rw [List.nil_append, lst_length]; omega) ?_; intro v3 w3 ho3 hb3 hq3 hs3; clear hq3 hs3)) | ((refine step_appK _ (by rfl) (.tmp 40) (.tmp 43) (by rfl) w _ _ (by rfl) ho3 (by (repeat (first | with_reducible exact Below.refl _ _ | with_reducible exact below_regrown _ _ _ | with_reducible refine bel_step0 (by assumption) ?_ | with_reducible refine bel_alloc0 ?_ _ | with_reducible refine bel_regrown0 ?_ _ _ | with_reducible refine bel_regrown ?_ (by first | omega | (simp; done) | (simp; omega)) _ _ | with_reducible refine below_drewN ?_ _ | with_reducible refine Below.drew ?_ | with_reducible refine Below.alloc ?_ (by first | omega | (simp; done) | (simp; omega)) _ | with_reducible refine Below.setCell ?_ (by first | omega | (simp; done) | (simp; omega)) _ | with_reducible refine bel_step (by assumption) (by first | omega | (simp; done) | (simp; omega)) ?_ | with_reducible refine bel_grown (by assumption) (by first | omega | (simp; done) | (simp; omega)) (by first | omega | (simp; done) | (simp; omega)) ?_))) _ _ _ _ (by rfl) (HZ.out _ _ _ (by omega)) (by rw [List.length_append, List.nil_append, lst_length, lst_length]; omega) ?_; intro v4 w4 ho4 hb4 hq4 hs4; clear hq4 hs4)))
          all_goals go_wp2
          all_goals go_ret
          all_goals exact ⟨_, rfl, by rw [← HEQ.out]; exact ho4.mono hb, hb4⟩
end Go.Proofs.YtjmfkenhnfdbjaaDoor
