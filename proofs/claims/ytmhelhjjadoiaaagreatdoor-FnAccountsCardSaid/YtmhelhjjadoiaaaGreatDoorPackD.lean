/- Texts of this claim in one: SmA, SmC, SmB, SmD, SmE, SmF, SmG, SmH, SmI. No condition but those stated. -/
import Derived.Test.YtmhelhjjadoiaaaGreatDoorCmp
import Derived.Test.YtmhelhjjadoiaaaGreatDoorMapC
import Derived.Test.YtmhelhjjadoiaaaGreatDoorLkO
import Derived.Sort.LotA
import Derived.Sort.Walk0
import Derived.Shelf.SlSortCmp.Whole1
import Derived.Test.YtmhelhjjadoiaaaGreatDoorEach
import Derived.Test.YtmhelhjjadoiaaaGreatDoorSortF
import Derived.Test.YtmhelhjjadoiaaaGreatDoorPut
import Derived.Test.YtmhelhjjadoiaaaGreatDoorTxtD
import Derived.Deep.CutBlock
import Derived.Deep.DeepCutAuto
/- How the program's SameReason compares two reasons. No condition but those stated. -/
namespace Go.Proofs.YtmhelhjjadoiaaaGreatDoor
set_option linter.unusedVariables false
set_option linter.unusedSimpArgs false
open Go.RowKit Go.Sort Go.WideMaps Go.Maps
theorem lawStr : Keyed Tryz.prog 9 := string_keyed Tryz.underlying9
/-- The key of a text. -/
def kS (s : ByteArray) : Lit := .string s.data.toList
theorem key_str {s : ByteArray} (h : s.size ≤ 9223372036854775807) : keyOf Tryz.prog 9 (.string s) = some (kS s) := keyOf_string_mk Tryz.underlying9 (by unfold maxLen; exact h)
def cmpR (c : Lit → Int) (a b : ByteArray) : Int := orI (cmpI (c (kS b)) (c (kS a))) (cmpS a b)
theorem C_Same1 (a b : ByteArray) (g B n : Nat) (c : Lit → Int) (w : World) (ha : a.size ≤ 9223372036854775807) (hb : b.size ≤ 9223372036854775807) (hg : w.cell? ⟨g, 0, none⟩ = some (.map (some B))) (hc : CM 9 w B n c) :
    Calls Tryz.prog 69 #[.string a, .string b, .pointer (some ⟨g, 0, none⟩)] w fun e w' => e = .returned (.int .i64 (cmpR c a b)) ∧ ∃ o, w' = w.alloc o := by
  have HC := Lib.hid hc
  have HA := Lib.hid (key_str ha)
  have HB := Lib.hid (key_str hb)
  clear hc ha hb
  go_enter Tryz.func69, Tryz.ntmps69
  go_wp2_with (first
    | (at_lookup; refine wp_lookC _ rfl (.tmp 6) (.tmp 7) 82 9 rfl lawStr Tryz.underlying82 B n c rfl HC.out _ _ rfl HB.out ?_)
    | (at_lookup; refine wp_lookC _ rfl (.tmp 9) (.tmp 10) 82 9 rfl lawStr Tryz.underlying82 B n c rfl HC.out _ _ rfl HA.out ?_)
    | (go_at_call 65; refine (C_CompareI _ _ _).mono ?_; rintro e w' ⟨rfl, rfl⟩)
    | (go_at_call 71; refine (C_CompareS _ _ _).mono ?_; rintro e w' ⟨rfl, rfl⟩)
    | (go_at_call 70; refine (C_Or2 _ _ _ _ (cell_new _ _ _ 0 _ (by rfl)) (cell_new _ _ _ 1 _ (by rfl))).mono ?_; rintro e w' ⟨rfl, rfl⟩))
  go_ret
  exact ⟨rfl, _, rfl⟩
end Go.Proofs.YtmhelhjjadoiaaaGreatDoor

/- The program's SameReason, up to its sort. No condition but those stated. -/
namespace Go.Proofs.YtmhelhjjadoiaaaGreatDoor
set_option linter.unusedVariables false
set_option linter.unusedSimpArgs false
open Go.RowKit Go.Sort Go.WideMaps Go.Maps
/-- The counts of the first k looks' reasons. -/
noncomputable def cL (R : Nat → Lk) : Nat → Lit → Int
  | 0 => fun _ => 0
  | k + 1 => updC (cL R k) (kS (R k).why) (cL R k (kS (R k).why) + 1)
/-- The reasons of the first k looks, each once. -/
noncomputable def dL (R : Nat → Lk) : Nat → List ByteArray
  | 0 => []
  | k + 1 => if cL R k (kS (R k).why) = 0 then dL R k ++ [(R k).why] else dL R k
theorem cL_bd (R : Nat → Lk) (k : Nat) : ∀ x, 0 ≤ cL R k x ∧ cL R k x ≤ k := by
  induction k with
  | zero => intro x; exact ⟨Int.le_refl 0, Int.le_refl 0⟩
  | succ k ih =>
    intro x
    have h1 := ih x
    have h2 := ih (kS (R k).why)
    by_cases e : x = kS (R k).why
    · subst e
      have : cL R (k + 1) (kS (R k).why) = cL R k (kS (R k).why) + 1 := updC_same _ _ _
      rw [this]; omega
    · have : cL R (k + 1) x = cL R k x := updC_other e
      rw [this]; omega
theorem dL_new {R : Nat → Lk} {k : Nat} (h : cL R k (kS (R k).why) = 0) : dL R (k + 1) = dL R k ++ [(R k).why] := by
  show (if _ then _ else _) = _; rw [if_pos h]
theorem dL_old {R : Nat → Lk} {k : Nat} (h : ¬ cL R k (kS (R k).why) = 0) : dL R (k + 1) = dL R k := by
  show (if _ then _ else _) = _; rw [if_neg h]
theorem dL_le (R : Nat → Lk) (k : Nat) : (dL R k).length ≤ k := by
  induction k with
  | zero => exact Nat.le_refl _
  | succ k ih =>
    by_cases h : cL R k (kS (R k).why) = 0
    · rw [dL_new h, List.length_append]; simp; omega
    · rw [dL_old h]; omega
theorem CM.of_block {K : TypeId} {w w' : World} {B n : Nat} {c : Lit → Int} (h : CM K w B n c) (e : w'.heap[B]? = w.heap[B]?) : CM K w' B n c := by
  obtain ⟨D, ⟨es, clock, hb, r⟩, h2⟩ := h
  exact ⟨D, ⟨es, clock, e.trans hb, r⟩, h2⟩
theorem OT.of_block {base : Nat} {w w' : World} {v : Value} {xs : List ByteArray} (h : OT base w v xs) (hb : ∀ g, v.ownBlock = some g → w'.heap[g]? = w.heap[g]?) : OT base w' v xs := own_of_block h hb
theorem OT.lt {base : Nat} {w : World} {v : Value} {xs : List ByteArray} (h : OT base w v xs) : ∀ k, v.ownBlock = some k → base ≤ k ∧ k < w.heap.size := World.ownsRow.lt h
/-- What the first loop keeps. -/
structure SM (B : Nat) (w0 w : World) (v : Value) (xs : List ByteArray) (n : Nat) (c : Lit → Int) : Prop where
  be : Below w0.heap.size w0 w
  ot : OT (B + 1 + 1) w v xs
  cm : CM 9 w B n c
  ce : w.cell? ⟨B + 1, 0, none⟩ = some (.map (some B))
  lt : B + 1 < w.heap.size
  hB : w0.heap.size ≤ B
theorem SM.below {B n : Nat} {w0 w w' : World} {v : Value} {xs : List ByteArray} {c : Lit → Int} (h : SM B w0 w v xs n c) (hb : Below w.heap.size w w') : SM B w0 w' v xs n c :=
  ⟨bel_step0 hb h.be, h.ot.below hb, h.cm.below hb, (hb.cell (p := ⟨B + 1, 0, none⟩) h.lt).trans h.ce, Nat.lt_of_lt_of_le h.lt hb.size, h.hB⟩
theorem SM.alloc {B n : Nat} {w0 w : World} {v : Value} {xs : List ByteArray} {c : Lit → Int} (h : SM B w0 w v xs n c) (o : Obj) : SM B w0 (w.alloc o) v xs n c := h.below ((Below.refl _ _).alloc (Nat.le_refl _) o)
theorem SM.app {B n : Nat} {w0 w w' : World} {v v' : Value} {xs ys : List ByteArray} {c : Lit → Int} (h : SM B w0 w v xs n c) (ho : OT (B + 1 + 1) w' v' ys) (hb : Below (B + 1 + 1) w w') : SM B w0 w' v' ys n c :=
  ⟨h.be.trans (hb.mono (by have := h.hB; omega)), ho, h.cm.of_block (hb.block B (by omega)), (hb.cell (p := ⟨B + 1, 0, none⟩) (by simp)).trans h.ce, Nat.lt_of_lt_of_le h.lt hb.size, h.hB⟩
theorem SM.put {B n : Nat} {w0 w w' : World} {v : Value} {xs : List ByteArray} {c d : Lit → Int} (h : SM B w0 w v xs n c) (hc : CM 9 w' B (n + 1) d) (hg : w.grownBy w' (some B)) : SM B w0 w' v xs (n + 1) d :=
  ⟨bel_grown hg h.hB h.be.size h.be, h.ot.of_block fun g hq => hg.block g (h.ot.lt g hq).2 (by have := (h.ot.lt g hq).1; intro e; injection e with e; omega), hc,
    (World.cell?_of_block (w := w) (a := ⟨B + 1, 0, none⟩) (hg.block (B + 1) h.lt (by intro e; injection e with e; omega))).trans h.ce, Nat.lt_of_lt_of_le h.lt hg.size, h.hB⟩
theorem wp_appG (w : World) {ops : Array Oper} {rest : List Oper} {o : Oper} {a : Act} {Q : Exit → Act → World → Prop} (hgd : o.guard = none) (s x : Operand)
    (ho : o.op = .call { callee := .builtin .append, args := #[s, x], argTypes := #[52, 52] })
    (base : Nat) (v : Value) (xs : List ByteArray) (hs : a.eval s = v) (hown : OT base w v xs) (g : Nat) (y : ByteArray) (hx : a.eval x = .slice (some ⟨g, 0, none⟩) 1 1) (hc : w.cell? ⟨g, 0, none⟩ = some (.string y))
    (hlen : xs.length ≤ 1099511627776) (hbase : base ≤ w.heap.size)
    (h : ∀ v' w', OT base w' v' (xs ++ [y]) → w.grownBy w' v.ownBlock → wpList Tryz.prog ops Q rest (a.put o.dst v') w') : wpList Tryz.prog ops Q (o :: rest) a w := by
  obtain ⟨i0, hi, hz0, hz1, hz2⟩ := info_parts info_string
  refine wpList_append_own w hgd s x 52 ho base 9 i0 (.string ByteArray.empty) 1 16 Tryz.underlying52 hi hz0 hz1 hz2 rfl (by omega) v xs.length (xs.map Value.string) hs hown ⟨g, 0, none⟩ 1 1 [.string y] hx rfl
    (fun j u hu => ?_) (fun u hu => ?_) (by unfold maxLen; omega) (by omega) hbase (fun v' w' h1 h2 h3 => h v' w' ?_ h2)
  · match j, hu with
    | 0, hu => simp only [List.getElem?_cons_zero, Option.some.injEq] at hu; subst hu; simpa [Addr.add] using hc
    | j + 1, hu => simp at hu
  · simp only [List.mem_singleton] at hu; subst hu; rfl
  · unfold OT; simpa using h1
theorem SM.appG {B n : Nat} {w0 w w' : World} {v v' : Value} {xs ys : List ByteArray} {c : Lit → Int} (h : SM B w0 w v xs n c) (ho : OT (B + 1 + 1) w' v' ys) (hg : w.grownBy w' v.ownBlock) : SM B w0 w' v' ys n c :=
  h.app ho ((Below.refl (B + 1 + 1) w).grown hg (by have := h.lt; omega) (fun k hk => (h.ot.lt k hk).1))
/-- A struct of a look that was just laid, behind an append. -/
theorem lk_kept {wr w' : World} {cs : Array Value} {T : TypeId} {o : Obj} {row : Option Nat} (hg : ((wr.alloc (.cells cs T)).alloc o).grownBy w' row) (hl : ∀ q, row = some q → q < wr.heap.size) (i : Nat) (u : Value) (hu : cs[i]? = some u) :
    w'.cell? ⟨wr.heap.size, i, none⟩ = some u := by
  have h1 : wr.heap.size < (wr.alloc (.cells cs T)).heap.size := by simp
  have h2 : wr.heap.size < ((wr.alloc (.cells cs T)).alloc o).heap.size := by simp
  refine (World.cell?_of_block (w := (wr.alloc (.cells cs T)).alloc o) (a := ⟨wr.heap.size, i, none⟩) (hg.block wr.heap.size h2 (fun e => by have := hl _ e.symm; omega))).trans ?_
  exact (World.cell?_alloc_lt _ _ _ h1).trans (cell_new wr cs T i u hu)
theorem key_lit (s : ByteArray) : WideAt.IsKeyLit (kS s) := trivial
end Go.Proofs.YtmhelhjjadoiaaaGreatDoor

/- The order of reasons. No condition but those stated. -/
namespace Go.Proofs.YtmhelhjjadoiaaaGreatDoor
set_option linter.unusedVariables false
set_option linter.unusedSimpArgs false
open Go.RowKit Go.Sort Go.Lib
/-- A text that may be a key. -/
structure Wd where
  s : ByteArray
  le : s.size ≤ 9223372036854775807
instance : Inhabited Wd := ⟨⟨ByteArray.empty, by decide⟩⟩
def encW (x : Wd) : Value := .string x.1
def cfW (c : Lit → Int) (x y : Wd) : Int := cmpR c x.1 y.1
theorem cmpR_neg (c : Lit → Int) (a b : ByteArray) : cmpR c a b < 0 ↔ c (kS b) < c (kS a) ∨ (c (kS b) = c (kS a) ∧ a.toList < b.toList) := by
  unfold cmpR orI cmpI cmpS
  rw [bytesLess_eq]
  by_cases h1 : c (kS b) < c (kS a)
  · simp [h1]
  · by_cases h2 : c (kS a) < c (kS b)
    · have h3 : ¬ c (kS b) = c (kS a) := by omega
      simp [h1, h2, h3]
    · have h3 : c (kS b) = c (kS a) := by omega
      simp only [h1, h2, h3, if_false, if_true, true_and, false_or]
      by_cases h4 : a.toList < b.toList
      · simp [h4]
      · by_cases h5 : a.toList = b.toList
        · have hi : ¬ b.toList < b.toList := List.lt_irrefl _
          simp [h5, hi]
        · simp [h4, h5]
theorem lt_cfW (c : Lit → Int) (x y : Wd) : (ltOf (cfW c) x y = true) ↔ c (kS y.1) < c (kS x.1) ∨ (c (kS y.1) = c (kS x.1) ∧ x.1.toList < y.1.toList) := by
  rw [← cmpR_neg]
  unfold ltOf cfW
  exact decide_eq_true_iff
theorem swoW (c : Lit → Int) : SWO (ltOf (cfW c)) where
  irrefl x := by
    rw [Bool.eq_false_iff]
    intro h
    rcases (lt_cfW c x x).1 h with h | ⟨_, h⟩
    · omega
    · exact List.lt_irrefl _ h
  trans x y z h1 h2 := by
    rw [lt_cfW] at *
    rcases h1 with h1 | ⟨e1, h1⟩ <;> rcases h2 with h2 | ⟨e2, h2⟩
    · left; omega
    · left; omega
    · left; omega
    · right; exact ⟨by omega, List.lt_trans h1 h2⟩
  ntrans x y z h1 h2 := by
    rw [Bool.eq_false_iff] at *
    intro h
    rw [Ne, lt_cfW] at h1 h2
    rw [lt_cfW] at h
    rcases h with h | ⟨e, h⟩
    · by_cases h3 : c (kS y.1) < c (kS x.1)
      · exact h1 (.inl h3)
      · exact h2 (.inl (by omega))
    · by_cases h3 : c (kS y.1) < c (kS x.1)
      · exact h1 (.inl h3)
      · by_cases h4 : c (kS z.1) < c (kS y.1)
        · exact h2 (.inl h4)
        · have a1 : ¬ x.1.toList < y.1.toList := fun hh => h1 (.inr ⟨by omega, hh⟩)
          have a2 : ¬ y.1.toList < z.1.toList := fun hh => h2 (.inr ⟨by omega, hh⟩)
          exact absurd h (List.not_lt.2 (List.le_trans (List.not_lt.1 a2) (List.not_lt.1 a1)))
end Go.Proofs.YtmhelhjjadoiaaaGreatDoor

/- The sort of the reasons. No condition but those stated. -/
namespace Go.Proofs.YtmhelhjjadoiaaaGreatDoor
set_option linter.unusedVariables false
set_option linter.unusedSimpArgs false
open Go.RowKit Go.Sort Go.Lib
theorem alloc_grow (w : World) (o : Obj) : w.alloc o = grow (w.drewN 0) #[o] := by
  unfold World.alloc grow World.drewN
  simp
def sortW (c : Lit → Int) (ws : List Wd) : List Wd := ws.mergeSort fun x y => !(ltOf (cfW c)) y x
theorem wd_inj {x y : Wd} (h : x.1.toList = y.1.toList) : x = y := by
  have h2 : x.1.data.toList = y.1.data.toList := by rw [← Lib.toList_data, ← Lib.toList_data]; exact h
  have h3 := Go.WideShapes.bytes_inj h2
  cases x; cases y; simp only at h3; subst h3; rfl
/-- A count tells its word, where the words are told apart. -/
theorem cfW_tot (c : Lit → Int) (x y : Wd) (h1 : (ltOf (cfW c)) x y = false) (h2 : (ltOf (cfW c)) y x = false) : x = y := by
  rw [Bool.eq_false_iff, Ne, lt_cfW] at h1 h2
  have e : c (kS y.1) = c (kS x.1) := by
    by_cases a : c (kS y.1) < c (kS x.1)
    · exact absurd (.inl a) h1
    · by_cases b : c (kS x.1) < c (kS y.1)
      · exact absurd (.inl b) h2
      · omega
  have a1 : ¬ x.1.toList < y.1.toList := fun h => h1 (.inr ⟨e, h⟩)
  have a2 : ¬ y.1.toList < x.1.toList := fun h => h2 (.inr ⟨e.symm, h⟩)
  exact wd_inj (List.le_antisymm (List.not_lt.1 a2) (List.not_lt.1 a1))
theorem map_enc (ws : List Wd) : ws.map encW = (ws.map Wd.s).map Value.string := by rw [List.map_map]; rfl
theorem C_SortW (B n : Nat) (c : Lit → Int) (v : Value) (ws : List Wd) (w0 w : World) (h : SM B w0 w v (ws.map Wd.s) n c) (hn : ws.length ≤ 1048576) :
    Calls Tryz.prog 68 #[v, .func (.func 69) #[] #[.pointer (some ⟨B + 1, 0, none⟩)]] w fun e w' => e = .returned (.tuple #[]) ∧ SM B w0 w' v ((sortW c ws).map Wd.s) n c := by
  have hot : w.ownsRow (B + 1 + 1) 9 1 v ws.length (ws.map encW) := by have := h.ot; unfold OT at this; rwa [List.length_map, ← map_enc] at this
  by_cases hv : v = .slice none 0 0
  · subst hv
    have h0 : ws = [] := by
      rcases hot.2 with ⟨_, h0⟩ | ⟨g, cap, cur, e, _⟩
      · simpa using h0
      · injection e with e1 _ _; cases e1
    subst h0
    exact (show Calls Tryz.prog 68 #[.slice none 0 0, .func (.func 69) #[] #[.pointer (some ⟨B + 1, 0, none⟩)]] w fun e w' => e = .returned (.tuple #[]) ∧ w' = w from
      AnyF.slices_SortFunc_none { Tryz.laysSF with } none 0 _ w).mono fun e w' ⟨h1, h2⟩ => ⟨h1, by rw [h2]; simpa [sortW] using h⟩
  · obtain ⟨g, cap, rfl, hbg, hg, hnc, hcm, hl, hH⟩ := holds_of_ownsRow hot hv
    have hbw : ∀ (m : Nat) (os : Array Obj) (dk : Array Wd), Below (B + 1 + 1) w (sortWorld encW w g 0 m dk os) := fun m os dk => by
      unfold sortWorld
      exact (below_putRow (Below.refl _ _) hbg).trans ((below_grow0 _ _).mono (by rw [size_putRow]; exact h.lt))
    have hcmp : CmpLays1 Tryz.prog 69 #[.pointer (some ⟨B + 1, 0, none⟩)] encW (cfW c) g 0 ws.toArray.size w := fun m os dk _ x y =>
      (C_Same1 x.1 y.1 (B + 1) B n c _ x.2 y.2 (((hbw m os dk).cell (p := ⟨B + 1, 0, none⟩) (by simp)).trans h.ce) (h.cm.of_block ((hbw m os dk).block B (by omega)))).mono fun e w' ⟨h1, o, h2⟩ => ⟨h1, 0, #[o], by rw [h2]; exact alloc_grow _ _⟩
    have eg : ∀ args w, (callFunc 69 args).run Tryz.prog w = .ok (.enter 69 args) w := enters_of Tryz.func69 (by kernel_rfl) rfl
    have hsz : ws.toArray.size < 4611686018427387904 := by simp; omega
    have hcon := Any.slices_SortFunc_total Tryz.laysSF encW (fun _ => rfl) (cfW c) (swoW c) 69 #[.pointer (some ⟨B + 1, 0, none⟩)] g 0 cap ws.toArray w eg hcmp hH hg hsz (fun x y => cfW_tot c x y)
    change Calls Tryz.prog 68 _ _ _ at hcon
    refine Calls.mono hcon fun e w' ⟨h1, q, os, h2⟩ => ⟨h1, ?_⟩
    have hlen : (sortW c ws).length = ws.length := List.length_mergeSort _
    have hb := hbw q os (sortW c ws).toArray
    rw [h2]
    refine ⟨h.be.trans (hb.mono (by have := h.hB; omega)), ?_, h.cm.of_block (hb.block B (by omega)), (hb.cell (p := ⟨B + 1, 0, none⟩) (by simp)).trans h.ce, Nat.lt_of_lt_of_le h.lt hb.size, h.hB⟩
    have := ownsRow_putRow (q := q) (k := ws.length) (ys := sortW c ws) hot hlen (Nat.le_refl _)
    rw [List.take_of_length_le (by rw [hlen]; exact Nat.le_refl _)] at this
    unfold sortWorld
    refine OT.below (below_grow0 _ _) ?_
    unfold OT
    rw [List.length_map, hlen, ← map_enc]
    exact this
end Go.Proofs.YtmhelhjjadoiaaaGreatDoor

/- The program's SameReason. No condition but those stated. -/
namespace Go.Proofs.YtmhelhjjadoiaaaGreatDoor
set_option linter.unusedVariables false
set_option linter.unusedSimpArgs false
open Go.RowKit Go.Sort Go.WideMaps Go.Maps
theorem lst_succ (n : Nat) (f : Nat → Int) : lst (n + 1) f = lst n f ++ [f n] := by unfold lst; rw [List.range_succ, List.map_append]; rfl
theorem own_mono {base base' : Nat} {w : World} {e : TypeId} {size : Nat} {v : Value} {n : Nat} {xs : List Value} (hb : base' ≤ base) (h : w.ownsRow base e size v n xs) : w.ownsRow base' e size v n xs := by
  refine ⟨h.1, ?_⟩
  rcases h.2 with h0 | ⟨g, cap, cur, e, h1, h2⟩
  · exact .inl h0
  · exact .inr ⟨g, cap, cur, e, by omega, h2⟩
theorem lst_atT (xs : List ByteArray) (f : ByteArray → Int) : lst xs.length (fun q => f (atT xs q)) = xs.map f := by
  unfold lst
  apply List.ext_getElem
  · simp
  · intro j h1 h2
    rw [List.getElem_map, List.getElem_range, List.getElem_map]
    have hj : j < xs.length := by simpa using h2
    have := atT_lt hj
    rw [List.getElem?_eq_getElem hj] at this
    injection this with this
    rw [this]
theorem words_of {xs : List ByteArray} (h : ∀ x ∈ xs, x.size ≤ 9223372036854775807) : ∃ ws : List Wd, ws.map Wd.s = xs := by
  induction xs with
  | nil => exact ⟨[], rfl⟩
  | cons x xs ih =>
    obtain ⟨ws, e⟩ := ih fun y hy => h y (List.mem_cons_of_mem _ hy)
    exact ⟨⟨x, h x (List.mem_cons_self ..)⟩ :: ws, by rw [List.map_cons, e]⟩
theorem dL_size {R : Nat → Lk} {n : Nat} (hs : ∀ j, j < n → (R j).why.size ≤ 9223372036854775807) : ∀ k, k ≤ n → ∀ x ∈ dL R k, x.size ≤ 9223372036854775807 := by
  intro k
  induction k with
  | zero => intro _ x hx; cases hx
  | succ k ih =>
    intro hk x hx
    by_cases h : cL R k (kS (R k).why) = 0
    · rw [dL_new h] at hx
      rcases List.mem_append.1 hx with hx | hx
      · exact ih (by omega) x hx
      · rw [List.mem_singleton.1 hx]; exact hs k (by omega)
    · rw [dL_old h] at hx
      exact ih (by omega) x hx
set_option maxRecDepth 100000 in
set_option maxHeartbeats 2000000 in
theorem C_SameReasonI (v : Value) (n : Nat) (R : Nat → Lk) (w : World) (h : LKs w v n R) (hs : ∀ j, j < n → (R j).why.size ≤ 9223372036854775807) (hd : accB n R = true) :
    Calls Tryz.prog 28 #[v] w fun e w' => ∃ (v1 v2 : Value) (ws : List Wd), e = .returned (.tuple #[v1, v2, .bool true]) ∧ ws.map Wd.s = dL R n ∧ OT w.heap.size w' v1 ((sortW (cL R n) ws).map Wd.s) ∧ OI w.heap.size w' v2 (((sortW (cL R n) ws).map Wd.s).map fun x => cL R n (kS x)) ∧ Below w.heap.size w w' := by
  have HH := Lib.hid h
  have HS := Lib.hid hs
  obtain ⟨A, cap, rfl, hr, hc, hm⟩ := h
  have HR := Lib.hid hr
  have hn15 := accB_le hd
  have HD := Lib.hid hd
  clear hr hs hd
  have hmm := @run_makeMap Tryz.prog
  go_enter Tryz.func28, Tryz.ntmps28
  go_wp2_with fail
  refine (C_IsAccount _ _ _ _ HH.out HS.out).mono ?_; rintro e w1 ⟨rfl, hb1⟩; rw [HD.out]
  have HB1 := Lib.hid hb1
  clear hb1
  obtain ⟨B, hB⟩ : ∃ B, B = w1.heap.size := ⟨_, rfl⟩
  obtain ⟨w2, hw2⟩ : ∃ w2, w2 = (w1.alloc (.map #[] 0)).alloc (.cells #[.map (some B)] 82) := ⟨_, rfl⟩
  have hsm : SM B w w2 (.slice none 0 0) (dL R 0) 0 (cL R 0) := by
    have hz : (w1.alloc (.map #[] 0)).heap.size = B + 1 := by rw [hB]; simp
    refine ⟨?_, OT.nil _ _, ?_, ?_, ?_, by rw [hB]; exact HB1.out.size⟩
    · rw [hw2]; exact bel_alloc0 (bel_alloc0 HB1.out _) _
    · rw [hw2, hB]; exact (CM.made _ w1).below ((Below.refl _ _).alloc (Nat.le_refl _) _)
    · rw [hw2]
      have := cell_new (w1.alloc (.map #[] 0)) #[.map (some B)] 82 0 _ rfl
      rwa [hz] at this
    · rw [hw2, World.size_alloc, hz]; omega
  have HSM := Lib.hid hsm
  have HB := Lib.hid hB.symm
  have HW2 := Lib.hid (show (w1.alloc (.map #[] 0)).alloc (.cells #[.map (some w1.heap.size)] 82) = w2 by rw [hw2, hB])
  clear hsm hw2 hB
  go_upto_region 5 with fail
  rw [HW2.out, HB.out]
  clear HW2 HB hmm
  go_wp2
  go_loopw [6, 18] (fun s i wr => ∃ k : Nat, k ≤ n ∧ i = .int .i64 k ∧ SM B w wr s (dL R k) k (cL R k)) (fun _ i _ => n - (intOf i).toNat)
  case atStart => exact ⟨0, Nat.zero_le _, rfl, HSM.out⟩
  case round =>
    clear HSM
    obtain ⟨k, hk, rfl, hM⟩ := hrel
    have HM := Lib.hid hM
    by_cases hlt : k < n
    · obtain ⟨b, off, rfl, hb, hcell⟩ := (HR.out.below hM.be) (by omega)
      obtain ⟨c0, c1, c2, c3, c4⟩ := hcell k hlt
      obtain ⟨x, hx⟩ : ∃ x, (R k).why = x := ⟨_, rfl⟩
      obtain ⟨cc, hcc⟩ : ∃ cc, cL R k = cc := ⟨_, rfl⟩
      obtain ⟨q, hq⟩ : ∃ q, cc (kS x) = q := ⟨_, rfl⟩
      have hbd := cL_bd R k (kS x)
      rw [hcc, hq] at hbd
      obtain ⟨hq0, hq1⟩ := hbd
      have hkey := key_str (HS.out k hlt)
      rw [hx] at c4 hkey
      rw [hcc] at HM
      have HX := Lib.hid (And.intro hx (And.intro hcc hq))
      have HKEY := Lib.hid hkey
      have hce := hM.ce
      have hzl := hM.lt
      have hzB := hM.hB
      have hxsl := dL_le R k
      have hk0 : (0 : Int) ≤ (k : Int) := by omega
      have hkn : (k : Int) < (n : Int) := by omega
      have HC1 := Lib.hid (fun (o : Obj) => (HM.out.alloc o).cm)
      clear hcell hM hx hcc hkey hq
      have hq2 : I64 (q + 1) := by unfold I64; omega
      have hkm : k < maxLen := by unfold maxLen; omega
      have e1 : cL R (k + 1) = updC cc (kS x) (q + 1) := by
        obtain ⟨hx, hcc, hq⟩ := HX.out
        show updC (cL R k) (kS (R k).why) (cL R k (kS (R k).why) + 1) = _
        rw [hx, hcc, hq]
      have HE1 := Lib.hid e1
      clear e1
      by_cases h0 : q = 0
      · have e2 : dL R (k + 1) = dL R k ++ [x] := by
          obtain ⟨hx, hcc, hq⟩ := HX.out
          rw [dL_new (by rw [hx, hcc, hq]; exact h0), hx]
        have HE2 := Lib.hid e2
        have HQ0 := Lib.hid (HX.out.2.2.trans h0)
        have HXX := HX
        subst h0
        clear e2
        have hln : (dL R k).length ≤ 1099511627776 := by omega
        have hbs : B + 1 + 1 ≤ ((wr.alloc (.cells #[.int .i64 (R k).tick, .int .i64 (R k).who, .int .i64 (R k).rid, .int .i64 (R k).kind, .string x] 37)).alloc (.cells #[.string x] 9)).heap.size := by simp; omega
        have HOT := Lib.hid (SM.ot ((HM.out.alloc (.cells #[.int .i64 (R k).tick, .int .i64 (R k).who, .int .i64 (R k).rid, .int .i64 (R k).kind, .string x] 37)).alloc (.cells #[.string x] 9)))
        have hcx := cell_new (wr.alloc (.cells #[.int .i64 (R k).tick, .int .i64 (R k).who, .int .i64 (R k).rid, .int .i64 (R k).kind, .string x] 37)) #[.string x] 9 0 _ rfl
        rw [World.size_alloc] at hcx
        have HCX := Lib.hid hcx
        clear hcx
        go_wp2_with (first
          | (at_lookup; refine wp_lookC _ rfl (.tmp 22) (.tmp 24) 82 9 rfl lawStr Tryz.underlying82 B _ _ rfl (HC1.out _) _ _ rfl HKEY.out ?_; rw [HXX.out.2.2])
          | (at_builtin; refine wp_appG _ rfl (.tmp 27) (.tmp 30) rfl (B + 1 + 1) _ _ rfl HOT.out _ x rfl HCX.out hln hbs ?_; intro v1 w3 ho3 hg3; have HM3 := Lib.hid (SM.appG ((HM.out.alloc _).alloc _) ho3 hg3); have hk4 := lk_kept hg3 (fun q hq => (HM.out.ot.lt q hq).2) 4 (.string x) rfl; have hce3 := HM3.out.ce; clear ho3 hg3)
          | (at_lookup; refine wp_lookC _ rfl (.tmp 32) (.tmp 34) 82 9 rfl lawStr Tryz.underlying82 B _ _ rfl HM3.out.cm _ _ rfl HKEY.out ?_; rw [HXX.out.2.2])
          | (at_mapUpdate; refine wp_putC _ rfl (.tmp 32) (.tmp 34) (.tmp 36) 82 9 rfl lawStr Tryz.underlying82 B _ _ rfl HM3.out.cm hkm _ _ (0 + 1) rfl (by first | rfl | simp) HKEY.out (key_lit _) hq2 ?_; intro w4 hc4 hg4; have HM4 := Lib.hid (SM.put HM3.out hc4 hg4); clear hc4 hg4))
        go_roundw
        case rel => exact ⟨k + 1, by omega, by go_num, by rw [HE1.out, HE2.out]; exact HM4.out⟩
        case measure => simp [intOf]; omega
      · have e2 : dL R (k + 1) = dL R k := by
          obtain ⟨hx, hcc, hq⟩ := HX.out
          exact dL_old (by rw [hx, hcc, hq]; exact h0)
        have HE2 := Lib.hid e2
        clear e2
        go_wp2_with (first
          | (at_lookup; refine wp_lookC _ rfl (.tmp 22) (.tmp 24) 82 9 rfl lawStr Tryz.underlying82 B _ _ rfl (HC1.out _) _ _ rfl HKEY.out ?_; rw [HX.out.2.2])
          | (at_lookup; refine wp_lookC _ rfl (.tmp 32) (.tmp 34) 82 9 rfl lawStr Tryz.underlying82 B _ _ rfl (HC1.out _) _ _ rfl HKEY.out ?_; rw [HX.out.2.2])
          | (at_mapUpdate; refine wp_putC _ rfl (.tmp 32) (.tmp 34) (.tmp 36) 82 9 rfl lawStr Tryz.underlying82 B _ _ rfl (HC1.out _) hkm _ _ (q + 1) rfl rfl HKEY.out (key_lit _) hq2 ?_; intro w3 hc3 hg3; have HM3 := Lib.hid (SM.put (HM.out.alloc _) hc3 hg3); clear hc3 hg3))
        go_roundw
        case rel => exact ⟨k + 1, by omega, by go_num, by rw [HE1.out, HE2.out]; exact HM3.out⟩
        case measure => simp [intOf]; omega
    · obtain rfl : k = n := by omega
      obtain ⟨ws, hws⟩ := words_of (dL_size (R := R) (n := k) (fun j hj => HS.out j hj) k (Nat.le_refl _))
      have hwl : ws.length ≤ 1048576 := by have := dL_le R k; rw [← hws, List.length_map] at this; omega
      have HM2 := Lib.hid (show SM B w wr _ (ws.map Wd.s) k (cL R k) by rw [hws]; exact HM.out)
      have HWS := Lib.hid hws
      clear hM hws HM
      go_wp2_with fail
      refine (C_SortW B k _ _ ws _ _ HM2.out hwl).mono ?_; rintro e w5 ⟨rfl, hM5⟩
      obtain ⟨m, hm⟩ : ∃ m, ((sortW (cL R k) ws).map Wd.s).length = m := ⟨_, rfl⟩
      obtain ⟨F, hF⟩ : ∃ F, atT ((sortW (cL R k) ws).map Wd.s) = F := ⟨_, rfl⟩
      have hti := hM5.ot.wt.ti
      rw [hm, hF] at hti
      obtain ⟨SA, sc, rfl, hsr, hsc, hsm⟩ := hti
      have hml : m ≤ k := by
        have h1 : (sortW (cL R k) ws).length = ws.length := List.length_mergeSort _
        have h2 := dL_le R k
        rw [← HWS.out, List.length_map] at h2
        rw [← hm, List.length_map]; omega
      have hfz : ∀ j, j < m → (F j).size ≤ 9223372036854775807 := fun j hj => by
        rw [← hF]
        have hj2 : j < ((sortW (cL R k) ws).map Wd.s).length := by rw [hm]; exact hj
        have hmem : atT ((sortW (cL R k) ws).map Wd.s) j ∈ (sortW (cL R k) ws).map Wd.s := List.mem_of_getElem? (atT_lt hj2)
        obtain ⟨x, _, e⟩ := List.mem_map.1 hmem
        rw [← e]; exact x.le
      have HFZ := Lib.hid hfz
      have HSR := Lib.hid hsr
      have HMF := Lib.hid (And.intro hm hF)
      have HM5 := Lib.hid hM5
      have hw5 := hM5.lt
      obtain ⟨cc, hcc⟩ : ∃ cc, cL R k = cc := ⟨_, rfl⟩
      have hci : ∀ x, I64 (cc x) := fun x => by have := cL_bd R k x; rw [hcc] at this; unfold I64; omega
      have HCI := Lib.hid hci
      have HCC := Lib.hid hcc
      clear hm hF hM5 HM2 hsr hfz hcc hci
      go_wp2
      go_loopw [9, 43] (fun s i wr => ∃ j : Nat, j ≤ m ∧ i = .int .i64 j ∧ OI w5.heap.size wr s (lst j fun q => cc (kS (F q))) ∧ Below w5.heap.size w5 wr) (fun _ i _ => m - (intOf i).toNat)
      case atStart => exact ⟨0, Nat.zero_le _, rfl, OI.nil _ _, Below.refl _ _⟩
      case round =>
        obtain ⟨j, hj, rfl, ho, hB⟩ := hrel
        have HO := Lib.hid ho
        have HB := Lib.hid hB
        by_cases hlt2 : j < m
        · obtain ⟨b, off, rfl, hb, hcell⟩ := (HSR.out.below hB) (by omega)
          have hcj := hcell j hlt2
          have hj0 : (0 : Int) ≤ (j : Int) := by omega
          have hjm : (j : Int) < (m : Int) := by omega
          have hM6 := HM5.out.below hB
          have hce := hM6.ce
          have HCM := Lib.hid (show CM 9 wr B k cc by rw [← HCC.out]; exact hM6.cm)
          have HKEY := Lib.hid (key_str (HFZ.out j hlt2))
          clear hcell hM6 ho
          have hsz5 := hB.size
          go_wp2_with (first
            | (at_lookup; refine wp_lookC _ rfl (.tmp 48) (.tmp 49) 82 9 rfl lawStr Tryz.underlying82 B _ _ rfl HCM.out _ _ rfl HKEY.out ?_)
            | (at_builtin; refine wp_app1 _ rfl (.tmp 47) (.tmp 51) rfl w5.heap.size _ _ rfl (HO.out.alloc _) wr.heap.size (cc (kS (F j))) rfl (by simp) (by rw [lst_length]; omega) (by simp; omega) ?_; intro v1 w6 ho1 hb1; have HO1 := Lib.hid ho1; have HB6 := Lib.hid (show Below w5.heap.size w5 w6 from Below.trans (by have hB := HB.out; (repeat (first | with_reducible exact Below.refl _ _ | with_reducible exact below_regrown _ _ _ | with_reducible refine bel_step0 (by assumption) ?_ | with_reducible refine bel_alloc0 ?_ _ | with_reducible refine bel_regrown0 ?_ _ _ | with_reducible refine bel_regrown ?_ (by first | omega | (simp; done) | (simp; omega)) _ _ | with_reducible refine below_drewN ?_ _ | with_reducible refine Below.drew ?_ | with_reducible refine Below.alloc ?_ (by first | omega | (simp; done) | (simp; omega)) _ | with_reducible refine Below.setCell ?_ (by first | omega | (simp; done) | (simp; omega)) _ | with_reducible refine bel_step (by assumption) (by first | omega | (simp; done) | (simp; omega)) ?_ | with_reducible refine bel_grown (by assumption) (by first | omega | (simp; done) | (simp; omega)) (by first | omega | (simp; done) | (simp; omega)) ?_))) hb1); clear ho1 hb1))
          go_roundw
          case rel => exact ⟨j + 1, by omega, by go_num, by rw [lst_succ]; exact HO1.out, HB6.out⟩
          case measure => simp [intOf]; omega
        · obtain rfl : j = m := by omega
          have hB := HB.out
          go_wp2
          go_ret3
          refine ⟨_, _, ws, rfl, HWS.out, ?_, ?_, bel_step0 hB HM5.out.be⟩
          · have := (HM5.out.below hB).ot
            exact own_mono (by have := HM5.out.hB; omega) this
          · obtain ⟨e1, e2⟩ := HMF.out
            have h1 := HO.out
            rw [← HCC.out] at h1
            have h2 : lst j (fun q => cL R k (kS (F q))) = ((sortW (cL R k) ws).map Wd.s).map (fun x => cL R k (kS x)) := by
              rw [← e2, ← e1]
              exact lst_atT ((sortW (cL R k) ws).map Wd.s) (fun x => cL R k (kS x))
            rw [h2] at h1
            exact own_mono (by have := HM5.out.be.size; omega) h1
end Go.Proofs.YtmhelhjjadoiaaaGreatDoor

/- Appending texts in a drawn region. No condition but those stated. -/
namespace Go.Proofs.YtmhelhjjadoiaaaGreatDoor
set_option linter.unusedVariables false
set_option linter.unusedSimpArgs false
open Go.RowKit Go.Sort
theorem TI.cut {w : World} {A : Option Addr} {n cap k : Nat} {f : Nat → ByteArray} (h : TI w (.slice A n cap) n f) (hk : k ≤ n) : TI w (.slice A k cap) k f := by
  obtain ⟨A', cap', e, hr, hc, hm⟩ := h
  cases e
  refine ⟨A, cap, rfl, fun h0 => ?_, by omega, hm⟩
  obtain ⟨b, off, rfl, hl, hcell⟩ := hr (by omega)
  exact ⟨b, off, rfl, hl, fun j hj => hcell j (by omega)⟩
theorem TI.tail {w : World} {b off n cap k : Nat} {f : Nat → ByteArray} (h : TI w (.slice (some ⟨b, off, none⟩) n cap) n f) (hk : k ≤ n) : TI w (.slice (some ⟨b, off + k, none⟩) (n - k) (cap - k)) (n - k) (fun j => f (k + j)) := by
  obtain ⟨A', cap', e, hr, hc, hm⟩ := h
  cases e
  refine ⟨_, _, rfl, fun h0 => ?_, by omega, by omega⟩
  obtain ⟨b', off', e, hl, hcell⟩ := hr (by omega)
  cases e
  exact ⟨b, off + k, rfl, hl, fun j hj => by rw [Nat.add_assoc]; exact hcell (k + j) (by omega)⟩
theorem TI.tailIf {w : World} {b off n cap k : Nat} {f : Nat → ByteArray} (h : TI w (.slice (some ⟨b, off, none⟩) n cap) n f) (hk : k ≤ n) : TI w (.slice (if cap = k then some ⟨b, off, none⟩ else some ⟨b, off + k, none⟩) (n - k) (cap - k)) (n - k) (fun j => f (k + j)) := by
  by_cases e : cap = k
  · rw [if_pos e]
    have hc := h
    obtain ⟨A', cap', e', _, hc1, hc2⟩ := hc
    cases e'
    exact ⟨_, _, rfl, fun h0 => absurd h0 (by omega), by omega, by omega⟩
  · rw [if_neg e]; exact h.tail hk
theorem lstT_take (l : List ByteArray) (k : Nat) (hk : k ≤ l.length) : lstT k (atT l) = l.take k := by
  show (List.range k).map (atT l) = l.take k
  apply List.ext_getElem
  · rw [List.length_map, List.length_range, List.length_take]; omega
  · intro j h1 h2
    rw [List.getElem_map, List.getElem_range, List.getElem_take]
    have hj : j < l.length := by simp at h1; omega
    have := atT_lt hj
    rw [List.getElem?_eq_getElem hj] at this
    injection this with this
    exact this.symm
theorem lstT_drop (l : List ByteArray) (k : Nat) (hk : k ≤ l.length) : lstT (l.length - k) (fun j => atT l (k + j)) = l.drop k := by
  show (List.range (l.length - k)).map (fun j => atT l (k + j)) = l.drop k
  apply List.ext_getElem
  · rw [List.length_map, List.length_range, List.length_drop]
  · intro j h1 h2
    rw [List.getElem_map, List.getElem_range, List.getElem_drop]
    have hj : k + j < l.length := by simp at h1; omega
    have := atT_lt hj
    rw [List.getElem?_eq_getElem hj] at this
    injection this with this
    exact this.symm
theorem step_appT (w : World) {ops : Array Oper} {o : Oper} {a : Act} {K : Act → World → Prop} {Q : Exit → Act → World → Prop} {E : Prop} (hgd : o.guard = none) (s x : Operand)
    (ho : o.op = .call { callee := .builtin .append, args := #[s, x], argTypes := #[52, 52] })
    (wb : World) (v : Value) (xs : List ByteArray) (hs : a.eval s = v) (hown : OT wb.heap.size w v xs) (hb : Below wb.heap.size wb w) (A : Option Addr) (m c : Nat) (f : Nat → ByteArray) (hx : a.eval x = .slice A m c) (hr : TI w (.slice A m c) m f)
    (hlen : xs.length + m ≤ 1099511627776)
    (h : ∀ v' w', OT wb.heap.size w' v' (xs ++ lstT m f) → Below wb.heap.size wb w' → (∀ q, q < w.heap.size → v.ownBlock ≠ some q → w'.heap[q]? = w.heap[q]?) → w.heap.size ≤ w'.heap.size → K (a.put o.dst v') w') : if Region.wanted o (yielded ops a.tmps) = true then Oper.wp Tryz.prog o a w K Q else E := by
  obtain ⟨i0, hi, hz0, hz1, hz2⟩ := info_parts info_string
  have hbase := hb.size
  refine step_append_any w hgd s x 52 ho wb.heap.size 9 i0 (.string ByteArray.empty) 1 16 Tryz.underlying52 hi hz0 hz1 hz2 rfl (by omega) v xs.length (xs.map (Value.string)) hs hown w.heap.size A m c _ hx hr.reads
    (fun u hu => ?_) (by unfold maxLen; omega) (by omega) hbase (fun v' w' h1 h2 _ => h v' w' ?_ ?_ (fun q hq hn => h2.block q hq (fun e => hn e.symm)) h2.size)
  · obtain ⟨y, _, rfl⟩ := List.mem_map.1 hu; rfl
  · unfold OT; rw [List.length_append, lstT_length, List.map_append]; exact h1
  · exact hb.trans ((Below.refl _ w).grown h2 hbase (fun k hk => (World.ownsRow.lt hown k hk).1))
theorem OT.emptyAt {base : Nat} {W : World} {g : Nat} (hg : g = W.heap.size) (hb : base ≤ g) : OT base (W.alloc (.cells #[] 9)) (.slice (some ⟨g, 0, none⟩) 0 0) [] := by
  subst hg; exact OT.empty hb
theorem ti_cell {w : World} {g : Nat} {x : ByteArray} (hg : g < w.heap.size) (h : w.cell? ⟨g, 0, none⟩ = some (.string x)) : TI w (.slice (some ⟨g, 0, none⟩) 1 1) 1 (fun _ => x) :=
  ⟨_, _, rfl, fun _ => ⟨g, 0, rfl, hg, fun j hj => by obtain rfl : j = 0 := (by omega); exact h⟩, Nat.le_refl _, by omega⟩
theorem ti_lit (W : World) (x : ByteArray) (T : TypeId) : TI (W.alloc (.cells #[.string x] T)) (.slice (some ⟨W.heap.size, 0, none⟩) 1 1) 1 (fun _ => x) :=
  ti_cell (by simp) (cell_new _ _ _ _ _ rfl)
theorem litT_kept1 {w w2 : World} {T T' : TypeId} {x : ByteArray} (hq : ∀ q, q < ((w.alloc (.cells #[] T)).alloc (.cells #[.string x] T')).heap.size → (Value.slice (some ⟨w.heap.size, 0, none⟩) 0 0).ownBlock ≠ some q → w2.heap[q]? = ((w.alloc (.cells #[] T)).alloc (.cells #[.string x] T')).heap[q]?)
    (hs : ((w.alloc (.cells #[] T)).alloc (.cells #[.string x] T')).heap.size ≤ w2.heap.size) : TI w2 (.slice (some ⟨w.heap.size + 1, 0, none⟩) 1 1) 1 (fun _ => x) := by
  simp only [World.size_alloc] at hs
  refine ti_cell (by omega) ((World.cell?_of_block (a := ⟨w.heap.size + 1, 0, none⟩) (hq (w.heap.size + 1) (by simp) (by simp [Value.ownBlock]))).trans ?_)
  have := cell_new (w.alloc (.cells #[] T)) #[.string x] T' 0 _ rfl
  rw [World.size_alloc] at this
  exact this
theorem litT_kept0 {w w2 : World} {T T' : TypeId} {x : ByteArray} (hq : ∀ q, q < ((w.alloc (.cells #[.string x] T')).alloc (.cells #[] T)).heap.size → (Value.slice (some ⟨w.heap.size + 1, 0, none⟩) 0 0).ownBlock ≠ some q → w2.heap[q]? = ((w.alloc (.cells #[.string x] T')).alloc (.cells #[] T)).heap[q]?)
    (hs : ((w.alloc (.cells #[.string x] T')).alloc (.cells #[] T)).heap.size ≤ w2.heap.size) : TI w2 (.slice (some ⟨w.heap.size, 0, none⟩) 1 1) 1 (fun _ => x) := by
  simp only [World.size_alloc] at hs
  exact ti_cell (by omega) ((World.cell?_of_block (a := ⟨w.heap.size, 0, none⟩) (hq w.heap.size (by simp) (by simp [Value.ownBlock]))).trans (cell_old _ (by simp) (cell_new _ _ _ _ _ rfl)))
end Go.Proofs.YtmhelhjjadoiaaaGreatDoor

/- The reference's order of reasons, in plain Lean. No condition but those stated. -/
namespace Go.Proofs.YtmhelhjjadoiaaaGreatDoor
set_option linter.unusedVariables false
set_option linter.unusedSimpArgs false
open Go.RowKit Go.Sort Go.Lib
theorem kS_iff (a b : ByteArray) : (a.toList == b.toList) = true ↔ kS a = kS b := by
  rw [beq_iff_eq]
  unfold kS
  rw [Lib.toList_data, Lib.toList_data]
  constructor
  · intro h; rw [h]
  · intro h; injection h
theorem cL_cnt (R : Nat → Lk) (s : ByteArray) (k : Nat) : cL R k (kS s) = (cntS R s k : Int) := by
  induction k with
  | zero => rfl
  | succ k ih =>
    cases h : ((R k).why.toList == s.toList)
    · have hne : kS s ≠ kS (R k).why := fun e => by
        rw [(kS_iff _ _).2 e.symm] at h; cases h
      rw [cntS_no h, ← ih]
      exact updC_other hne
    · have e := (kS_iff _ _).1 h
      rw [cntS_yes h]
      show updC (cL R k) (kS (R k).why) (cL R k (kS (R k).why) + 1) (kS s) = _
      rw [← e, updC_same, e, ih]; omega
theorem gtS (a b : ByteArray) : (!(Op.bytesLess a.toList b.toList || (a.toList == b.toList))) = decide (b.toList < a.toList) := by
  rw [bytesLess_eq]
  by_cases h1 : a.toList < b.toList
  · have h2 : ¬ b.toList < a.toList := fun h => List.lt_irrefl _ (List.lt_trans h h1)
    simp [h1, h2]
  · by_cases h2 : a.toList = b.toList
    · have h3 : ¬ b.toList < b.toList := List.lt_irrefl _
      simp [h2, h3]
    · have h3 : b.toList < a.toList := by
        by_cases h4 : b.toList < a.toList
        · exact h4
        · exact absurd (List.le_antisymm (List.not_lt.1 h4) (List.not_lt.1 h1)) h2
      simp [h1, h2, h3]
/-- Whether the reason y comes behind the new reason x. -/
def behind (c : Lit → Int) (x y : ByteArray) : Prop := c (kS y) < c (kS x) ∨ (c (kS y) = c (kS x) ∧ x.toList < y.toList)
/-- The reference's words behind k looks. -/
def SortP (c : Lit → Int) (R : Nat → Lk) (k : Nat) (words : List ByteArray) : Prop :=
  ∃ L ws : List Wd, L.map Wd.s = words ∧ ws.map Wd.s = dL R k ∧ L.Perm ws ∧ L.Pairwise fun a b => ltOf (cfW c) b a = false
theorem SortP.zero (c : Lit → Int) (R : Nat → Lk) : SortP c R 0 [] := ⟨[], [], rfl, rfl, List.Perm.refl _, List.Pairwise.nil⟩
theorem SortP.old {c : Lit → Int} {R : Nat → Lk} {k : Nat} {words : List ByteArray} (h : SortP c R k words) (hc : ¬ cL R k (kS (R k).why) = 0) : SortP c R (k + 1) words := by
  obtain ⟨L, ws, h1, h2, h3⟩ := h
  exact ⟨L, ws, h1, h2.trans (dL_old hc).symm, h3⟩
theorem SortP.length {c : Lit → Int} {R : Nat → Lk} {k : Nat} {words : List ByteArray} (h : SortP c R k words) : words.length ≤ k := by
  obtain ⟨L, ws, h1, h2, h3, _⟩ := h
  have h4 := dL_le R k
  rw [← h2, List.length_map, ← h3.length_eq] at h4
  rw [← h1, List.length_map]; exact h4
theorem sorted_put {lt : Wd → Wd → Bool} (hS : SWO lt) (L : List Wd) (x : Wd) (q : Nat) (hq : q ≤ L.length) (hp : L.Pairwise fun a b => lt b a = false)
    (hhi : ∀ (j : Nat) (hj : j < L.length), q ≤ j → lt x L[j] = true) (hlo : ∀ (hq0 : 0 < q), lt x (L[q - 1]'(by omega)) = false) :
    (L.take q ++ x :: L.drop q).Pairwise fun a b => lt b a = false := by
  have hsp : (L.take q ++ L.drop q).Pairwise fun a b => lt b a = false := by rw [List.take_append_drop]; exact hp
  rw [List.pairwise_append] at hsp ⊢
  obtain ⟨p1, p2, p3⟩ := hsp
  refine ⟨p1, ?_, ?_⟩
  · rw [List.pairwise_cons]
    refine ⟨fun y hy => ?_, p2⟩
    obtain ⟨j, hj, rfl⟩ := List.getElem_of_mem hy
    rw [List.getElem_drop]
    exact hS.asymmA (hhi _ _ (Nat.le_add_right q j))
  · intro a ha b hb
    rcases List.mem_cons.1 hb with rfl | hb
    · obtain ⟨j, hj, rfl⟩ := List.getElem_of_mem ha
      have hjq : j < q := by rw [List.length_take] at hj; omega
      rw [List.getElem_take]
      have h1 := hlo (by omega)
      by_cases e : j = q - 1
      · subst e; exact h1
      · exact hS.ntrans _ _ _ h1 ((List.pairwise_iff_getElem.1 hp) j (q - 1) (by omega) (by omega) (by omega))
    · exact p3 a ha b hb
theorem perm_put (L : List Wd) (x : Wd) (q : Nat) : (L.take q ++ x :: L.drop q).Perm (L ++ [x]) := by
  refine (List.perm_middle).trans ?_
  rw [List.take_append_drop]
  exact (List.perm_append_singleton x L).symm
theorem SortP.put {c : Lit → Int} {R : Nat → Lk} {k q : Nat} {words : List ByteArray} {x : ByteArray} (h : SortP c R k words) (hx : (R k).why = x) (hs : x.size ≤ 9223372036854775807) (hc : cL R k (kS x) = 0) (hq : q ≤ words.length)
    (hhi : ∀ j, q ≤ j → j < words.length → behind c x (atT words j)) (hlo : 0 < q → ¬ behind c x (atT words (q - 1))) : SortP c R (k + 1) (words.take q ++ x :: words.drop q) := by
  obtain ⟨L, ws, rfl, h2, h3, h4⟩ := h
  subst hx
  rw [List.length_map] at hq
  have hat : ∀ (j : Nat) (hj : j < L.length), atT (L.map Wd.s) j = L[j].s := fun j hj => by
    have := atT_lt (xs := L.map Wd.s) (j := j) (by rw [List.length_map]; exact hj)
    rw [List.getElem?_map, List.getElem?_eq_getElem hj] at this
    injection this with this
    exact this.symm
  refine ⟨L.take q ++ ⟨(R k).why, hs⟩ :: L.drop q, ws ++ [⟨(R k).why, hs⟩], ?_, ?_, ?_, ?_⟩
  · rw [List.map_append, List.map_cons, List.map_take, List.map_drop]
  · rw [List.map_append, h2, dL_new hc]; rfl
  · exact (perm_put L _ q).trans (h3.append_right _)
  · refine sorted_put (swoW c) L _ q hq h4 (fun j hj hqj => ?_) (fun hq0 => ?_)
    · rw [lt_cfW]
      have := hhi j hqj (by rw [List.length_map]; exact hj)
      rw [hat j hj] at this
      exact this
    · rw [Bool.eq_false_iff, Ne, lt_cfW]
      have := hlo hq0
      rw [hat (q - 1) (by omega)] at this
      exact this
theorem map_s_inj : ∀ {a b : List Wd}, a.map Wd.s = b.map Wd.s → a = b
  | [], [], _ => rfl
  | [], _ :: _, h => by cases h
  | _ :: _, [], h => by cases h
  | x :: a, y :: b, h => by
    rw [List.map_cons, List.map_cons] at h
    injection h with h1 h2
    rw [map_s_inj h2, wd_inj (x := x) (y := y) (by rw [h1])]
theorem SortP.done {c : Lit → Int} {R : Nat → Lk} {n : Nat} {words : List ByteArray} (h : SortP c R n words) {ws : List Wd} (hw : ws.map Wd.s = dL R n) : words = (sortW c ws).map Wd.s := by
  obtain ⟨L, ws', rfl, h2, h3, h4⟩ := h
  have e := map_s_inj (h2.trans hw.symm)
  subst e
  congr 1
  have hm : (sortW c ws').Pairwise fun a b => ltOf (cfW c) b a = false := by
    have hS := swoW c
    have := List.pairwise_mergeSort (le := fun x y => !(ltOf (cfW c)) y x)
      (fun a b d h1 h2 => by
        simp only [Bool.not_eq_true'] at h1 h2 ⊢
        exact hS.ntrans _ _ _ h2 h1)
      (fun a b => by
        cases h1 : ltOf (cfW c) b a
        · simp
        · have := hS.asymmA h1
          simp [this]) ws'
    exact this.imp fun {a b} h => by simpa using h
  refine List.Perm.eq_of_pairwise (le := fun a b => ltOf (cfW c) b a = false) (fun a b _ _ h1 h2 => cfW_tot c a b h2 h1) h4 hm (h3.trans (List.mergeSort_perm ws' _).symm)
end Go.Proofs.YtmhelhjjadoiaaaGreatDoor

/- The reference's SameReason. No condition but those stated. -/
namespace Go.Proofs.YtmhelhjjadoiaaaGreatDoor
set_option linter.unusedVariables false
set_option linter.unusedSimpArgs false
open Go.RowKit Go.Sort Go.WideMaps Go.Maps
theorem again_succ (R : Nat → Lk) (x : ByteArray) (t : Nat) : (cntS R x (t + 1) != 0) = ((cntS R x t != 0) || ((R t).why.toList == x.toList)) := by
  cases h : ((R t).why.toList == x.toList)
  · rw [cntS_no h]; simp
  · rw [cntS_yes h]; simp
/-- What the reference's loop keeps. -/
structure SR (c : Lit → Int) (R : Nat → Lk) (k : Nat) (w0 w : World) (v1 v2 : Value) (W : List ByteArray) : Prop where
  sp : SortP c R k W
  ot : OT w0.heap.size w v1 W
  oi : OI w0.heap.size w v2 (W.map fun x => c (kS x))
  be : Below w0.heap.size w0 w
theorem SR.old {c : Lit → Int} {R : Nat → Lk} {k : Nat} {w0 w : World} {v1 v2 : Value} {W : List ByteArray} (h : SR c R k w0 w v1 v2 W) (hc : ¬ cL R k (kS (R k).why) = 0) : SR c R (k + 1) w0 w v1 v2 W := ⟨h.sp.old hc, h.ot, h.oi, h.be⟩
theorem SR.begin (c : Lit → Int) (R : Nat → Lk) (w : World) (T T' : TypeId) : True := trivial
set_option maxRecDepth 100000 in
set_option maxHeartbeats 8000000 in
theorem C_SameReasonS (v : Value) (n : Nat) (R : Nat → Lk) (w : World) (h : LKs w v n R) (hs : ∀ j, j < n → (R j).why.size ≤ 9223372036854775807) (hd : accB n R = true) :
    Calls Tryz.prog 29 #[v] w fun e w' => ∃ (v1 v2 : Value) (W : List ByteArray), e = .returned (.tuple #[v1, v2, .bool true]) ∧ SR (cL R n) R n w w' v1 v2 W := by
  have HH := Lib.hid h
  have HS := Lib.hid hs
  have hn15 := accB_le hd
  obtain ⟨A, cap, rfl, hr, hc, hm⟩ := h
  have HR := Lib.hid hr
  obtain ⟨w0, hw0⟩ : ∃ w0, w0 = (w.alloc (.cells #[] 9)).alloc (.cells #[] 3) := ⟨_, rfl⟩
  have hb0 : Below w.heap.size w w0 := by rw [hw0]; (repeat (first | with_reducible exact Below.refl _ _ | with_reducible exact below_regrown _ _ _ | with_reducible refine bel_step0 (by assumption) ?_ | with_reducible refine bel_alloc0 ?_ _ | with_reducible refine bel_regrown0 ?_ _ _ | with_reducible refine bel_regrown ?_ (by first | omega | (simp; done) | (simp; omega)) _ _ | with_reducible refine below_drewN ?_ _ | with_reducible refine Below.drew ?_ | with_reducible refine Below.alloc ?_ (by first | omega | (simp; done) | (simp; omega)) _ | with_reducible refine Below.setCell ?_ (by first | omega | (simp; done) | (simp; omega)) _ | with_reducible refine bel_step (by assumption) (by first | omega | (simp; done) | (simp; omega)) ?_ | with_reducible refine bel_grown (by assumption) (by first | omega | (simp; done) | (simp; omega)) (by first | omega | (simp; done) | (simp; omega)) ?_))
  have HT0 := Lib.hid (show OT w.heap.size w0 (.slice (some ⟨w.heap.size, 0, none⟩) 0 0) [] by rw [hw0]; exact OT.alloc _ (OT.emptyAt rfl (Nat.le_refl _)))
  have HI0 := Lib.hid (show OI w.heap.size w0 (.slice (some ⟨w.heap.size + 1, 0, none⟩) 0 0) [] by rw [hw0]; exact OI.emptyAt (by simp) (by omega))
  have HW0 := Lib.hid hw0
  have HH0 := Lib.hid (HH.out.below hb0)
  have HB0 := Lib.hid hb0
  obtain ⟨c, hcc⟩ : ∃ c, cL R n = c := ⟨_, rfl⟩
  rw [hcc]
  have HCC := Lib.hid hcc
  clear hr hs hw0 hb0 hcc
  go_enter Tryz.func29, Tryz.ntmps29
  go_wp2_with fail
  rw [← HW0.out]
  refine (C_l22Good _ _ _ _ HH0.out HS.out).mono ?_; rintro e w1 ⟨rfl, hb1⟩; rw [hd]
  have HSR := Lib.hid (show SR c R 0 w w1 (.slice (some ⟨w.heap.size, 0, none⟩) 0 0) (.slice (some ⟨w.heap.size + 1, 0, none⟩) 0 0) [] from ⟨SortP.zero c R, HT0.out.below hb1, HI0.out.below hb1, bel_step0 hb1 HB0.out⟩)
  clear hb1 HB0 HT0 HI0 HW0 HH0
  go_wp2_with fail
  go_loopw [5, 6, 7, 8, 9, 10, 11, 12] (fun v1 v2 i _ _ _ _ _ wr => ∃ (k : Nat) (W : List ByteArray), k ≤ n ∧ i = .int .i64 k ∧ SR c R k w wr v1 v2 W) (fun _ _ i _ _ _ _ _ _ => n - (intOf i).toNat)
  case atStart => exact ⟨0, [], Nat.zero_le _, rfl, HSR.out⟩
  case round =>
    clear HSR
    obtain ⟨k, W, hk, rfl, hM⟩ := hrel
    have HM := Lib.hid hM
    by_cases hlt : k < n
    · obtain ⟨b, off, rfl, hb, hcell⟩ := (HR.out.below hM.be) (by omega)
      have c4 := (hcell k hlt).c4
      have HCELL := Lib.hid hcell
      obtain ⟨x, hx⟩ : ∃ x, (R k).why = x := ⟨_, rfl⟩
      rw [hx] at c4
      have HX := Lib.hid hx
      have hki : (k : Int) < (n : Int) := by omega
      have hk0 : (0 : Int) ≤ (k : Int) := by omega
      have hn0 : (n : Int) ≤ 1048576 := by omega
      have HWL := Lib.hid hM.sp.length
      have HSX := Lib.hid (HS.out k hlt)
      rw [hx] at HSX
      clear hcell hM hx
      go_wp2
      go_loop [9, 10] (fun z i => ∃ t : Nat, t ≤ k ∧ i = .int .i64 t ∧ z = .bool (cntS R x t != 0)) (fun _ i => k - (intOf i).toNat)
      case atStart => exact ⟨0, Nat.zero_le _, rfl, rfl⟩
      case round =>
        obtain ⟨t, ht, rfl, hz⟩ := hrel
        by_cases htl : t < k
        · have hck := (HCELL.out t (by omega)).c4
          have hti : (t : Int) < (k : Int) := by omega
          have hnx := again_succ R x t
          obtain ⟨a, ha⟩ : ∃ a, (cntS R x t != 0) = a := ⟨_, rfl⟩
          rw [ha] at hnx hz
          have HNX := Lib.hid hnx
          clear ha hnx
          subst hz
          cases a
          · cases he : ((R t).why.toList == x.toList)
            all_goals
              go_wp2
              go_round
              case rel => exact ⟨t + 1, by omega, by go_num, by rw [HNX.out, he]; rfl⟩
              case measure => simp [intOf]; omega
          · go_wp2
            go_round
            case rel => exact ⟨t + 1, by omega, by go_num, by rw [HNX.out]; rfl⟩
            case measure => simp [intOf]; omega
        · obtain rfl : t = k := by omega
          have HZ0 := Lib.hid (cL_cnt R x t)
          obtain ⟨a, ha⟩ : ∃ a, (cntS R x t != 0) = a := ⟨_, rfl⟩
          rw [ha] at hz
          have HA := Lib.hid ha
          clear ha
          subst hz
          cases a
          · have hnew : cL R t (kS x) = 0 := by have := HA.out; rw [HZ0.out]; simpa using this
            have HNEW := Lib.hid hnew
            obtain ⟨N, hN⟩ : ∃ N, c (kS x) = N := ⟨_, rfl⟩
            have hNc : ((cntS R x n : Nat) : Int) = N := by rw [← cL_cnt, HCC.out, hN]
            have HN := Lib.hid hN
            have HNC := Lib.hid hNc
            obtain ⟨L, hL⟩ : ∃ L, W.length = L := ⟨_, rfl⟩
            have hLt : L ≤ t := by rw [← hL]; exact HWL.out
            obtain ⟨F, hF⟩ : ∃ F, atT W = F := ⟨_, rfl⟩
            obtain ⟨G, hG⟩ : ∃ G, ai (W.map fun x => c (kS x)) = G := ⟨_, rfl⟩
            have h5 := HM.out.ot.wt.ti
            have h6 := HM.out.oi.wi.si
            rw [List.length_map] at h6
            rw [hL, hF] at h5
            rw [hL, hG] at h6
            have H5 := Lib.hid h5
            have H6 := Lib.hid h6
            obtain ⟨A5, cap5, rfl, hr5, hc5, hm5⟩ := h5
            obtain ⟨A6, cap6, rfl, hr6, hc6, hm6⟩ := h6
            have HR5 := Lib.hid hr5
            have HR6 := Lib.hid hr6
            have HHR := Lib.hid (HH.out.below HM.out.be)
            have HLW := Lib.hid hL
            have HF := Lib.hid hF
            have HGE := Lib.hid hG
            have HG := Lib.hid (show ∀ j, j < L → G j = c (kS (F j)) from fun j hj => by
              rw [← hG, ← hF]
              have h1 := ai_lt (xs := W.map fun x => c (kS x)) (j := j) (by rw [List.length_map, hL]; exact hj)
              have h2 := atT_lt (xs := W) (j := j) (by rw [hL]; exact hj)
              rw [List.getElem?_map, h2] at h1
              injection h1 with h1
              exact h1.symm)
            have hL0 : (L : Int) ≤ 1048576 := by omega
            clear hnew hN hNc hL hF hG hr5 hr6
            go_upto_block 4 with (go_at_call 72; refine (C_l22Count _ n R x _ HHR.out (by omega)).mono ?_; rintro e w' ⟨rfl, rfl⟩; rw [HNC.out])
            go_cut [11] (fun s11 wx => wx = wr ∧ ∃ q : Nat, q ≤ L ∧ s11 = .int .i64 q ∧ (∀ j, q ≤ j → j < L → behind c x (F j)) ∧ (0 < q → ¬ behind c x (F (q - 1))))
            case first =>
              go_wp2
              go_loop [11] (fun i => ∃ q : Nat, q ≤ L ∧ i = .int .i64 q ∧ ∀ j, q ≤ j → j < L → behind c x (F j)) (fun i => (intOf i).toNat)
              case atStart => exact ⟨L, Nat.le_refl _, rfl, fun j h1 h2 => absurd h1 (by omega)⟩
              case round =>
                obtain ⟨q, hq, rfl, hbh⟩ := hrel
                have HBH := Lib.hid hbh
                clear hbh
                rcases Nat.eq_zero_or_pos q with hq0 | hq0
                · have hq9 : ¬ (0 : Int) < (q : Int) := by omega
                  have HQ0 := Lib.hid hq0
                  clear hq0
                  go_wp2
                  go_meet
                  exact ⟨rfl, q, hq, rfl, HBH.out, fun h => absurd h (by rw [HQ0.out]; omega)⟩
                · obtain ⟨p, hp⟩ : ∃ p, p = q - 1 := ⟨_, rfl⟩
                  have hpw : IntKind.i64.wrap ((q : Int) - 1) = (p : Int) := by rw [IntKind.wrap_i64]; omega
                  have hq9 : (0 : Int) < (q : Int) := by omega
                  have HPQ := Lib.hid (show q = p + 1 by omega)
                  obtain ⟨b5, off5, rfl, hb5, hcell5⟩ := HR5.out (by omega)
                  obtain ⟨b6, off6, rfl, hb6, hcell6⟩ := HR6.out (by omega)
                  have e5 := hcell5 p (by omega)
                  have e6 := hcell6 p (by omega)
                  have hGp := HG.out p (by omega)
                  obtain ⟨y, hy⟩ : ∃ y, G p = y := ⟨_, rfl⟩
                  obtain ⟨z, hz⟩ : ∃ z, F p = z := ⟨_, rfl⟩
                  rw [hy] at e6 hGp
                  rw [hz] at e5 hGp
                  have HZZ := Lib.hid hz
                  have HGP := Lib.hid (show c (kS z) = y by rw [hGp])
                  have HP := Lib.hid hp
                  have hp2 : (0 : Int) ≤ (p : Int) := by omega
                  have hp1 : (p : Int) < (L : Int) := by omega
                  have HNO := Lib.hid (show ¬ behind c x z → 0 < q → ¬ behind c x (F (q - 1)) from fun h _ => by rw [← HP.out, HZZ.out]; exact h)
                  have HYES := Lib.hid (show behind c x z → ∀ j, p ≤ j → j < L → behind c x (F j) from fun h j h1 h2 => by
                    by_cases e : j = p
                    · rw [e, HZZ.out]; exact h
                    · exact HBH.out j (by have := HPQ.out; omega) h2)
                  clear hcell5 hcell6 hy hz hGp hp hq0
                  by_cases h1 : y < N
                  · go_wp2
                    go_round
                    case rel => exact ⟨p, by have := HPQ.out; omega, by go_num, HYES.out (.inl (by rw [HGP.out, HN.out]; exact h1))⟩
                    case measure => have := HPQ.out; simp [intOf]; omega
                  · by_cases h2 : y = N
                    · have h2b : (y == N) = true := by simp [h2]
                      have HYN := Lib.hid h2
                      have hgt := gtS z x
                      clear h2
                      cases h3 : (!(Op.bytesLess z.toList x.toList || (z.toList == x.toList)))
                      · have HNB := Lib.hid (show ¬ behind c x z by
                          rw [h3] at hgt
                          unfold behind
                          rw [HGP.out, HN.out]
                          rintro (h | ⟨_, h⟩)
                          · exact h1 h
                          · simp [h] at hgt)
                        clear hgt
                        go_wp2
                        all_goals go_meet
                        all_goals exact ⟨rfl, q, hq, rfl, HBH.out, HNO.out HNB.out⟩
                      · have HNB := Lib.hid (show behind c x z by
                          rw [h3] at hgt
                          unfold behind
                          rw [HGP.out, HN.out]
                          exact .inr ⟨HYN.out, of_decide_eq_true hgt.symm⟩)
                        clear hgt
                        go_wp2
                        all_goals go_round
                        case rel => exact ⟨p, by have := HPQ.out; omega, by go_num, HYES.out HNB.out⟩
                        case measure => have := HPQ.out; simp [intOf]; omega
                    · have h2b : (y == N) = false := by simp [h2]
                      have HNB := Lib.hid (show ¬ behind c x z by
                        unfold behind
                        rw [HGP.out, HN.out]
                        rintro (h | ⟨h, _⟩)
                        · exact h1 h
                        · exact h2 h)
                      go_wp2
                      go_meet
                      exact ⟨rfl, q, hq, rfl, HBH.out, HNO.out HNB.out⟩
            case rest =>
              rename World => wx
              obtain ⟨hwx, q, hq, rfl, hbh, hlo⟩ := hcut
              subst wx
              have hq1 : (q : Int) ≤ (L : Int) := by omega
              have hq2 : (0 : Int) ≤ (q : Int) := by omega
              have hq3 : (q : Int) ≤ (cap5 : Int) := by omega
              have hq4 : (q : Int) ≤ (cap6 : Int) := by omega
              have hq5 : (L : Int) ≤ (cap5 : Int) := by omega
              have hq6 : (L : Int) ≤ (cap6 : Int) := by omega
              have HMS := Lib.hid HM.out.be.size
              have HP := Lib.hid (HM.out.sp.put HX.out HSX.out HNEW.out (by rw [HLW.out]; exact hq) (fun j h1 h2 => by rw [HF.out]; exact hbh j h1 (by rw [← HLW.out]; exact h2)) (fun h => by rw [HF.out]; exact hlo h))
              clear hbh hlo
              have HC5 := Lib.hid (H5.out.cut hq)
              have HC6 := Lib.hid (H6.out.cut hq)
              have he5 : [] ++ lstT q F ++ lstT 1 (fun _ => x) ++ lstT (L - q) (fun j => F (q + j)) = W.take q ++ x :: W.drop q := by
                rw [← HF.out, ← HLW.out, lstT_take W q (by rw [HLW.out]; exact hq), lstT_drop W q (by rw [HLW.out]; exact hq)]; simp [lstT]
              have he6 : [] ++ lst q G ++ lst 1 (fun _ => N) ++ lst (L - q) (fun j => G (q + j)) = (W.take q ++ x :: W.drop q).map (fun x => c (kS x)) := by
                have hml : (W.map fun x => c (kS x)).length = L := by rw [List.length_map]; exact HLW.out
                rw [← HGE.out, ← hml, lst_ai _ q (by rw [hml]; exact hq), lst_ai_drop _ q (by rw [hml]; exact hq)]; simp [lst, HN.out, List.map_take, List.map_drop]
              have HE5' := Lib.hid he5
              have HE6' := Lib.hid he6
              clear he5 he6
              have hz5 : ∀ W A c, c ≤ 9223372036854775807 → TI W (.slice A 0 c) 0 (fun _ => x) := fun W A c hc => ⟨A, c, rfl, fun h => absurd h (by omega), by omega, hc⟩
              have hz6 : ∀ W A c, c ≤ 9223372036854775807 → SI W (.slice A 0 c) 0 (fun _ => 0) := fun W A c hc => ⟨A, c, rfl, fun h => absurd h (by omega), by omega, hc⟩
              have HZ5 := Lib.hid hz5
              have HZ6 := Lib.hid hz6
              clear hz5 hz6
              have HNN := Lib.hid (And.intro HM.out.ot HM.out.oi)
              go_upto_region 16 with fail
              go_cut [5] (fun s5 wx => OT wr.heap.size wx s5 (W.take q ++ x :: W.drop q) ∧ Below wr.heap.size wr wx)
              case first =>
                rcases Nat.lt_or_ge q L with hqL | hqL
                · obtain ⟨b5, off5, rfl, hb5, hcell5⟩ := HR5.out (by omega)
                  clear hcell5
                  have HT5 := Lib.hid (H5.out.tail (k := q) hq)
                  have HE5 := HE5'
                  have hq7 : ¬ cap5 = q := by omega
                  clear HE5' HE6'
                  (go_region_held3 (fun W => Below wr.heap.size wr W) (((repeat (first | with_reducible exact Below.refl _ _ | with_reducible exact below_regrown _ _ _ | with_reducible refine bel_step0 (by assumption) ?_ | with_reducible refine bel_alloc0 ?_ _ | with_reducible refine bel_regrown0 ?_ _ _ | with_reducible refine bel_regrown ?_ (by first | omega | (simp; done) | (simp; omega)) _ _ | with_reducible refine below_drewN ?_ _ | with_reducible refine Below.drew ?_ | with_reducible refine Below.alloc ?_ (by first | omega | (simp; done) | (simp; omega)) _ | with_reducible refine Below.setCell ?_ (by first | omega | (simp; done) | (simp; omega)) _ | with_reducible refine bel_step (by assumption) (by first | omega | (simp; done) | (simp; omega)) ?_ | with_reducible refine bel_grown (by assumption) (by first | omega | (simp; done) | (simp; omega)) (by first | omega | (simp; done) | (simp; omega)) ?_)))) (first | ((refine step_appT _ (by rfl) (.tmp 83) (.tmp 86) (by rfl) wr _ _ (by rfl) (by first | exact OT.emptyAt (by simp) (by simp) | exact OT.alloc _ (OT.emptyAt (by simp) (by simp))) (by (repeat (first | with_reducible exact Below.refl _ _ | with_reducible exact below_regrown _ _ _ | with_reducible refine bel_step0 (by assumption) ?_ | with_reducible refine bel_alloc0 ?_ _ | with_reducible refine bel_regrown0 ?_ _ _ | with_reducible refine bel_regrown ?_ (by first | omega | (simp; done) | (simp; omega)) _ _ | with_reducible refine below_drewN ?_ _ | with_reducible refine Below.drew ?_ | with_reducible refine Below.alloc ?_ (by first | omega | (simp; done) | (simp; omega)) _ | with_reducible refine Below.setCell ?_ (by first | omega | (simp; done) | (simp; omega)) _ | with_reducible refine bel_step (by assumption) (by first | omega | (simp; done) | (simp; omega)) ?_ | with_reducible refine bel_grown (by assumption) (by first | omega | (simp; done) | (simp; omega)) (by first | omega | (simp; done) | (simp; omega)) ?_))) _ _ _ _ (by rfl) (HC5.out.below (by (repeat (first | with_reducible exact Below.refl _ _ | with_reducible exact below_regrown _ _ _ | with_reducible refine bel_step0 (by assumption) ?_ | with_reducible refine bel_alloc0 ?_ _ | with_reducible refine bel_regrown0 ?_ _ _ | with_reducible refine bel_regrown ?_ (by first | omega | (simp; done) | (simp; omega)) _ _ | with_reducible refine below_drewN ?_ _ | with_reducible refine Below.drew ?_ | with_reducible refine Below.alloc ?_ (by first | omega | (simp; done) | (simp; omega)) _ | with_reducible refine Below.setCell ?_ (by first | omega | (simp; done) | (simp; omega)) _ | with_reducible refine bel_step (by assumption) (by first | omega | (simp; done) | (simp; omega)) ?_ | with_reducible refine bel_grown (by assumption) (by first | omega | (simp; done) | (simp; omega)) (by first | omega | (simp; done) | (simp; omega)) ?_)))) (by simp <;> omega) ?_; intro v2 w2 ho2 hb2 hq2 hs2; have HQ2 := Lib.hid hq2; have HS2 := Lib.hid hs2; clear hq2 hs2)) | ((refine step_appT _ (by rfl) (.tmp 87) (.tmp 89) (by rfl) wr _ _ (by rfl) (by first | exact ho2 | exact OT.alloc _ ho2) (by (repeat (first | with_reducible exact Below.refl _ _ | with_reducible exact below_regrown _ _ _ | with_reducible refine bel_step0 (by assumption) ?_ | with_reducible refine bel_alloc0 ?_ _ | with_reducible refine bel_regrown0 ?_ _ _ | with_reducible refine bel_regrown ?_ (by first | omega | (simp; done) | (simp; omega)) _ _ | with_reducible refine below_drewN ?_ _ | with_reducible refine Below.drew ?_ | with_reducible refine Below.alloc ?_ (by first | omega | (simp; done) | (simp; omega)) _ | with_reducible refine Below.setCell ?_ (by first | omega | (simp; done) | (simp; omega)) _ | with_reducible refine bel_step (by assumption) (by first | omega | (simp; done) | (simp; omega)) ?_ | with_reducible refine bel_grown (by assumption) (by first | omega | (simp; done) | (simp; omega)) (by first | omega | (simp; done) | (simp; omega)) ?_))) _ _ _ _ (by rfl) (by first | exact ti_lit _ _ _ | exact litT_kept1 HQ2.out HS2.out | exact litT_kept0 HQ2.out HS2.out) (by rw [List.nil_append, lstT_length]; omega) ?_; intro v3 w3 ho3 hb3 hq3 hs3; clear hq3 hs3)) | ((refine step_appT _ (by rfl) (.tmp 90) (.tmp 93) (by rfl) wr _ _ (by rfl) ho3 (by (repeat (first | with_reducible exact Below.refl _ _ | with_reducible exact below_regrown _ _ _ | with_reducible refine bel_step0 (by assumption) ?_ | with_reducible refine bel_alloc0 ?_ _ | with_reducible refine bel_regrown0 ?_ _ _ | with_reducible refine bel_regrown ?_ (by first | omega | (simp; done) | (simp; omega)) _ _ | with_reducible refine below_drewN ?_ _ | with_reducible refine Below.drew ?_ | with_reducible refine Below.alloc ?_ (by first | omega | (simp; done) | (simp; omega)) _ | with_reducible refine Below.setCell ?_ (by first | omega | (simp; done) | (simp; omega)) _ | with_reducible refine bel_step (by assumption) (by first | omega | (simp; done) | (simp; omega)) ?_ | with_reducible refine bel_grown (by assumption) (by first | omega | (simp; done) | (simp; omega)) (by first | omega | (simp; done) | (simp; omega)) ?_))) _ _ _ _ (by rfl) (HT5.out.below (by (repeat (first | with_reducible exact Below.refl _ _ | with_reducible exact below_regrown _ _ _ | with_reducible refine bel_step0 (by assumption) ?_ | with_reducible refine bel_alloc0 ?_ _ | with_reducible refine bel_regrown0 ?_ _ _ | with_reducible refine bel_regrown ?_ (by first | omega | (simp; done) | (simp; omega)) _ _ | with_reducible refine below_drewN ?_ _ | with_reducible refine Below.drew ?_ | with_reducible refine Below.alloc ?_ (by first | omega | (simp; done) | (simp; omega)) _ | with_reducible refine Below.setCell ?_ (by first | omega | (simp; done) | (simp; omega)) _ | with_reducible refine bel_step (by assumption) (by first | omega | (simp; done) | (simp; omega)) ?_ | with_reducible refine bel_grown (by assumption) (by first | omega | (simp; done) | (simp; omega)) (by first | omega | (simp; done) | (simp; omega)) ?_)))) (by rw [List.length_append, List.nil_append, lstT_length, lstT_length]; omega) ?_; intro v4 w4 ho4 hb4 hq4 hs4; clear hq4 hs4))); (all_goals (go_wp2; go_meet; exact ⟨by rw [← HE5.out]; exact ho4, hb4⟩)))
                · obtain rfl : L = q := by omega
                  have HE5 := Lib.hid (show [] ++ lstT L F ++ lstT 1 (fun _ => x) ++ lstT 0 (fun _ => x) = W.take L ++ x :: W.drop L by rw [← HE5'.out]; simp [lstT])
                  clear HE5' HE6'
                  by_cases hcn : cap5 = L
                  · subst hcn
                    (go_region_held3 (fun W => Below wr.heap.size wr W) (((repeat (first | with_reducible exact Below.refl _ _ | with_reducible exact below_regrown _ _ _ | with_reducible refine bel_step0 (by assumption) ?_ | with_reducible refine bel_alloc0 ?_ _ | with_reducible refine bel_regrown0 ?_ _ _ | with_reducible refine bel_regrown ?_ (by first | omega | (simp; done) | (simp; omega)) _ _ | with_reducible refine below_drewN ?_ _ | with_reducible refine Below.drew ?_ | with_reducible refine Below.alloc ?_ (by first | omega | (simp; done) | (simp; omega)) _ | with_reducible refine Below.setCell ?_ (by first | omega | (simp; done) | (simp; omega)) _ | with_reducible refine bel_step (by assumption) (by first | omega | (simp; done) | (simp; omega)) ?_ | with_reducible refine bel_grown (by assumption) (by first | omega | (simp; done) | (simp; omega)) (by first | omega | (simp; done) | (simp; omega)) ?_)))) (first | ((refine step_appT _ (by rfl) (.tmp 83) (.tmp 86) (by rfl) wr _ _ (by rfl) (by first | exact OT.emptyAt (by simp) (by simp) | exact OT.alloc _ (OT.emptyAt (by simp) (by simp))) (by (repeat (first | with_reducible exact Below.refl _ _ | with_reducible exact below_regrown _ _ _ | with_reducible refine bel_step0 (by assumption) ?_ | with_reducible refine bel_alloc0 ?_ _ | with_reducible refine bel_regrown0 ?_ _ _ | with_reducible refine bel_regrown ?_ (by first | omega | (simp; done) | (simp; omega)) _ _ | with_reducible refine below_drewN ?_ _ | with_reducible refine Below.drew ?_ | with_reducible refine Below.alloc ?_ (by first | omega | (simp; done) | (simp; omega)) _ | with_reducible refine Below.setCell ?_ (by first | omega | (simp; done) | (simp; omega)) _ | with_reducible refine bel_step (by assumption) (by first | omega | (simp; done) | (simp; omega)) ?_ | with_reducible refine bel_grown (by assumption) (by first | omega | (simp; done) | (simp; omega)) (by first | omega | (simp; done) | (simp; omega)) ?_))) _ _ _ _ (by rfl) (HC5.out.below (by (repeat (first | with_reducible exact Below.refl _ _ | with_reducible exact below_regrown _ _ _ | with_reducible refine bel_step0 (by assumption) ?_ | with_reducible refine bel_alloc0 ?_ _ | with_reducible refine bel_regrown0 ?_ _ _ | with_reducible refine bel_regrown ?_ (by first | omega | (simp; done) | (simp; omega)) _ _ | with_reducible refine below_drewN ?_ _ | with_reducible refine Below.drew ?_ | with_reducible refine Below.alloc ?_ (by first | omega | (simp; done) | (simp; omega)) _ | with_reducible refine Below.setCell ?_ (by first | omega | (simp; done) | (simp; omega)) _ | with_reducible refine bel_step (by assumption) (by first | omega | (simp; done) | (simp; omega)) ?_ | with_reducible refine bel_grown (by assumption) (by first | omega | (simp; done) | (simp; omega)) (by first | omega | (simp; done) | (simp; omega)) ?_)))) (by simp <;> omega) ?_; intro v2 w2 ho2 hb2 hq2 hs2; have HQ2 := Lib.hid hq2; have HS2 := Lib.hid hs2; clear hq2 hs2)) | ((refine step_appT _ (by rfl) (.tmp 87) (.tmp 89) (by rfl) wr _ _ (by rfl) (by first | exact ho2 | exact OT.alloc _ ho2) (by (repeat (first | with_reducible exact Below.refl _ _ | with_reducible exact below_regrown _ _ _ | with_reducible refine bel_step0 (by assumption) ?_ | with_reducible refine bel_alloc0 ?_ _ | with_reducible refine bel_regrown0 ?_ _ _ | with_reducible refine bel_regrown ?_ (by first | omega | (simp; done) | (simp; omega)) _ _ | with_reducible refine below_drewN ?_ _ | with_reducible refine Below.drew ?_ | with_reducible refine Below.alloc ?_ (by first | omega | (simp; done) | (simp; omega)) _ | with_reducible refine Below.setCell ?_ (by first | omega | (simp; done) | (simp; omega)) _ | with_reducible refine bel_step (by assumption) (by first | omega | (simp; done) | (simp; omega)) ?_ | with_reducible refine bel_grown (by assumption) (by first | omega | (simp; done) | (simp; omega)) (by first | omega | (simp; done) | (simp; omega)) ?_))) _ _ _ _ (by rfl) (by first | exact ti_lit _ _ _ | exact litT_kept1 HQ2.out HS2.out | exact litT_kept0 HQ2.out HS2.out) (by rw [List.nil_append, lstT_length]; omega) ?_; intro v3 w3 ho3 hb3 hq3 hs3; clear hq3 hs3)) | ((refine step_appT _ (by rfl) (.tmp 90) (.tmp 93) (by rfl) wr _ _ (by rfl) ho3 (by (repeat (first | with_reducible exact Below.refl _ _ | with_reducible exact below_regrown _ _ _ | with_reducible refine bel_step0 (by assumption) ?_ | with_reducible refine bel_alloc0 ?_ _ | with_reducible refine bel_regrown0 ?_ _ _ | with_reducible refine bel_regrown ?_ (by first | omega | (simp; done) | (simp; omega)) _ _ | with_reducible refine below_drewN ?_ _ | with_reducible refine Below.drew ?_ | with_reducible refine Below.alloc ?_ (by first | omega | (simp; done) | (simp; omega)) _ | with_reducible refine Below.setCell ?_ (by first | omega | (simp; done) | (simp; omega)) _ | with_reducible refine bel_step (by assumption) (by first | omega | (simp; done) | (simp; omega)) ?_ | with_reducible refine bel_grown (by assumption) (by first | omega | (simp; done) | (simp; omega)) (by first | omega | (simp; done) | (simp; omega)) ?_))) _ _ _ _ (by rfl) (HZ5.out _ _ _ (by omega)) (by rw [List.length_append, List.nil_append, lstT_length, lstT_length]; omega) ?_; intro v4 w4 ho4 hb4 hq4 hs4; clear hq4 hs4))); (all_goals (go_wp2; go_meet; exact ⟨by rw [← HE5.out]; exact ho4, hb4⟩)))
                  · rcases A5 with _ | ⟨b5, off5, spot⟩
                    · exfalso
                      rcases HNN.out.1.2 with ⟨e, h0⟩ | ⟨g, cap', cur, e, _⟩
                      · injection e with _ e1 e2; omega
                      · injection e with e1 _ _; cases e1
                    · (go_region_held3 (fun W => Below wr.heap.size wr W) (((repeat (first | with_reducible exact Below.refl _ _ | with_reducible exact below_regrown _ _ _ | with_reducible refine bel_step0 (by assumption) ?_ | with_reducible refine bel_alloc0 ?_ _ | with_reducible refine bel_regrown0 ?_ _ _ | with_reducible refine bel_regrown ?_ (by first | omega | (simp; done) | (simp; omega)) _ _ | with_reducible refine below_drewN ?_ _ | with_reducible refine Below.drew ?_ | with_reducible refine Below.alloc ?_ (by first | omega | (simp; done) | (simp; omega)) _ | with_reducible refine Below.setCell ?_ (by first | omega | (simp; done) | (simp; omega)) _ | with_reducible refine bel_step (by assumption) (by first | omega | (simp; done) | (simp; omega)) ?_ | with_reducible refine bel_grown (by assumption) (by first | omega | (simp; done) | (simp; omega)) (by first | omega | (simp; done) | (simp; omega)) ?_)))) (first | ((refine step_appT _ (by rfl) (.tmp 83) (.tmp 86) (by rfl) wr _ _ (by rfl) (by first | exact OT.emptyAt (by simp) (by simp) | exact OT.alloc _ (OT.emptyAt (by simp) (by simp))) (by (repeat (first | with_reducible exact Below.refl _ _ | with_reducible exact below_regrown _ _ _ | with_reducible refine bel_step0 (by assumption) ?_ | with_reducible refine bel_alloc0 ?_ _ | with_reducible refine bel_regrown0 ?_ _ _ | with_reducible refine bel_regrown ?_ (by first | omega | (simp; done) | (simp; omega)) _ _ | with_reducible refine below_drewN ?_ _ | with_reducible refine Below.drew ?_ | with_reducible refine Below.alloc ?_ (by first | omega | (simp; done) | (simp; omega)) _ | with_reducible refine Below.setCell ?_ (by first | omega | (simp; done) | (simp; omega)) _ | with_reducible refine bel_step (by assumption) (by first | omega | (simp; done) | (simp; omega)) ?_ | with_reducible refine bel_grown (by assumption) (by first | omega | (simp; done) | (simp; omega)) (by first | omega | (simp; done) | (simp; omega)) ?_))) _ _ _ _ (by rfl) (HC5.out.below (by (repeat (first | with_reducible exact Below.refl _ _ | with_reducible exact below_regrown _ _ _ | with_reducible refine bel_step0 (by assumption) ?_ | with_reducible refine bel_alloc0 ?_ _ | with_reducible refine bel_regrown0 ?_ _ _ | with_reducible refine bel_regrown ?_ (by first | omega | (simp; done) | (simp; omega)) _ _ | with_reducible refine below_drewN ?_ _ | with_reducible refine Below.drew ?_ | with_reducible refine Below.alloc ?_ (by first | omega | (simp; done) | (simp; omega)) _ | with_reducible refine Below.setCell ?_ (by first | omega | (simp; done) | (simp; omega)) _ | with_reducible refine bel_step (by assumption) (by first | omega | (simp; done) | (simp; omega)) ?_ | with_reducible refine bel_grown (by assumption) (by first | omega | (simp; done) | (simp; omega)) (by first | omega | (simp; done) | (simp; omega)) ?_)))) (by simp <;> omega) ?_; intro v2 w2 ho2 hb2 hq2 hs2; have HQ2 := Lib.hid hq2; have HS2 := Lib.hid hs2; clear hq2 hs2)) | ((refine step_appT _ (by rfl) (.tmp 87) (.tmp 89) (by rfl) wr _ _ (by rfl) (by first | exact ho2 | exact OT.alloc _ ho2) (by (repeat (first | with_reducible exact Below.refl _ _ | with_reducible exact below_regrown _ _ _ | with_reducible refine bel_step0 (by assumption) ?_ | with_reducible refine bel_alloc0 ?_ _ | with_reducible refine bel_regrown0 ?_ _ _ | with_reducible refine bel_regrown ?_ (by first | omega | (simp; done) | (simp; omega)) _ _ | with_reducible refine below_drewN ?_ _ | with_reducible refine Below.drew ?_ | with_reducible refine Below.alloc ?_ (by first | omega | (simp; done) | (simp; omega)) _ | with_reducible refine Below.setCell ?_ (by first | omega | (simp; done) | (simp; omega)) _ | with_reducible refine bel_step (by assumption) (by first | omega | (simp; done) | (simp; omega)) ?_ | with_reducible refine bel_grown (by assumption) (by first | omega | (simp; done) | (simp; omega)) (by first | omega | (simp; done) | (simp; omega)) ?_))) _ _ _ _ (by rfl) (by first | exact ti_lit _ _ _ | exact litT_kept1 HQ2.out HS2.out | exact litT_kept0 HQ2.out HS2.out) (by rw [List.nil_append, lstT_length]; omega) ?_; intro v3 w3 ho3 hb3 hq3 hs3; clear hq3 hs3)) | ((refine step_appT _ (by rfl) (.tmp 90) (.tmp 93) (by rfl) wr _ _ (by rfl) ho3 (by (repeat (first | with_reducible exact Below.refl _ _ | with_reducible exact below_regrown _ _ _ | with_reducible refine bel_step0 (by assumption) ?_ | with_reducible refine bel_alloc0 ?_ _ | with_reducible refine bel_regrown0 ?_ _ _ | with_reducible refine bel_regrown ?_ (by first | omega | (simp; done) | (simp; omega)) _ _ | with_reducible refine below_drewN ?_ _ | with_reducible refine Below.drew ?_ | with_reducible refine Below.alloc ?_ (by first | omega | (simp; done) | (simp; omega)) _ | with_reducible refine Below.setCell ?_ (by first | omega | (simp; done) | (simp; omega)) _ | with_reducible refine bel_step (by assumption) (by first | omega | (simp; done) | (simp; omega)) ?_ | with_reducible refine bel_grown (by assumption) (by first | omega | (simp; done) | (simp; omega)) (by first | omega | (simp; done) | (simp; omega)) ?_))) _ _ _ _ (by rfl) (HZ5.out _ _ _ (by omega)) (by rw [List.length_append, List.nil_append, lstT_length, lstT_length]; omega) ?_; intro v4 w4 ho4 hb4 hq4 hs4; clear hq4 hs4))); (all_goals (go_wp2; go_meet; exact ⟨by rw [← HE5.out]; exact ho4, hb4⟩)))
              case rest =>
                rename World => w4
                obtain ⟨ho4, hb4⟩ := hcut
                have HO5 := Lib.hid ho4
                have HB5 := Lib.hid hb4
                have HC7 := Lib.hid (HC6.out.below hb4)
                have hz4 := hb4.size
                clear ho4 hb4
                rcases Nat.lt_or_ge q L with hqL | hqL
                · obtain ⟨b6, off6, rfl, hb6, hcell6⟩ := HR6.out (by omega)
                  clear hcell6
                  have HT7 := Lib.hid ((H6.out.tail (k := q) hq).below HB5.out)
                  have HE6 := HE6'
                  have hq8 : ¬ cap6 = q := by omega
                  clear HE5' HE6'
                  go_wp2
                  (go_region_held3 (fun W => Below w4.heap.size w4 W) (((repeat (first | with_reducible exact Below.refl _ _ | with_reducible exact below_regrown _ _ _ | with_reducible refine bel_step0 (by assumption) ?_ | with_reducible refine bel_alloc0 ?_ _ | with_reducible refine bel_regrown0 ?_ _ _ | with_reducible refine bel_regrown ?_ (by first | omega | (simp; done) | (simp; omega)) _ _ | with_reducible refine below_drewN ?_ _ | with_reducible refine Below.drew ?_ | with_reducible refine Below.alloc ?_ (by first | omega | (simp; done) | (simp; omega)) _ | with_reducible refine Below.setCell ?_ (by first | omega | (simp; done) | (simp; omega)) _ | with_reducible refine bel_step (by assumption) (by first | omega | (simp; done) | (simp; omega)) ?_ | with_reducible refine bel_grown (by assumption) (by first | omega | (simp; done) | (simp; omega)) (by first | omega | (simp; done) | (simp; omega)) ?_)))) (first | ((refine step_appK _ (by rfl) (.tmp 95) (.tmp 98) (by rfl) w4 _ _ (by rfl) (by first | exact OI.emptyAt (by simp) (by simp) | exact OI.alloc _ (OI.emptyAt (by simp) (by simp))) (by (repeat (first | with_reducible exact Below.refl _ _ | with_reducible exact below_regrown _ _ _ | with_reducible refine bel_step0 (by assumption) ?_ | with_reducible refine bel_alloc0 ?_ _ | with_reducible refine bel_regrown0 ?_ _ _ | with_reducible refine bel_regrown ?_ (by first | omega | (simp; done) | (simp; omega)) _ _ | with_reducible refine below_drewN ?_ _ | with_reducible refine Below.drew ?_ | with_reducible refine Below.alloc ?_ (by first | omega | (simp; done) | (simp; omega)) _ | with_reducible refine Below.setCell ?_ (by first | omega | (simp; done) | (simp; omega)) _ | with_reducible refine bel_step (by assumption) (by first | omega | (simp; done) | (simp; omega)) ?_ | with_reducible refine bel_grown (by assumption) (by first | omega | (simp; done) | (simp; omega)) (by first | omega | (simp; done) | (simp; omega)) ?_))) _ _ _ _ (by rfl) (HC7.out.below (by (repeat (first | with_reducible exact Below.refl _ _ | with_reducible exact below_regrown _ _ _ | with_reducible refine bel_step0 (by assumption) ?_ | with_reducible refine bel_alloc0 ?_ _ | with_reducible refine bel_regrown0 ?_ _ _ | with_reducible refine bel_regrown ?_ (by first | omega | (simp; done) | (simp; omega)) _ _ | with_reducible refine below_drewN ?_ _ | with_reducible refine Below.drew ?_ | with_reducible refine Below.alloc ?_ (by first | omega | (simp; done) | (simp; omega)) _ | with_reducible refine Below.setCell ?_ (by first | omega | (simp; done) | (simp; omega)) _ | with_reducible refine bel_step (by assumption) (by first | omega | (simp; done) | (simp; omega)) ?_ | with_reducible refine bel_grown (by assumption) (by first | omega | (simp; done) | (simp; omega)) (by first | omega | (simp; done) | (simp; omega)) ?_)))) (by simp <;> omega) ?_; intro v6 w6 ho6 hb6 hq6 hs6; have HQ6 := Lib.hid hq6; have HS6 := Lib.hid hs6; clear hq6 hs6)) | ((refine step_appK _ (by rfl) (.tmp 99) (.tmp 101) (by rfl) w4 _ _ (by rfl) (by first | exact ho6 | exact OI.alloc _ ho6) (by (repeat (first | with_reducible exact Below.refl _ _ | with_reducible exact below_regrown _ _ _ | with_reducible refine bel_step0 (by assumption) ?_ | with_reducible refine bel_alloc0 ?_ _ | with_reducible refine bel_regrown0 ?_ _ _ | with_reducible refine bel_regrown ?_ (by first | omega | (simp; done) | (simp; omega)) _ _ | with_reducible refine below_drewN ?_ _ | with_reducible refine Below.drew ?_ | with_reducible refine Below.alloc ?_ (by first | omega | (simp; done) | (simp; omega)) _ | with_reducible refine Below.setCell ?_ (by first | omega | (simp; done) | (simp; omega)) _ | with_reducible refine bel_step (by assumption) (by first | omega | (simp; done) | (simp; omega)) ?_ | with_reducible refine bel_grown (by assumption) (by first | omega | (simp; done) | (simp; omega)) (by first | omega | (simp; done) | (simp; omega)) ?_))) _ _ _ _ (by rfl) (by first | exact si_lit _ _ _ | exact lit_kept1 HQ6.out HS6.out | exact lit_kept0 HQ6.out HS6.out) (by rw [List.nil_append, lst_length]; omega) ?_; intro v7 w7 ho7 hb7 hq7 hs7; clear hq7 hs7)) | ((refine step_appK _ (by rfl) (.tmp 102) (.tmp 105) (by rfl) w4 _ _ (by rfl) ho7 (by (repeat (first | with_reducible exact Below.refl _ _ | with_reducible exact below_regrown _ _ _ | with_reducible refine bel_step0 (by assumption) ?_ | with_reducible refine bel_alloc0 ?_ _ | with_reducible refine bel_regrown0 ?_ _ _ | with_reducible refine bel_regrown ?_ (by first | omega | (simp; done) | (simp; omega)) _ _ | with_reducible refine below_drewN ?_ _ | with_reducible refine Below.drew ?_ | with_reducible refine Below.alloc ?_ (by first | omega | (simp; done) | (simp; omega)) _ | with_reducible refine Below.setCell ?_ (by first | omega | (simp; done) | (simp; omega)) _ | with_reducible refine bel_step (by assumption) (by first | omega | (simp; done) | (simp; omega)) ?_ | with_reducible refine bel_grown (by assumption) (by first | omega | (simp; done) | (simp; omega)) (by first | omega | (simp; done) | (simp; omega)) ?_))) _ _ _ _ (by rfl) (HT7.out.below (by (repeat (first | with_reducible exact Below.refl _ _ | with_reducible exact below_regrown _ _ _ | with_reducible refine bel_step0 (by assumption) ?_ | with_reducible refine bel_alloc0 ?_ _ | with_reducible refine bel_regrown0 ?_ _ _ | with_reducible refine bel_regrown ?_ (by first | omega | (simp; done) | (simp; omega)) _ _ | with_reducible refine below_drewN ?_ _ | with_reducible refine Below.drew ?_ | with_reducible refine Below.alloc ?_ (by first | omega | (simp; done) | (simp; omega)) _ | with_reducible refine Below.setCell ?_ (by first | omega | (simp; done) | (simp; omega)) _ | with_reducible refine bel_step (by assumption) (by first | omega | (simp; done) | (simp; omega)) ?_ | with_reducible refine bel_grown (by assumption) (by first | omega | (simp; done) | (simp; omega)) (by first | omega | (simp; done) | (simp; omega)) ?_)))) (by rw [List.length_append, List.nil_append, lst_length, lst_length]; omega) ?_; intro v8 w8 ho8 hb8 hq8 hs8; clear hq8 hs8))); (all_goals (go_wp2; go_roundw; (case rel => exact ⟨t + 1, _, by omega, by go_num, HP.out, own_mono HMS.out (HO5.out.below hb8), own_mono (Nat.le_trans HMS.out HB5.out.size) (by rw [← HE6.out]; exact ho8), bel_step0 hb8 (bel_step0 HB5.out HM.out.be)⟩); (case measure => (simp [intOf]; omega)))))
                · obtain rfl : L = q := by omega
                  have HE6 := Lib.hid (show [] ++ lst L G ++ lst 1 (fun _ => N) ++ lst 0 (fun _ => 0) = (W.take L ++ x :: W.drop L).map (fun x => c (kS x)) by rw [← HE6'.out]; simp [lst])
                  clear HE5' HE6'
                  by_cases hcn : cap6 = L
                  · subst hcn
                    go_wp2
                    (go_region_held3 (fun W => Below w4.heap.size w4 W) (((repeat (first | with_reducible exact Below.refl _ _ | with_reducible exact below_regrown _ _ _ | with_reducible refine bel_step0 (by assumption) ?_ | with_reducible refine bel_alloc0 ?_ _ | with_reducible refine bel_regrown0 ?_ _ _ | with_reducible refine bel_regrown ?_ (by first | omega | (simp; done) | (simp; omega)) _ _ | with_reducible refine below_drewN ?_ _ | with_reducible refine Below.drew ?_ | with_reducible refine Below.alloc ?_ (by first | omega | (simp; done) | (simp; omega)) _ | with_reducible refine Below.setCell ?_ (by first | omega | (simp; done) | (simp; omega)) _ | with_reducible refine bel_step (by assumption) (by first | omega | (simp; done) | (simp; omega)) ?_ | with_reducible refine bel_grown (by assumption) (by first | omega | (simp; done) | (simp; omega)) (by first | omega | (simp; done) | (simp; omega)) ?_)))) (first | ((refine step_appK _ (by rfl) (.tmp 95) (.tmp 98) (by rfl) w4 _ _ (by rfl) (by first | exact OI.emptyAt (by simp) (by simp) | exact OI.alloc _ (OI.emptyAt (by simp) (by simp))) (by (repeat (first | with_reducible exact Below.refl _ _ | with_reducible exact below_regrown _ _ _ | with_reducible refine bel_step0 (by assumption) ?_ | with_reducible refine bel_alloc0 ?_ _ | with_reducible refine bel_regrown0 ?_ _ _ | with_reducible refine bel_regrown ?_ (by first | omega | (simp; done) | (simp; omega)) _ _ | with_reducible refine below_drewN ?_ _ | with_reducible refine Below.drew ?_ | with_reducible refine Below.alloc ?_ (by first | omega | (simp; done) | (simp; omega)) _ | with_reducible refine Below.setCell ?_ (by first | omega | (simp; done) | (simp; omega)) _ | with_reducible refine bel_step (by assumption) (by first | omega | (simp; done) | (simp; omega)) ?_ | with_reducible refine bel_grown (by assumption) (by first | omega | (simp; done) | (simp; omega)) (by first | omega | (simp; done) | (simp; omega)) ?_))) _ _ _ _ (by rfl) (HC7.out.below (by (repeat (first | with_reducible exact Below.refl _ _ | with_reducible exact below_regrown _ _ _ | with_reducible refine bel_step0 (by assumption) ?_ | with_reducible refine bel_alloc0 ?_ _ | with_reducible refine bel_regrown0 ?_ _ _ | with_reducible refine bel_regrown ?_ (by first | omega | (simp; done) | (simp; omega)) _ _ | with_reducible refine below_drewN ?_ _ | with_reducible refine Below.drew ?_ | with_reducible refine Below.alloc ?_ (by first | omega | (simp; done) | (simp; omega)) _ | with_reducible refine Below.setCell ?_ (by first | omega | (simp; done) | (simp; omega)) _ | with_reducible refine bel_step (by assumption) (by first | omega | (simp; done) | (simp; omega)) ?_ | with_reducible refine bel_grown (by assumption) (by first | omega | (simp; done) | (simp; omega)) (by first | omega | (simp; done) | (simp; omega)) ?_)))) (by simp <;> omega) ?_; intro v6 w6 ho6 hb6 hq6 hs6; have HQ6 := Lib.hid hq6; have HS6 := Lib.hid hs6; clear hq6 hs6)) | ((refine step_appK _ (by rfl) (.tmp 99) (.tmp 101) (by rfl) w4 _ _ (by rfl) (by first | exact ho6 | exact OI.alloc _ ho6) (by (repeat (first | with_reducible exact Below.refl _ _ | with_reducible exact below_regrown _ _ _ | with_reducible refine bel_step0 (by assumption) ?_ | with_reducible refine bel_alloc0 ?_ _ | with_reducible refine bel_regrown0 ?_ _ _ | with_reducible refine bel_regrown ?_ (by first | omega | (simp; done) | (simp; omega)) _ _ | with_reducible refine below_drewN ?_ _ | with_reducible refine Below.drew ?_ | with_reducible refine Below.alloc ?_ (by first | omega | (simp; done) | (simp; omega)) _ | with_reducible refine Below.setCell ?_ (by first | omega | (simp; done) | (simp; omega)) _ | with_reducible refine bel_step (by assumption) (by first | omega | (simp; done) | (simp; omega)) ?_ | with_reducible refine bel_grown (by assumption) (by first | omega | (simp; done) | (simp; omega)) (by first | omega | (simp; done) | (simp; omega)) ?_))) _ _ _ _ (by rfl) (by first | exact si_lit _ _ _ | exact lit_kept1 HQ6.out HS6.out | exact lit_kept0 HQ6.out HS6.out) (by rw [List.nil_append, lst_length]; omega) ?_; intro v7 w7 ho7 hb7 hq7 hs7; clear hq7 hs7)) | ((refine step_appK _ (by rfl) (.tmp 102) (.tmp 105) (by rfl) w4 _ _ (by rfl) ho7 (by (repeat (first | with_reducible exact Below.refl _ _ | with_reducible exact below_regrown _ _ _ | with_reducible refine bel_step0 (by assumption) ?_ | with_reducible refine bel_alloc0 ?_ _ | with_reducible refine bel_regrown0 ?_ _ _ | with_reducible refine bel_regrown ?_ (by first | omega | (simp; done) | (simp; omega)) _ _ | with_reducible refine below_drewN ?_ _ | with_reducible refine Below.drew ?_ | with_reducible refine Below.alloc ?_ (by first | omega | (simp; done) | (simp; omega)) _ | with_reducible refine Below.setCell ?_ (by first | omega | (simp; done) | (simp; omega)) _ | with_reducible refine bel_step (by assumption) (by first | omega | (simp; done) | (simp; omega)) ?_ | with_reducible refine bel_grown (by assumption) (by first | omega | (simp; done) | (simp; omega)) (by first | omega | (simp; done) | (simp; omega)) ?_))) _ _ _ _ (by rfl) (HZ6.out _ _ _ (by omega)) (by rw [List.length_append, List.nil_append, lst_length, lst_length]; omega) ?_; intro v8 w8 ho8 hb8 hq8 hs8; clear hq8 hs8))); (all_goals (go_wp2; go_roundw; (case rel => exact ⟨t + 1, _, by omega, by go_num, HP.out, own_mono HMS.out (HO5.out.below hb8), own_mono (Nat.le_trans HMS.out HB5.out.size) (by rw [← HE6.out]; exact ho8), bel_step0 hb8 (bel_step0 HB5.out HM.out.be)⟩); (case measure => (simp [intOf]; omega)))))
                  · rcases A6 with _ | ⟨b6, off6, spot⟩
                    · exfalso
                      rcases HNN.out.2.2 with ⟨e, h0⟩ | ⟨g, cap', cur, e, _⟩
                      · injection e with _ e1 e2; omega
                      · injection e with e1 _ _; cases e1
                    · go_wp2
                      (go_region_held3 (fun W => Below w4.heap.size w4 W) (((repeat (first | with_reducible exact Below.refl _ _ | with_reducible exact below_regrown _ _ _ | with_reducible refine bel_step0 (by assumption) ?_ | with_reducible refine bel_alloc0 ?_ _ | with_reducible refine bel_regrown0 ?_ _ _ | with_reducible refine bel_regrown ?_ (by first | omega | (simp; done) | (simp; omega)) _ _ | with_reducible refine below_drewN ?_ _ | with_reducible refine Below.drew ?_ | with_reducible refine Below.alloc ?_ (by first | omega | (simp; done) | (simp; omega)) _ | with_reducible refine Below.setCell ?_ (by first | omega | (simp; done) | (simp; omega)) _ | with_reducible refine bel_step (by assumption) (by first | omega | (simp; done) | (simp; omega)) ?_ | with_reducible refine bel_grown (by assumption) (by first | omega | (simp; done) | (simp; omega)) (by first | omega | (simp; done) | (simp; omega)) ?_)))) (first | ((refine step_appK _ (by rfl) (.tmp 95) (.tmp 98) (by rfl) w4 _ _ (by rfl) (by first | exact OI.emptyAt (by simp) (by simp) | exact OI.alloc _ (OI.emptyAt (by simp) (by simp))) (by (repeat (first | with_reducible exact Below.refl _ _ | with_reducible exact below_regrown _ _ _ | with_reducible refine bel_step0 (by assumption) ?_ | with_reducible refine bel_alloc0 ?_ _ | with_reducible refine bel_regrown0 ?_ _ _ | with_reducible refine bel_regrown ?_ (by first | omega | (simp; done) | (simp; omega)) _ _ | with_reducible refine below_drewN ?_ _ | with_reducible refine Below.drew ?_ | with_reducible refine Below.alloc ?_ (by first | omega | (simp; done) | (simp; omega)) _ | with_reducible refine Below.setCell ?_ (by first | omega | (simp; done) | (simp; omega)) _ | with_reducible refine bel_step (by assumption) (by first | omega | (simp; done) | (simp; omega)) ?_ | with_reducible refine bel_grown (by assumption) (by first | omega | (simp; done) | (simp; omega)) (by first | omega | (simp; done) | (simp; omega)) ?_))) _ _ _ _ (by rfl) (HC7.out.below (by (repeat (first | with_reducible exact Below.refl _ _ | with_reducible exact below_regrown _ _ _ | with_reducible refine bel_step0 (by assumption) ?_ | with_reducible refine bel_alloc0 ?_ _ | with_reducible refine bel_regrown0 ?_ _ _ | with_reducible refine bel_regrown ?_ (by first | omega | (simp; done) | (simp; omega)) _ _ | with_reducible refine below_drewN ?_ _ | with_reducible refine Below.drew ?_ | with_reducible refine Below.alloc ?_ (by first | omega | (simp; done) | (simp; omega)) _ | with_reducible refine Below.setCell ?_ (by first | omega | (simp; done) | (simp; omega)) _ | with_reducible refine bel_step (by assumption) (by first | omega | (simp; done) | (simp; omega)) ?_ | with_reducible refine bel_grown (by assumption) (by first | omega | (simp; done) | (simp; omega)) (by first | omega | (simp; done) | (simp; omega)) ?_)))) (by simp <;> omega) ?_; intro v6 w6 ho6 hb6 hq6 hs6; have HQ6 := Lib.hid hq6; have HS6 := Lib.hid hs6; clear hq6 hs6)) | ((refine step_appK _ (by rfl) (.tmp 99) (.tmp 101) (by rfl) w4 _ _ (by rfl) (by first | exact ho6 | exact OI.alloc _ ho6) (by (repeat (first | with_reducible exact Below.refl _ _ | with_reducible exact below_regrown _ _ _ | with_reducible refine bel_step0 (by assumption) ?_ | with_reducible refine bel_alloc0 ?_ _ | with_reducible refine bel_regrown0 ?_ _ _ | with_reducible refine bel_regrown ?_ (by first | omega | (simp; done) | (simp; omega)) _ _ | with_reducible refine below_drewN ?_ _ | with_reducible refine Below.drew ?_ | with_reducible refine Below.alloc ?_ (by first | omega | (simp; done) | (simp; omega)) _ | with_reducible refine Below.setCell ?_ (by first | omega | (simp; done) | (simp; omega)) _ | with_reducible refine bel_step (by assumption) (by first | omega | (simp; done) | (simp; omega)) ?_ | with_reducible refine bel_grown (by assumption) (by first | omega | (simp; done) | (simp; omega)) (by first | omega | (simp; done) | (simp; omega)) ?_))) _ _ _ _ (by rfl) (by first | exact si_lit _ _ _ | exact lit_kept1 HQ6.out HS6.out | exact lit_kept0 HQ6.out HS6.out) (by rw [List.nil_append, lst_length]; omega) ?_; intro v7 w7 ho7 hb7 hq7 hs7; clear hq7 hs7)) | ((refine step_appK _ (by rfl) (.tmp 102) (.tmp 105) (by rfl) w4 _ _ (by rfl) ho7 (by (repeat (first | with_reducible exact Below.refl _ _ | with_reducible exact below_regrown _ _ _ | with_reducible refine bel_step0 (by assumption) ?_ | with_reducible refine bel_alloc0 ?_ _ | with_reducible refine bel_regrown0 ?_ _ _ | with_reducible refine bel_regrown ?_ (by first | omega | (simp; done) | (simp; omega)) _ _ | with_reducible refine below_drewN ?_ _ | with_reducible refine Below.drew ?_ | with_reducible refine Below.alloc ?_ (by first | omega | (simp; done) | (simp; omega)) _ | with_reducible refine Below.setCell ?_ (by first | omega | (simp; done) | (simp; omega)) _ | with_reducible refine bel_step (by assumption) (by first | omega | (simp; done) | (simp; omega)) ?_ | with_reducible refine bel_grown (by assumption) (by first | omega | (simp; done) | (simp; omega)) (by first | omega | (simp; done) | (simp; omega)) ?_))) _ _ _ _ (by rfl) (HZ6.out _ _ _ (by omega)) (by rw [List.length_append, List.nil_append, lst_length, lst_length]; omega) ?_; intro v8 w8 ho8 hb8 hq8 hs8; clear hq8 hs8))); (all_goals (go_wp2; go_roundw; (case rel => exact ⟨t + 1, _, by omega, by go_num, HP.out, own_mono HMS.out (HO5.out.below hb8), own_mono (Nat.le_trans HMS.out HB5.out.size) (by rw [← HE6.out]; exact ho8), bel_step0 hb8 (bel_step0 HB5.out HM.out.be)⟩); (case measure => (simp [intOf]; omega)))))
          · have hold : ¬ cL R t (kS x) = 0 := by have := HA.out; rw [HZ0.out]; simpa using this
            have hsr : SR c R (t + 1) w wr _ _ W := HM.out.old (by rw [HX.out]; exact hold)
            have HSR := Lib.hid hsr
            clear hold hsr
            go_wp2
            go_roundw
            case rel => exact ⟨t + 1, W, by omega, by go_num, HSR.out⟩
            case measure => simp [intOf]; omega
    · obtain rfl : k = n := by omega
      go_wp2
      go_ret3
      exact ⟨_, _, W, rfl, HM.out⟩
end Go.Proofs.YtmhelhjjadoiaaaGreatDoor

/- Both sides of SameReason. No condition but those stated. -/
namespace Go.Proofs.YtmhelhjjadoiaaaGreatDoor
set_option linter.unusedVariables false
set_option linter.unusedSimpArgs false
open Go.RowKit Go.Sort Go.WideMaps Go.Maps
/-- Texts and numbers in two blocks of the call's own. -/
def TN (base : Nat) (w : World) (v1 v2 : Value) (n : Nat) (F : Nat → ByteArray) (G : Nat → Int) : Prop :=
  ∃ lo1 hi1 lo2 hi2, WT lo1 hi1 w v1 n F ∧ WI lo2 hi2 w v2 n G ∧ base ≤ lo1 ∧ base ≤ lo2 ∧ (hi1 ≤ lo2 ∨ hi2 ≤ lo1)
theorem TN.of {base : Nat} {w : World} {v1 v2 : Value} {xs : List ByteArray} {ys : List Int} (h1 : OT base w v1 xs) (h2 : OI base w v2 ys) (hl : ys.length = xs.length) : TN base w v1 v2 xs.length (atT xs) (ai ys) := by
  have hh1 := h1
  have hh2 := h2
  obtain ⟨A1, c1, e1, r1, s1⟩ := h1.wt
  obtain ⟨A2, c2, e2, r2, s2⟩ := h2.wi
  rw [hl] at e2 r2 s2
  rcases hh1.2 with ⟨f1, z1⟩ | ⟨g1, cap1, cur1, f1, b1, q1, _⟩
  · rcases hh2.2 with ⟨f2, z2⟩ | ⟨g2, cap2, cur2, f2, b2, q2, _⟩
    · exact ⟨base, base, base, base, ⟨A1, c1, e1, fun h0 => absurd h0 (by omega), s1⟩, ⟨A2, c2, e2, fun h0 => absurd h0 (by omega), s2⟩, Nat.le_refl _, Nat.le_refl _, .inl (Nat.le_refl _)⟩
    · exact ⟨base, base, base, w.heap.size, ⟨A1, c1, e1, fun h0 => absurd h0 (by omega), s1⟩, ⟨A2, c2, e2, r2, s2⟩, Nat.le_refl _, Nat.le_refl _, .inl (Nat.le_refl _)⟩
  · rcases hh2.2 with ⟨f2, z2⟩ | ⟨g2, cap2, cur2, f2, b2, q2, _⟩
    · exact ⟨base, w.heap.size, base, base, ⟨A1, c1, e1, r1, s1⟩, ⟨A2, c2, e2, fun h0 => absurd h0 (by omega), s2⟩, Nat.le_refl _, Nat.le_refl _, .inr (Nat.le_refl _)⟩
    · have hne : g1 ≠ g2 := fun e => by
        rw [e, q2] at q1
        injection q1 with q1
        injection q1 with _ q1 _
        exact absurd q1 (by decide)
      refine ⟨g1, g1 + 1, g2, g2 + 1, ⟨A1, c1, e1, fun h0 => ?_, s1⟩, ⟨A2, c2, e2, fun h0 => ?_, s2⟩, b1, b2, by omega⟩
      · obtain ⟨b, off, e, _, _, h5, h6⟩ := r1 h0
        have : b = g1 := by rw [e1, e] at f1; injection f1 with f1; injection f1 with f1; injection f1
        exact ⟨b, off, e, by omega, by omega, h5, h6⟩
      · obtain ⟨b, off, e, _, _, h5, h6⟩ := r2 h0
        have : b = g2 := by rw [e2, e] at f2; injection f2 with f2; injection f2 with f2; injection f2
        exact ⟨b, off, e, by omega, by omega, h5, h6⟩
theorem TN.below {base : Nat} {w w' : World} {v1 v2 : Value} {n : Nat} {F : Nat → ByteArray} {G : Nat → Int} (hb : Below w.heap.size w w') (h : TN base w v1 v2 n F G) : TN base w' v1 v2 n F G := by
  obtain ⟨a, b, c, d, h1, h2, h3⟩ := h
  exact ⟨a, b, c, d, h1.below hb, h2.below hb, h3⟩
theorem TN.ti {base : Nat} {w : World} {v1 v2 : Value} {n : Nat} {F : Nat → ByteArray} {G : Nat → Int} (h : TN base w v1 v2 n F G) : TI w v1 n F := by
  obtain ⟨_, _, _, _, h1, _⟩ := h
  exact h1.ti
theorem TN.si {base : Nat} {w : World} {v1 v2 : Value} {n : Nat} {F : Nat → ByteArray} {G : Nat → Int} (h : TN base w v1 v2 n F G) : SI w v2 n G := by
  obtain ⟨_, _, _, _, _, h1, _⟩ := h
  exact h1.si
theorem C_SameReasonI_no (v : Value) (n : Nat) (R : Nat → Lk) (w : World) (h : LKs w v n R) (hs : ∀ j, j < n → (R j).why.size ≤ 9223372036854775807) (hd : accB n R = false) :
    Calls Tryz.prog 28 #[v] w fun e w' => ∃ v1 v2, e = .returned (.tuple #[v1, v2, .bool false]) ∧ OT w.heap.size w' v1 [] ∧ OI w.heap.size w' v2 [] ∧ Below w.heap.size w w' := by
  have HH := Lib.hid h
  have HS := Lib.hid hs
  obtain ⟨A, cap, rfl, hr, hc, hm⟩ := h
  clear hr hs
  go_enter Tryz.func28, Tryz.ntmps28
  go_wp2_with fail
  refine (C_IsAccount _ _ _ _ HH.out HS.out).mono ?_; rintro e w1 ⟨rfl, hb1⟩; rw [hd]
  go_wp2_with fail
  go_ret3
  exact ⟨_, _, rfl, OT.nil _ _, World.ownsRow_nil _ _ _ _, hb1⟩
theorem C_SameReasonS_no (v : Value) (n : Nat) (R : Nat → Lk) (w : World) (h : LKs w v n R) (hs : ∀ j, j < n → (R j).why.size ≤ 9223372036854775807) (hd : accB n R = false) :
    Calls Tryz.prog 29 #[v] w fun e w' => ∃ v1 v2, e = .returned (.tuple #[v1, v2, .bool false]) ∧ OT w.heap.size w' v1 [] ∧ OI w.heap.size w' v2 [] ∧ Below w.heap.size w w' := by
  have HH := Lib.hid h
  have HS := Lib.hid hs
  obtain ⟨A, cap, rfl, hr, hc, hm⟩ := h
  obtain ⟨w0, hw0⟩ : ∃ w0, w0 = (w.alloc (.cells #[] 9)).alloc (.cells #[] 3) := ⟨_, rfl⟩
  have hb0 : Below w.heap.size w w0 := by rw [hw0]; (repeat (first | with_reducible exact Below.refl _ _ | with_reducible exact below_regrown _ _ _ | with_reducible refine bel_step0 (by assumption) ?_ | with_reducible refine bel_alloc0 ?_ _ | with_reducible refine bel_regrown0 ?_ _ _ | with_reducible refine bel_regrown ?_ (by first | omega | (simp; done) | (simp; omega)) _ _ | with_reducible refine below_drewN ?_ _ | with_reducible refine Below.drew ?_ | with_reducible refine Below.alloc ?_ (by first | omega | (simp; done) | (simp; omega)) _ | with_reducible refine Below.setCell ?_ (by first | omega | (simp; done) | (simp; omega)) _ | with_reducible refine bel_step (by assumption) (by first | omega | (simp; done) | (simp; omega)) ?_ | with_reducible refine bel_grown (by assumption) (by first | omega | (simp; done) | (simp; omega)) (by first | omega | (simp; done) | (simp; omega)) ?_))
  have HT0 := Lib.hid (show OT w.heap.size w0 (.slice (some ⟨w.heap.size, 0, none⟩) 0 0) [] by rw [hw0]; exact OT.alloc _ (OT.emptyAt rfl (Nat.le_refl _)))
  have HI0 := Lib.hid (show OI w.heap.size w0 (.slice (some ⟨w.heap.size + 1, 0, none⟩) 0 0) [] by rw [hw0]; exact OI.emptyAt (by simp) (by omega))
  have HW0 := Lib.hid hw0
  have HH0 := Lib.hid (HH.out.below hb0)
  have HB0 := Lib.hid hb0
  clear hr hs hw0 hb0
  go_enter Tryz.func29, Tryz.ntmps29
  go_wp2_with fail
  rw [← HW0.out]
  refine (C_l22Good _ _ _ _ HH0.out HS.out).mono ?_; rintro e w1 ⟨rfl, hb1⟩; rw [hd]
  go_wp2_with fail
  go_ret3
  exact ⟨_, _, rfl, HT0.out.below hb1, HI0.out.below hb1, bel_step0 hb1 HB0.out⟩
/-- Both sides give the same texts and numbers. -/
theorem both_same (n : Nat) (R : Nat → Lk) (hs : ∀ j, j < n → (R j).why.size ≤ 9223372036854775807) : ∃ (ok : Bool) (m : Nat) (F : Nat → ByteArray) (G : Nat → Int), m ≤ 15 ∧
    (∀ w v, LKs w v n R → Calls Tryz.prog 28 #[v] w fun e w' => ∃ v1 v2, e = .returned (.tuple #[v1, v2, .bool ok]) ∧ TN w.heap.size w' v1 v2 m F G ∧ Below w.heap.size w w') ∧
    (∀ w v, LKs w v n R → Calls Tryz.prog 29 #[v] w fun e w' => ∃ v1 v2, e = .returned (.tuple #[v1, v2, .bool ok]) ∧ TN w.heap.size w' v1 v2 m F G ∧ Below w.heap.size w w') := by
  cases hd : accB n R
  · refine ⟨false, 0, atT [], ai [], by omega, fun w v h => ?_, fun w v h => ?_⟩
    · exact (C_SameReasonI_no v n R w h hs hd).mono fun e w' ⟨v1, v2, e1, e2, e3, e4⟩ => ⟨v1, v2, e1, TN.of e2 e3 rfl, e4⟩
    · exact (C_SameReasonS_no v n R w h hs hd).mono fun e w' ⟨v1, v2, e1, e2, e3, e4⟩ => ⟨v1, v2, e1, TN.of e2 e3 rfl, e4⟩
  · obtain ⟨ws0, hws0⟩ := words_of (dL_size (R := R) (n := n) hs n (Nat.le_refl _))
    have hn := accB_le hd
    have hlen : ((sortW (cL R n) ws0).map Wd.s).length ≤ 15 := by
      have h1 : (sortW (cL R n) ws0).length = ws0.length := List.length_mergeSort _
      have h2 := dL_le R n
      rw [← hws0, List.length_map] at h2
      rw [List.length_map]; omega
    refine ⟨true, ((sortW (cL R n) ws0).map Wd.s).length, atT ((sortW (cL R n) ws0).map Wd.s), ai (((sortW (cL R n) ws0).map Wd.s).map fun x => cL R n (kS x)), hlen, fun w v h => ?_, fun w v h => ?_⟩
    · exact (C_SameReasonI v n R w h hs hd).mono fun e w' ⟨v1, v2, ws, e1, e0, e2, e3, e4⟩ => by
        have := map_s_inj (e0.trans hws0.symm)
        subst this
        exact ⟨v1, v2, e1, TN.of e2 e3 (List.length_map _), e4⟩
    · exact (C_SameReasonS v n R w h hs hd).mono fun e w' ⟨v1, v2, W, e1, e2⟩ => by
        have := e2.sp.done hws0
        subst this
        exact ⟨v1, v2, e1, TN.of e2.ot e2.oi (List.length_map _), e2.be⟩
end Go.Proofs.YtmhelhjjadoiaaaGreatDoor
