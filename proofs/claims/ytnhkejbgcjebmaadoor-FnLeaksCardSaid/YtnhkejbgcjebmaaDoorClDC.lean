/- Words of a dictionary, and clues, that are drawn. No condition but those stated. -/
import Derived.Test.YtnhkejbgcjebmaaDoorClDB
import Derived.Test.YtnhkejbgcjebmaaDoorClueF
namespace Go.Proofs.YtnhkejbgcjebmaaDoor
set_option linter.unusedVariables false
set_option linter.unusedSimpArgs false
open Go.RowKit Go.Sort
theorem OT.word {base : Nat} {w : World} {A : Option Addr} {n cap : Nat} {xs : List ByteArray} (h : OT base w (.slice A n cap) xs) (h0 : 0 < n) : n = xs.length ∧ ∃ g, A = some ⟨g, 0, none⟩ ∧ base ≤ g ∧ g < w.heap.size ∧ ∀ j, j < n → w.cell? ⟨g, j, none⟩ = some (.string (atT xs j)) := by
  obtain ⟨A', cap', e, hr, _⟩ := h.wt
  injection e with e1 e2 e3
  subst e1 e2
  obtain ⟨b, off, e, h1, h2, h3, h4⟩ := hr h0
  subst e
  rcases h.2 with ⟨h5, _⟩ | ⟨g, cap2, cur, h5, _⟩
  · cases h5
  · injection h5 with h5
    injection h5 with h5
    injection h5 with h5 h6
    subst h6
    exact ⟨rfl, b, rfl, h1, h3, fun j hj => by have := (h4 j hj).1; rwa [Nat.zero_add] at this⟩
theorem sh_at {xs : List ByteArray} (h : ∀ x ∈ xs, sh20 x = true) (j : Nat) : sh20 (atT xs j) = true := by
  by_cases hj : j < xs.length
  · exact h _ (List.mem_of_getElem? (atT_lt hj))
  · unfold atT
    rw [List.getD_eq_getElem?_getD, List.getElem?_eq_none (by omega)]; rfl
set_option maxHeartbeats 1000000 in
theorem C_known (B m base : Nat) (A : Option Addr) (n cap : Nat) (xs : List ByteArray) (w : World) (hcu : Cu w B m) (hm : m ≤ 900000) (ho : OT base w (.slice A n cap) xs) (hB : B < base) (hn : xs.length = n) (hx : n ≤ 13) (hs : ∀ x ∈ xs, sh20 x = true) :
    Calls Tryd.prog 77 #[.pointer (some ⟨B, 0, none⟩), .slice A n cap] w fun e w' => ∃ y : ByteArray, e = .returned (.string y) ∧ sh20 y = true ∧ Cu w' B (m + 3) ∧ w.grownBy w' (some B) := by
  have HS := Lib.hid (sh_at hs)
  have HO := Lib.hid ho
  clear hs ho hn
  by_cases h0 : n = 0
  · have h0b : ((n : Int) == 0) = true := by simp [h0]
    go_enter Tryd.func77, Tryd.ntmps77
    go_wp2_with fail
    refine (C_ofL B m _ 5 5 _ w _ (by rfl) hcu (by omega) (by omega) (by decide) (by omega) sh20 (by decide)).mono ?_; rintro e w2 ⟨y, rfl, hy, cu2, hb2⟩
    have HY := Lib.hid hy
    clear hy
    go_wp2_with fail
    go_ret
    exact ⟨_, rfl, HY.out, cu2.mono (by omega), hb2⟩
  · have h0b : ((n : Int) == 0) = false := by simpa using h0
    go_enter Tryd.func77, Tryd.ntmps77
    go_wp2_with fail
    refine (C_one B m 6 _ hcu (by omega) (by omega) (by omega)).mono ?_; rintro e w1 ⟨b, rfl, cu1, hb1⟩
    cases b
    · go_wp2_with fail
      refine (C_pick B _ n _ cu1 (by omega) (by omega) (by omega)).mono ?_; rintro e w2 ⟨r, rfl, ⟨hr0, hr1⟩, cu2, hb2⟩
      obtain ⟨r, rfl⟩ : ∃ q : Nat, r = (q : Int) := ⟨r.toNat, by omega⟩
      have hc := (Chg.of_grown hb1).trans (Chg.of_grown hb2)
      have HC := Lib.hid hc.grown
      obtain ⟨hnn, g, rfl, hg1, hg2, hcell⟩ := (HO.out.chg hc (by omega)).word (by omega)
      clear hnn
      have hck := hcell r (by omega)
      clear hc hb1 hb2 hcell
      go_wp2_with fail
      go_ret
      exact ⟨_, rfl, HS.out _, cu2.mono (by omega), HC.out⟩
    · go_wp2_with fail
      refine (C_ofL B (m + 1) _ 5 5 _ w1 _ (by rfl) cu1 (by omega) (by omega) (by decide) (by omega) sh20 (by decide)).mono ?_; rintro e w2 ⟨y, rfl, hy, cu2, hb2⟩
      have HY := Lib.hid hy
      have HC := Lib.hid ((Chg.of_grown hb1).trans (Chg.of_grown hb2)).grown
      clear hy hb1 hb2
      go_wp2_with fail
      go_ret
      exact ⟨_, rfl, HY.out, cu2.mono (by omega), HC.out⟩
/-- What the drawing of a clue keeps. -/
structure CB (B m g0 gx : Nat) (w W : World) (a b : Int) (s t : ByteArray) : Prop where
  cu : Cu W B m
  ch : Chg B (B + 1) w W
  r0 : W.rowIs g0 29 4 (c4 0 0 (⟨#[]⟩ : ByteArray) (⟨#[]⟩ : ByteArray))
  rx : W.rowIs gx 29 4 (c4 a b s t)
  hw : w.heap.size ≤ g0
  l0 : B < g0
  lx : g0 < gx
theorem CB.step {B m m' g0 gx : Nat} {w W W' : World} {a b : Int} {s t : ByteArray} (h : CB B m g0 gx w W a b s t) (hc : Chg B (B + 1) W W') (hcu : Cu W' B m') : CB B m' g0 gx w W' a b s t :=
  ⟨hcu, h.ch.trans hc, row_chg h.r0 hc (.inr h.l0), row_chg h.rx hc (.inr (Nat.lt_trans h.l0 h.lx)), h.hw, h.l0, h.lx⟩
theorem CB.mono {B m m' g0 gx : Nat} {w W : World} {a b : Int} {s t : ByteArray} (h : CB B m g0 gx w W a b s t) (hm : m ≤ m') : CB B m' g0 gx w W a b s t := ⟨h.cu.mono hm, h.ch, h.r0, h.rx, h.hw, h.l0, h.lx⟩
theorem CB.cells {B m g0 gx : Nat} {w W : World} {a b : Int} {s t : ByteArray} (h : CB B m g0 gx w W a b s t) :
    W.cell? ⟨gx, 0, none⟩ = some (.int .i64 a) ∧ W.cell? ⟨gx, 1, none⟩ = some (.int .i64 b) ∧ W.cell? ⟨gx, 2, none⟩ = some (.string s) ∧ W.cell? ⟨gx, 3, none⟩ = some (.string t) ∧
    W.frozen? ⟨gx, 0, none⟩ = false ∧ W.frozen? ⟨gx, 1, none⟩ = false ∧ W.frozen? ⟨gx, 2, none⟩ = false ∧ W.frozen? ⟨gx, 3, none⟩ = false ∧
    W.cell? ⟨g0, 0, none⟩ = some (.int .i64 0) ∧ W.cell? ⟨g0, 1, none⟩ = some (.int .i64 0) ∧ W.cell? ⟨g0, 2, none⟩ = some (.string (⟨#[]⟩ : ByteArray)) ∧ W.cell? ⟨g0, 3, none⟩ = some (.string (⟨#[]⟩ : ByteArray)) ∧
    W.frozen? ⟨g0, 0, none⟩ = false ∧ W.frozen? ⟨g0, 1, none⟩ = false ∧ W.frozen? ⟨g0, 2, none⟩ = false ∧ W.frozen? ⟨g0, 3, none⟩ = false :=
  ⟨h.rx.cell (i := 0) (by omega), h.rx.cell (i := 1) (by omega), h.rx.cell (i := 2) (by omega), h.rx.cell (i := 3) (by omega), h.rx.frozen 0, h.rx.frozen 1, h.rx.frozen 2, h.rx.frozen 3,
   h.r0.cell (i := 0) (by omega), h.r0.cell (i := 1) (by omega), h.r0.cell (i := 2) (by omega), h.r0.cell (i := 3) (by omega), h.r0.frozen 0, h.r0.frozen 1, h.r0.frozen 2, h.r0.frozen 3⟩
theorem CB.set {B m g0 gx i : Nat} {w W : World} {a b a' b' : Int} {s t s' t' : ByteArray} {u : Value} (h : CB B m g0 gx w W a b s t) (e : ∀ j, j < 4 → (if j = i then u else c4 a b s t j) = c4 a' b' s' t' j) :
    CB B m g0 gx w (W.setCell ⟨gx, i, none⟩ u) a' b' s' t' := by
  have h1 := h.l0
  have h2 := h.lx
  have h3 := h.hw
  refine ⟨h.cu.setFar (p := ⟨gx, i, none⟩) (by simp; omega) _, h.ch.setNew (p := ⟨gx, i, none⟩) (by simp; omega) _, h.r0.setOther (a := ⟨gx, i, none⟩) (by simp; omega) _, ?_, h3, h1, h2⟩
  exact (h.rx.set i u).congr e
theorem CB.set0 {B m g0 gx : Nat} {w W : World} {a b : Int} {s t : ByteArray} (y : Int) (h : CB B m g0 gx w W a b s t) : CB B m g0 gx w (W.setCell ⟨gx, 0, none⟩ (.int .i64 y)) y b s t :=
  h.set fun j hj => by match j, hj with
    | 0, _ => rfl
    | 1, _ => rfl
    | 2, _ => rfl
    | 3, _ => rfl
theorem CB.set1 {B m g0 gx : Nat} {w W : World} {a b : Int} {s t : ByteArray} (y : Int) (h : CB B m g0 gx w W a b s t) : CB B m g0 gx w (W.setCell ⟨gx, 1, none⟩ (.int .i64 y)) a y s t :=
  h.set fun j hj => by match j, hj with
    | 0, _ => rfl
    | 1, _ => rfl
    | 2, _ => rfl
    | 3, _ => rfl
theorem CB.set2 {B m g0 gx : Nat} {w W : World} {a b : Int} {s t : ByteArray} (y : ByteArray) (h : CB B m g0 gx w W a b s t) : CB B m g0 gx w (W.setCell ⟨gx, 2, none⟩ (.string y)) a b y t :=
  h.set fun j hj => by match j, hj with
    | 0, _ => rfl
    | 1, _ => rfl
    | 2, _ => rfl
    | 3, _ => rfl
theorem CB.set3 {B m g0 gx : Nat} {w W : World} {a b : Int} {s t : ByteArray} (y : ByteArray) (h : CB B m g0 gx w W a b s t) : CB B m g0 gx w (W.setCell ⟨gx, 3, none⟩ (.string y)) a b s y :=
  h.set fun j hj => by match j, hj with
    | 0, _ => rfl
    | 1, _ => rfl
    | 2, _ => rfl
    | 3, _ => rfl
/-- A list that is read alone while a clue is drawn: it lies in blocks from base on and below top. -/
def LWd (base top : Nat) (W : World) (A : Option Addr) (n cap : Nat) (xs : List ByteArray) : Prop := OT base W (.slice A n cap) xs ∧ xs.length = n ∧ n ≤ 13 ∧ (∀ x ∈ xs, sh20 x = true) ∧ ∀ q, (Value.slice A n cap).ownBlock = some q → q < top
theorem LWd.chg {base top lo hi : Nat} {W W' : World} {A : Option Addr} {n cap : Nat} {xs : List ByteArray} (h : LWd base top W A n cap xs) (hc : Chg lo hi W W') (hl : hi ≤ base ∨ top ≤ lo) : LWd base top W' A n cap xs :=
  ⟨h.1.ofB fun g hg => hc.block g (World.ownsRow.lt h.1 g hg).2 (by have := (World.ownsRow.lt h.1 g hg).1; have := h.2.2.2.2 g hg; omega), h.2⟩
theorem LWd.below {base top : Nat} {W W' : World} {A : Option Addr} {n cap : Nat} {xs : List ByteArray} (h : LWd base top W A n cap xs) (hb : Below W.heap.size W W') : LWd base top W' A n cap xs := ⟨h.1.below hb, h.2⟩
theorem LWd.setFar {base top : Nat} {W : World} {A : Option Addr} {n cap : Nat} {xs : List ByteArray} (h : LWd base top W A n cap xs) {p : Addr} (hp : top ≤ p.block) (u : Value) : LWd base top (W.setCell p u) A n cap xs :=
  h.chg (lo := p.block) (hi := p.block + 1) ((Chg.refl _ _ _).setCell (Nat.le_refl _) (Nat.lt_succ_self _) u) (.inr hp)
theorem LWd.known {B m base top : Nat} {W : World} {A : Option Addr} {n cap : Nat} {xs : List ByteArray} (h : LWd base top W A n cap xs) (hcu : Cu W B m) (hm : m ≤ 900000) (hB : B < base) :
    Calls Tryd.prog 77 #[.pointer (some ⟨B, 0, none⟩), .slice A n cap] W fun e w' => ∃ y : ByteArray, e = .returned (.string y) ∧ sh20 y = true ∧ Cu w' B (m + 3) ∧ W.grownBy w' (some B) :=
  C_known B m base A n cap xs W hcu hm h.1 hB h.2.1 h.2.2.1 h.2.2.2.1
theorem LT.lwd {B m : Nat} {w W : World} {A : Option Addr} {n cap : Nat} {xs : List ByteArray} (h : LT B m w W (.slice A n cap) xs) (hn : xs.length = n) (hx : n ≤ 13) : LWd w.heap.size W.heap.size W A n cap xs :=
  ⟨h.ot, hn, hx, h.sz, fun q hq => (World.ownsRow.lt h.ot q hq).2⟩
/-- Two ways that meet: a text is put into the clue, or none. -/
def MeetC (B m g0 gx base top : Nat) (A : Option Addr) (n cap : Nat) (xs : List ByteArray) (w W : World) (a b : Int) : Prop := ∃ s t, CB B m g0 gx w W a b s t ∧ LWd base top W A n cap xs ∧ sh20 s = true ∧ sh20 t = true
end Go.Proofs.YtnhkejbgcjebmaaDoor
