/- Parts with a sign between them: the program. No condition but those stated. -/
import Derived.Test.YtjmfkenhnfdbjaaGreatDoorQyH
import Derived.Deep.RegionHeld3
import Derived.Deep.RegionLaw
import Derived.Deep.DrawnRows
namespace Go.Proofs.YtjmfkenhnfdbjaaGreatDoor
set_option linter.unusedVariables false
set_option linter.unusedSimpArgs false
open Go.RowKit Go.Sort
theorem TR.bnd {w : World} {D : Nat → Prop} : ∀ (q : Qy) (x : Tq), TR w D q x → TR w (fun g => D g ∧ g < w.heap.size) q x := by
  intro q
  induction q with
  | test c n => intro x h; exact h
  | neg q ih =>
    intro x h
    obtain ⟨g, k, y, e, h1, h2, h3, h6⟩ := h
    exact ⟨g, k, y, e, ⟨h1, h2⟩, h2, h3, ih y h6⟩
  | seq o m f ih =>
    intro x h
    obtain ⟨g, k, e, h1, h2, h3, h4, h5⟩ := h
    refine ⟨g, k, e, ⟨h1, h2⟩, h2, h3, h4, fun j hj => ?_⟩
    obtain ⟨y, h6, h7⟩ := h5 j hj
    exact ⟨y, h6, ih j y h7⟩
theorem Chg.drewQ {lo hi : Nat} {a b : World} (h : Chg lo hi a b) : Chg lo hi a b.drew := h.trans (Chg.of_below (Below.refl _ _).drew)
theorem Chg.allocQ {lo hi : Nat} {a b : World} (h : Chg lo hi a b) (o : Obj) : Chg lo hi a (b.alloc o) := h.trans (Chg.of_below ((Below.refl _ _).alloc (Nat.le_refl _) o))
theorem RQ.allocQ {w : World} {r : Nat} {c n : Int} {ps : Value} (h : RQ w r c n ps) (o : Obj) : RQ (w.alloc o) r c n ps := h.below ((Below.refl _ _).alloc (Nat.le_refl _) o)
theorem RQ.drewQ {w : World} {r : Nat} {c n : Int} {ps : Value} (h : RQ w r c n ps) : RQ w.drew r c n ps := h.below (Below.refl _ _).drew
/-- What the parser stands at when a part begins. -/
structure Pre (P : Nat) (s : ByteArray) (a : Nat) (op mo : Int) (w : World) : Prop where
  ps : PS w P s a false op mo
  pk : PkB P w
  op0 : 0 ≤ op
  opa : op ≤ a
  opm : op ≤ mo
  mos : mo ≤ s.size
  as_ : a ≤ s.size
theorem Pre.below {P : Nat} {s : ByteArray} {a : Nat} {op mo : Int} {w w' : World} (hb : Below w.heap.size w w') (h : Pre P s a op mo w) : Pre P s a op mo w' :=
  ⟨h.ps.below hb, h.pk.chg (Chg.of_below hb), h.op0, h.opa, h.opm, h.mos, h.as_⟩
/-- What a part leaves. -/
def Res (P : Nat) (s : ByteArray) (part : Nat → Option Out) (a : Nat) (op mo : Int) (w w' : World) (x : Tq) : Prop :=
  Chg P (P + 1) w w' ∧
  ((∃ o, part a = some o ∧ TR w' (fun g => w.heap.size ≤ g) o.q x ∧ PS w' P s o.e false op (max mo (op + o.d)) ∧ a < o.e ∧ o.e ≤ s.size ∧ a + o.d ≤ o.e) ∨
   (part a = none ∧ ∃ (a' : Nat) (mo' : Int), a ≤ a' ∧ a' ≤ s.size ∧ mo ≤ mo' ∧ mo' ≤ s.size ∧ PS w' P s a' true op mo'))
/-- What the reading of parts keeps. -/
structure JW (P r rq : Nat) (sgn : Int) (w W : World) (v : Value) (l : List Tq) (L : List Qy) : Prop where
  rrs : RQ W r 0 0 (.slice none 0 0)
  rqs : RQ W rq sgn 0 v
  ql : QL w.heap.size W v l
  ch : Chg P (P + 1) w W
  hr : w.heap.size ≤ r
  hq : w.heap.size ≤ rq
  hp : P < w.heap.size
  hn : r ≠ rq
  nb : ∀ k, v.ownBlock = some k → k ≠ r ∧ k ≠ rq
  ll : L.length = l.length
  tr : ∀ j, j < l.length → TR W (fun g => w.heap.size ≤ g ∧ g < W.heap.size ∧ g ≠ r ∧ g ≠ rq ∧ v.ownBlock ≠ some g) (atQ L j) (atTq l j)
theorem JW.chg {P r rq : Nat} {sgn : Int} {w W W' : World} {v : Value} {l : List Tq} {L : List Qy} (h : JW P r rq sgn w W v l L) (hc : Chg P (P + 1) W W') : JW P r rq sgn w W' v l L where
  rrs := h.rrs.chg hc (.inr (by have := h.hr; have := h.hp; omega))
  rqs := h.rqs.chg hc (.inr (by have := h.hq; have := h.hp; omega))
  ql := h.ql.chg hc (by have := h.hp; omega)
  ch := h.ch.trans hc
  hr := h.hr
  hq := h.hq
  hp := h.hp
  hn := h.hn
  nb := h.nb
  ll := h.ll
  tr := fun j hj => TR.mono (fun g hg => ⟨hg.1, Nat.lt_of_lt_of_le hg.2.1 hc.size, hg.2.2⟩) _ _ (TR.frame (fun g hg hl => hc.block g hl (.inr (by have := h.hp; have := hg.1; omega))) hc.size _ _ (h.tr j hj))
/-- One part more: appended, and the new slice stored. -/
theorem JW.app {P r rq : Nat} {sgn : Int} {w W W1 W2 : World} {v v' : Value} {l : List Tq} {L : List Qy} {x : Tq} {q : Qy} (h : JW P r rq sgn w W v l L) (hb : Below W.heap.size W W1)
    (ho : QL w.heap.size W2 v' (l ++ [x])) (hg : W1.grownBy W2 v.ownBlock) (hx : v'.ownBlock = v.ownBlock ∨ v'.ownBlock = some W1.heap.size) (hl0 : 0 < l.length)
    (ht : TR W (fun g => w.heap.size ≤ g ∧ g < W.heap.size ∧ g ≠ r ∧ g ≠ rq ∧ v.ownBlock ≠ some g) q x) : JW P r rq sgn w (W2.setCell ⟨rq, 2, none⟩ v') v' (l ++ [x]) (L ++ [q]) := by
  have h1 := h.hr
  have h2 := h.hq
  have h3 := h.hp
  have hz := hb.size
  have hz2 := hg.size
  have hbl : ∀ g, g < W.heap.size → v.ownBlock ≠ some g → W2.heap[g]? = W.heap[g]? := fun g hg1 hg2 => (hg.block g (Nat.lt_of_lt_of_le hg1 hz) (fun e => hg2 e.symm)).trans (hb.block g hg1)
  have hrl := h.rrs.lt
  have hql := h.rqs.lt
  have hnr : v.ownBlock ≠ some r := fun e => (h.nb r e).1 rfl
  have hnq : v.ownBlock ≠ some rq := fun e => (h.nb rq e).2 rfl
  have hnew : ∀ k, v'.ownBlock = some k → k ≠ r ∧ k ≠ rq := fun k hk => by
    rcases hx with e | e
    · rw [e] at hk; exact h.nb k hk
    · rw [e] at hk; injection hk with hk; omega
  have hnew2 : ∀ g, g < W.heap.size → v.ownBlock ≠ some g → v'.ownBlock ≠ some g := fun g hg1 hg2 => by
    rcases hx with e | e
    · rw [e]; exact hg2
    · rw [e]; intro e2; injection e2 with e2; omega
  have hst : ∀ g, g ≠ rq → (W2.setCell ⟨rq, 2, none⟩ v').heap[g]? = W2.heap[g]? := fun g hg1 => heap_setCell_other W2 ⟨rq, 2, none⟩ g v' hg1
  have hss : (W2.setCell ⟨rq, 2, none⟩ v').heap.size = W2.heap.size := by simp [World.setCell]
  have rr2 : RQ W2 r 0 0 (.slice none 0 0) := World.rowIs.of_block h.rrs (hbl r hrl hnr)
  have rq2 : RQ W2 rq sgn 0 v := World.rowIs.of_block h.rqs (hbl rq hql hnq)
  have ch2 : Chg P (P + 1) w W2 := by
    have hc1 := h.ch.trans (Chg.of_below hb)
    have h5 := h.ql.lt
    exact ⟨hg.os.trans hc1.os, hg.tape.trans hc1.tape, hg.output.trans hc1.output, Nat.le_trans hc1.size hg.size, fun k hk hr => (hg.block k (Nat.lt_of_lt_of_le hk hc1.size) (fun e => by have := (h5 k e.symm).1; omega)).trans (hc1.block k hk hr)⟩
  refine ⟨World.rowIs.setOther rr2 (a := ⟨rq, 2, none⟩) (by simp; exact fun e => h.hn e) _, ?_, ho.ofB (fun g hg1 => hst g (hnew g hg1).2), ch2.setFresh (p := ⟨rq, 2, none⟩) h2 _, h1, h2, h3, h.hn, hnew, by rw [List.length_append, List.length_append, h.ll]; rfl, fun j hj => ?_⟩
  · exact World.rowIs.congr (World.rowIs.set rq2 2 _) fun i hi => by
      match i, hi with
      | 0, _ => rfl
      | 1, _ => rfl
      | 2, _ => rfl
  · have hfr : ∀ (q' : Qy) (y : Tq), TR W (fun g => w.heap.size ≤ g ∧ g < W.heap.size ∧ g ≠ r ∧ g ≠ rq ∧ v.ownBlock ≠ some g) q' y → TR (W2.setCell ⟨rq, 2, none⟩ v') (fun g => w.heap.size ≤ g ∧ g < (W2.setCell ⟨rq, 2, none⟩ v').heap.size ∧ g ≠ r ∧ g ≠ rq ∧ v'.ownBlock ≠ some g) q' y := fun q' y hy =>
      TR.mono (fun g hg => ⟨hg.1, by rw [hss]; omega, hg.2.2.1, hg.2.2.2.1, hnew2 g hg.2.1 hg.2.2.2.2⟩) _ _ (TR.frame (fun g hg hl => (hst g hg.2.2.2.1).trans (hbl g hl hg.2.2.2.2)) (by rw [hss]; omega) _ _ hy)
    rw [List.length_append, List.length_singleton] at hj
    by_cases e : j < l.length
    · have e1 : atQ (L ++ [q]) j = atQ L j := by unfold atQ; rw [List.getD_eq_getElem?_getD, List.getD_eq_getElem?_getD, List.getElem?_append_left (by rw [h.ll]; exact e)]
      rw [e1, atTq_left e]
      exact hfr _ _ (h.tr j e)
    · have e2 : j = l.length := by omega
      have e1 : atQ (L ++ [q]) j = q := by unfold atQ; rw [List.getD_eq_getElem?_getD, List.getElem?_append_right (by rw [h.ll]; omega), h.ll, e2, Nat.sub_self]; rfl
      have e3 : atTq (l ++ [x]) j = x := by rw [atTq_right (by omega), e2, Nat.sub_self]; rfl
      rw [e1, e3]
      exact hfr _ _ ht
/-- What else stands behind an appending. -/
theorem JW.app0 {P r rq : Nat} {sgn : Int} {w W W1 W2 : World} {v v' : Value} {l l' : List Tq} {L : List Qy} (h : JW P r rq sgn w W v l L) (hb : Below W.heap.size W W1)
    (ho : QL w.heap.size W2 v' l') (hg : W1.grownBy W2 v.ownBlock) :
    RQ (W2.setCell ⟨rq, 2, none⟩ v') r 0 0 (.slice none 0 0) ∧ RQ (W2.setCell ⟨rq, 2, none⟩ v') rq sgn 0 v' ∧ Chg P (P + 1) w (W2.setCell ⟨rq, 2, none⟩ v') ∧
      ∀ s a bad op mo, PS W P s a bad op mo → PS (W2.setCell ⟨rq, 2, none⟩ v') P s a bad op mo := by
  have h1 := h.hr
  have h2 := h.hq
  have h3 := h.hp
  have hz := hb.size
  have hbl : ∀ g, g < W.heap.size → v.ownBlock ≠ some g → W2.heap[g]? = W.heap[g]? := fun g hg1 hg2 => (hg.block g (Nat.lt_of_lt_of_le hg1 hz) (fun e => hg2 e.symm)).trans (hb.block g hg1)
  have hnr : v.ownBlock ≠ some r := fun e => (h.nb r e).1 rfl
  have hnq : v.ownBlock ≠ some rq := fun e => (h.nb rq e).2 rfl
  have hnp : v.ownBlock ≠ some P := fun e => by have := (h.ql.lt P e).1; omega
  have rr2 : RQ W2 r 0 0 (.slice none 0 0) := World.rowIs.of_block h.rrs (hbl r h.rrs.lt hnr)
  have rq2 : RQ W2 rq sgn 0 v := World.rowIs.of_block h.rqs (hbl rq h.rqs.lt hnq)
  have ch2 : Chg P (P + 1) w W2 := by
    have hc1 := h.ch.trans (Chg.of_below hb)
    have h5 := h.ql.lt
    exact ⟨hg.os.trans hc1.os, hg.tape.trans hc1.tape, hg.output.trans hc1.output, Nat.le_trans hc1.size hg.size, fun k hk hr => (hg.block k (Nat.lt_of_lt_of_le hk hc1.size) (fun e => by have := (h5 k e.symm).1; omega)).trans (hc1.block k hk hr)⟩
  refine ⟨World.rowIs.setOther rr2 (a := ⟨rq, 2, none⟩) (by simp; exact fun e => h.hn e) _, ?_, ch2.setFresh (p := ⟨rq, 2, none⟩) h2 _, fun s a bad op mo hp => ?_⟩
  · exact World.rowIs.congr (World.rowIs.set rq2 2 _) fun i hi => by
      match i, hi with
      | 0, _ => rfl
      | 1, _ => rfl
      | 2, _ => rfl
  · exact World.rowIs.setOther (World.rowIs.of_block hp (hbl P hp.lt hnp)) (a := ⟨rq, 2, none⟩) (by simp; omega) _
theorem JW.fin {P r rq : Nat} {sgn : Int} {w W : World} {A : Option Addr} {m k : Nat} {l : List Tq} {L : List Qy} (h : JW P r rq sgn w W (.slice A m k) l L) (h0 : 0 < l.length) (or_ : Bool) (hs : sgn = if or_ then 124 else 38) :
    Chg P (P + 1) w (((W.setCell ⟨r, 0, none⟩ (.int .u8 sgn)).setCell ⟨r, 1, none⟩ (.int .i64 0)).setCell ⟨r, 2, none⟩ (.slice A m k)) ∧
    TR (((W.setCell ⟨r, 0, none⟩ (.int .u8 sgn)).setCell ⟨r, 1, none⟩ (.int .i64 0)).setCell ⟨r, 2, none⟩ (.slice A m k)) (fun g => w.heap.size ≤ g) (.seq or_ L.length (atQ L)) ⟨sgn, 0, A, m, k⟩ := by
  have h1 := h.hr
  refine ⟨((h.ch.setFresh (p := ⟨r, 0, none⟩) h1 _).setFresh (p := ⟨r, 1, none⟩) h1 _).setFresh (p := ⟨r, 2, none⟩) h1 _, ?_⟩
  have hfr : ∀ (q' : Qy) (y : Tq) (D : Nat → Prop), (∀ g, D g → g ≠ r) → TR W D q' y → TR (((W.setCell ⟨r, 0, none⟩ (.int .u8 sgn)).setCell ⟨r, 1, none⟩ (.int .i64 0)).setCell ⟨r, 2, none⟩ (.slice A m k)) D q' y := fun q' y D hD hy =>
    TR.frame (fun g hg hl => by
      rw [heap_setCell_other _ ⟨r, 2, none⟩ g _ (hD g hg), heap_setCell_other _ ⟨r, 1, none⟩ g _ (hD g hg), heap_setCell_other _ ⟨r, 0, none⟩ g _ (hD g hg)]) (by simp [World.setCell]) _ _ hy
  obtain ⟨g, cap, e, hb, hg, hn, hc⟩ := h.ql.formG h0
  injection e with e1 e2 e3
  subst e1 e2 e3
  have hgr : g ≠ r := (h.nb g rfl).1
  refine TR.mono (D := fun g => w.heap.size ≤ g ∧ g ≠ r) (fun g hg => hg.1) _ _ (hfr _ _ _ (fun g hg => hg.2) ?_)
  refine ⟨g, k, by rw [hs, h.ll], ⟨hb, hgr⟩, hg, by rw [h.ll]; exact hn, hc, fun j hj => ?_⟩
  rw [h.ll] at hj
  refine ⟨atTq l j, ⟨h.ql.cell hj (m := 0) (by omega), h.ql.cell hj (m := 1) (by omega), h.ql.cell hj (m := 2) (by omega)⟩, TR.mono (fun g hg => ⟨hg.1, hg.2.2.1⟩) _ _ (h.tr j hj)⟩
def outJ (or_ : Bool) : Option (List Qy × Nat × Nat) → Option Out
  | none => none
  | some p => some ⟨.seq or_ p.1.length (atQ p.1), p.2.1, p.2.2⟩
theorem pJ_some {z : Nat} {b : Nat → Nat} {part : Nat → Option Out} {sgn a : Nat} {or_ : Bool} {o : Out} (h : part a = some o) : pJ z b part sgn or_ a = outJ or_ (loopQ z b part sgn (z + 1) [o.q] o.d o.e) := by
  unfold pJ outJ
  rw [h]
  simp only
  cases loopQ z b part sgn (z + 1) [o.q] o.d o.e <;> rfl
theorem pJ_no {z : Nat} {b : Nat → Nat} {part : Nat → Option Out} {sgn a : Nat} {or_ : Bool} (h : part a = none) : pJ z b part sgn or_ a = none := by
  unfold pJ
  rw [h]
/-- What a reading of parts that has gone wrong keeps. -/
structure JF (P r rq : Nat) (sgn : Int) (s : ByteArray) (a : Nat) (op mo : Int) (w W : World) (v : Value) : Prop where
  rrs : RQ W r 0 0 (.slice none 0 0)
  rqs : RQ W rq sgn 0 v
  ch : Chg P (P + 1) w W
  hr : w.heap.size ≤ r
  hp : P < w.heap.size
  ps : ∃ (a' : Nat) (mo' : Int), a ≤ a' ∧ a' ≤ s.size ∧ mo ≤ mo' ∧ mo' ≤ s.size ∧ PS W P s a' true op mo'
  sl : ∃ A m k, v = .slice A m k
theorem JF.fin {P r rq : Nat} {sgn : Int} {s : ByteArray} {a : Nat} {op mo : Int} {w W : World} {v : Value} (h : JF P r rq sgn s a op mo w W v) :
    Chg P (P + 1) w (((W.setCell ⟨r, 0, none⟩ (.int .u8 sgn)).setCell ⟨r, 1, none⟩ (.int .i64 0)).setCell ⟨r, 2, none⟩ v) :=
  ((h.ch.setFresh (p := ⟨r, 0, none⟩) h.hr _).setFresh (p := ⟨r, 1, none⟩) h.hr _).setFresh (p := ⟨r, 2, none⟩) h.hr _
theorem PS.farQ {w : World} {P : Nat} {s : ByteArray} {a : Nat} {bad : Bool} {op mo : Int} (h : PS w P s a bad op mo) {r : Nat} (hr : P ≠ r) (c n : Value) (ps : Value) :
    PS (((w.setCell ⟨r, 0, none⟩ c).setCell ⟨r, 1, none⟩ n).setCell ⟨r, 2, none⟩ ps) P s a bad op mo :=
  World.rowIs.setOther (World.rowIs.setOther (World.rowIs.setOther h (a := ⟨r, 0, none⟩) (by simp; omega) _) (a := ⟨r, 1, none⟩) (by simp; omega) _) (a := ⟨r, 2, none⟩) (by simp; omega) _
theorem res_slice {w : World} {ps : Value} {l : List Tq} {base : Nat} (h : QL base w ps l) : ∃ A m k, ps = .slice A m k := by
  obtain ⟨A, k, e⟩ := h.form
  exact ⟨A, _, k, e⟩
set_option maxRecDepth 100000 in
set_option maxHeartbeats 8000000 in
theorem C_joinedF (P : Nat) (s : ByteArray) (num : Nat → Option (Int × Nat)) (K : Nat) (hs : s.size ≤ 1048576) (a : Nat) (op mo : Int)
    (HP : ∀ a op mo w, s.size < K + a → Pre P s a op mo w → Calls Tryz.prog 95 #[.pointer (some ⟨P, 0, none⟩)] w fun e w' => ∃ x : Tq, e = .returned (.agg #[.int .u8 (x).c, .int .i64 (x).n, .slice (x).A (x).m (x).k]) ∧ Res P s (pFac s.size (bN s) num K) a op mo w w' x)
    (w : World) (hK : s.size < K + a) (h : Pre P s a op mo w) :
    Calls Tryz.prog 83 #[.pointer (some ⟨P, 0, none⟩), .int .u8 38, .func (.func 95) #[.pointer (some ⟨P, 0, none⟩)] #[]] w fun e w' => ∃ x : Tq, e = .returned (.agg #[.int .u8 (x).c, .int .i64 (x).n, .slice (x).A (x).m (x).k]) ∧ Res P s (pJ s.size (bN s) (pFac s.size (bN s) num K) 38 false) a op mo w w' x := by
  have HPRE := Lib.hid h
  have HPART := Lib.hid HP
  obtain ⟨r, hr⟩ : ∃ r, r = w.heap.size := ⟨_, rfl⟩
  obtain ⟨w1, hw1⟩ : ∃ ww, ww = w.alloc (.cells #[.int .u8 0, .int .i64 0, .slice none 0 0] 61) := ⟨_, rfl⟩
  have R1 : RQ w1 r 0 0 (.slice none 0 0) := by rw [hw1, hr]; exact RQ.new w
  have B1 : Below w.heap.size w w1 := by rw [hw1]; exact (Below.refl _ _).alloc (Nat.le_refl _) _
  have Z1 : w1.heap.size = w.heap.size + 1 := by rw [hw1]; simp
  have HW := Lib.hid hw1.symm
  have HR := Lib.hid hr
  have PW := h.ps.lt
  clear h HP hw1 hr
  go_enter Tryz.func83, Tryz.ntmps83
  go_wp2_with fail
  rw [HW.out, ← HR.out]
  refine (HPART.out a op mo _ hK (HPRE.out.below B1)).mono ?_; rintro e w2 ⟨x, rfl, hch, hres⟩
  have R2 := Lib.hid (R1.chg hch (.inr (by rw [HR.out]; omega)))
  have HRES := Lib.hid hres
  have HCH := Lib.hid ((Chg.of_below B1).trans hch)
  have hz2 := hch.size
  clear HW R1 hres hch
  obtain ⟨rq, hrq⟩ : ∃ rq, rq = w2.heap.size + 1 := ⟨_, rfl⟩
  obtain ⟨w3, hw3⟩ : ∃ ww, ww = (w2.alloc (.cells #[.int .u8 (x).c, .int .i64 (x).n, .slice (x).A (x).m (x).k] 61)).alloc (.cells #[.int .u8 38, .int .i64 0, .slice (some ⟨w2.heap.size, 0, none⟩) 1 1] 61) := ⟨_, rfl⟩
  have B3 : Below w2.heap.size w2 w3 := by rw [hw3]; (repeat (first | with_reducible exact Below.refl _ _ | with_reducible exact below_regrown _ _ _ | with_reducible refine bel_step0 (by assumption) ?_ | with_reducible refine bel_alloc0 ?_ _ | with_reducible refine bel_regrown0 ?_ _ _ | with_reducible refine bel_regrown ?_ (by first | omega | (simp; done) | (simp; omega)) _ _ | with_reducible refine below_drewN ?_ _ | with_reducible refine Below.drew ?_ | with_reducible refine Below.alloc ?_ (by first | omega | (simp; done) | (simp; omega)) _ | with_reducible refine Below.setCell ?_ (by first | omega | (simp; done) | (simp; omega)) _ | with_reducible refine bel_step (by assumption) (by first | omega | (simp; done) | (simp; omega)) ?_ | with_reducible refine bel_grown (by assumption) (by first | omega | (simp; done) | (simp; omega)) (by first | omega | (simp; done) | (simp; omega)) ?_))
  have Q3 : RQ w3 rq 38 0 (.slice (some ⟨w2.heap.size, 0, none⟩) 1 1) := by
    rw [hw3, hrq]
    have := World.rowIs_alloc (w2.alloc (.cells #[.int .u8 (x).c, .int .i64 (x).n, .slice (x).A (x).m (x).k] 61)) #[.int .u8 38, .int .i64 0, .slice (some ⟨w2.heap.size, 0, none⟩) 1 1] 61 (cQ 38 0 (.slice (some ⟨w2.heap.size, 0, none⟩) 1 1)) (fun i hi => by
      match i, hi with
      | 0, _ => rfl
      | 1, _ => rfl
      | 2, _ => rfl
      | n + 3, h => exact absurd h (by simp))
    rw [World.size_alloc] at this
    exact this
  have L3 : QL w.heap.size w3 (.slice (some ⟨w2.heap.size, 0, none⟩) 1 1) [x] := by
    rw [hw3]
    have : QL w.heap.size (w2.alloc (.cells #[.int .u8 (x).c, .int .i64 (x).n, .slice (x).A (x).m (x).k] 61)) (.slice (some ⟨w2.heap.size, 0, none⟩) 1 1) [x] :=
      ⟨rfl, .inr ⟨w2.heap.size, 1, #[.int .u8 x.c, .int .i64 x.n, .slice x.A x.m x.k], rfl, by omega, heap_alloc_new _ _, Nat.le_refl _, by decide, rfl, rfl⟩⟩
    exact QL.below ((Below.refl _ _).alloc (Nat.le_refl _) _) this
  have HW3 := Lib.hid hw3.symm
  have HRQ := Lib.hid hrq.symm
  clear hw3 hrq
  go_wp2
  rw [HW3.out, HRQ.out]
  rcases HRES.out with ⟨o, ho, htr, hps, ho1, ho2, ho3⟩ | ⟨hno, hps⟩
  · have hsz3 : w3.heap.size = w2.heap.size + 2 := by rw [← HW3.out]; simp
    have J3 : JW P r rq 38 w w3 (.slice (some ⟨w2.heap.size, 0, none⟩) 1 1) [x] [o.q] := by
      have hr1 := HR.out
      have hrq1 := HRQ.out
      refine ⟨R2.out.below B3, Q3, L3, HCH.out.trans (Chg.of_below B3), by omega, by omega, PW, by omega, fun k hk => ?_, rfl, fun j hj => ?_⟩
      · have : w2.heap.size = k := by simpa [Value.ownBlock] using hk
        omega
      · obtain rfl : j = 0 := by simpa using hj
        refine TR.mono (fun g hg => ?_) _ _ (TR.frame (fun g hg hl => B3.block g hl) B3.size _ _ (TR.bnd _ _ htr))
        obtain ⟨hg1, hg2⟩ := hg
        refine ⟨by omega, by omega, by omega, by omega, ?_⟩
        simp [Value.ownBlock]; omega
    have hp3 := hps.below B3
    obtain ⟨RES, hRES⟩ : ∃ z, loopQ s.size (bN s) (pFac s.size (bN s) num K) 38 (s.size + 1) [o.q] o.d o.e = z := ⟨_, rfl⟩
    have HPJ := Lib.hid (show pJ s.size (bN s) (pFac s.size (bN s) num K) 38 false a = outJ false RES by rw [pJ_some ho, hRES])
    have HPK := Lib.hid HPRE.out.pk
    have op0 := HPRE.out.op0
    have opa := HPRE.out.opa
    have opm := HPRE.out.opm
    have mos := HPRE.out.mos
    have J3 := Lib.hid J3
    have P3 := Lib.hid hp3
    clear HW3 htr hps hp3 L3 Q3 B3 R2 HCH HRES ho hsz3
    go_loopw [] (fun wr => ∃ v, (∃ (l : List Tq) (L : List Qy) (d e k : Nat), JW P r rq 38 w wr v l L ∧ 0 < l.length ∧ l.length ≤ e ∧ PS wr P s e false op (max mo (op + d)) ∧ a < e ∧ e ≤ s.size ∧ a + d ≤ e ∧ s.size < k + e ∧ loopQ s.size (bN s) (pFac s.size (bN s) num K) 38 k L d e = RES) ∨
      (JF P r rq 38 s a op mo w wr v ∧ pJ s.size (bN s) (pFac s.size (bN s) num K) 38 false a = none)) (fun wr => s.size + 1 - atP P wr)
    case atStart => exact ⟨_, .inl ⟨[x], [o.q], o.d, o.e, s.size + 1, J3.out, by simp, by simp; omega, P3.out, ho1, ho2, ho3, by omega, hRES⟩⟩
    case round =>
      clear J3 P3 ho1 ho2 ho3 hRES
      obtain ⟨v, ⟨l, L, d, e, k, hJ, hl0, hle, hP, he1, he2, he3, hke, hL⟩ | ⟨hF, hno⟩⟩ := hrel
      · have c2 := hP.c2
        have HJ := Lib.hid hJ
        have HPS := Lib.hid hP
        have HL := Lib.hid hL
        have HAT := Lib.hid hP.at_
        clear hJ hP hL
        go_wp2_with fail
        refine (C_sees P s e 38 false op _ _ HPS.out hs he2).mono ?_; rintro e' w4 ⟨rfl, hp4, hc4⟩
        have J4 := Lib.hid (HJ.out.chg hc4)
        clear HJ HPS c2
        cases hh : hitB s e 38
        · rw [hh] at hp4
          have hk1 : ∃ k', k = k' + 1 := ⟨k - 1, by omega⟩
          obtain ⟨k', rfl⟩ := hk1
          have hst : RES = some (L, d, e) := by
            rw [← HL.out]
            refine loopQ_stop fun h => ?_
            have : hitB s e 38 = true := by unfold hitB; rw [decide_eq_true h.1, decide_eq_true h.2]; rfl
            rw [hh] at this; cases this
          have HST := Lib.hid (show pJ s.size (bN s) (pFac s.size (bN s) num K) 38 false a = some ⟨.seq false L.length (atQ L), d, e⟩ by rw [HPJ.out, hst]; rfl)
          obtain ⟨g, cap, hv, hb, hg, hn, hc⟩ := J4.out.ql.formG hl0
          subst hv
          obtain ⟨x0, x1, x2, fx⟩ := J4.out.rqs.cells
          obtain ⟨y0, y1, y2, fy⟩ := J4.out.rrs.cells
          have v0 := fy 0; have v1 := fy 1; have v2 := fy 2
          have HP4 := Lib.hid hp4
          have HF := Lib.hid (J4.out.fin hl0 false rfl)
          have hPr : P ≠ r := by have := J4.out.hr; have := J4.out.hp; omega
          have HPR := Lib.hid hPr
          clear fx fy hst hh HL HPJ hp4 hPr hc4
          go_wp2
          go_light; refine bodyPost_ret (by simp (maxDischargeDepth := 3) [results, Tryz.results83, go_sem, *]; try rfl) rfl ?_
          exact ⟨⟨38, 0, some ⟨g, 0, none⟩, l.length, cap⟩, rfl, HF.out.1, .inl ⟨_, HST.out, HF.out.2, HP4.out.farQ HPR.out _ _ _, he1, he2, he3⟩⟩
        · rw [hh] at hp4
          have hlt : e < s.size := by unfold hitB at hh; rw [Bool.and_eq_true, decide_eq_true_eq] at hh; exact hh.1
          have hbe : bN s e = 38 := by unfold hitB at hh; rw [Bool.and_eq_true, decide_eq_true_eq, decide_eq_true_eq] at hh; exact hh.2
          have HHE := Lib.hid (And.intro hlt hbe)
          have HPR4 : Hid (Pre P s (e + 1) op (max mo (op + d)) w4) := Lib.hid ⟨hp4, HPK.out.chg J4.out.ch, op0, by omega, by omega, by omega, by omega⟩
          obtain ⟨g, cap, hv, hb, hg, hn, hc⟩ := J4.out.ql.formG hl0
          subst hv
          have r2 : ∀ W, RQ W rq 38 0 (.slice (some ⟨g, 0, none⟩) l.length cap) → W.cell? ⟨rq, 2, none⟩ = some (.slice (some ⟨g, 0, none⟩) l.length cap) := fun W hW => hW.cells.2.2.1
          have rq4 := J4.out.rqs
          have hgq : g ≠ rq := (J4.out.nb g rfl).2
          have HGQ := Lib.hid hgq
          have hzw : w.heap.size ≤ w4.heap.size := J4.out.ch.size
          have hqP : P + 1 ≤ rq := by have := J4.out.hq; omega
          have HQP := Lib.hid hqP
          have HLE := Lib.hid hle
          clear hp4 hc4 hh hlt hbe hgq hb hc hqP
          obtain ⟨_, _, z2, fz⟩ := rq4.cells
          have v2 := fz 2
          clear fz r2
          go_upto_region 3 with fail
          go_region_law (first | ((go_simp; refine (HPART.out (e + 1) op (max mo (op + d)) _ (by omega) (HPR4.out.below (by (repeat (first | with_reducible exact Below.refl _ _ | with_reducible exact below_regrown _ _ _ | with_reducible refine bel_step0 (by assumption) ?_ | with_reducible refine bel_alloc0 ?_ _ | with_reducible refine bel_regrown0 ?_ _ _ | with_reducible refine bel_regrown ?_ (by first | omega | (simp; done) | (simp; omega)) _ _ | with_reducible refine below_drewN ?_ _ | with_reducible refine Below.drew ?_ | with_reducible refine Below.alloc ?_ (by first | omega | (simp; done) | (simp; omega)) _ | with_reducible refine Below.setCell ?_ (by first | omega | (simp; done) | (simp; omega)) _ | with_reducible refine bel_step (by assumption) (by first | omega | (simp; done) | (simp; omega)) ?_ | with_reducible refine bel_grown (by assumption) (by first | omega | (simp; done) | (simp; omega)) (by first | omega | (simp; done) | (simp; omega)) ?_))))).mono ?_; rintro e5 w5 ⟨y, rfl, hc5, hres5⟩; have hc45 : Chg P (P + 1) w4 w5 := Chg.trans (by (repeat (first | with_reducible assumption | with_reducible exact Chg.refl _ _ _ | with_reducible refine Chg.drewQ ?_ | with_reducible refine Chg.allocQ ?_ _))) hc5; have J5 := Lib.hid (J4.out.chg hc45); have rq5 := J5.out.rqs; clear z2 v2; obtain ⟨_, _, z2, fz⟩ := rq5.cells; have v2 := fz 2; clear fz; have za := (rq5.allocQ (.cells #[.int .u8 (y).c, .int .i64 (y).n, .slice (y).A (y).m (y).k] 61)).cells.2.2.1; have HRES5 := Lib.hid hres5; have HC45 := Lib.hid hc45; have hz5 : w.heap.size ≤ w5.heap.size := Nat.le_trans hzw hc45.size; clear hc5 hres5 hc45)) | ((refine step_appQ _ (by rfl) (.tmp 24) (.tmp 27) (by rfl) w.heap.size _ l (by rfl) (J5.out.ql.below (by (repeat (first | with_reducible exact Below.refl _ _ | with_reducible exact below_regrown _ _ _ | with_reducible refine bel_step0 (by assumption) ?_ | with_reducible refine bel_alloc0 ?_ _ | with_reducible refine bel_regrown0 ?_ _ _ | with_reducible refine bel_regrown ?_ (by first | omega | (simp; done) | (simp; omega)) _ _ | with_reducible refine below_drewN ?_ _ | with_reducible refine Below.drew ?_ | with_reducible refine Below.alloc ?_ (by first | omega | (simp; done) | (simp; omega)) _ | with_reducible refine Below.setCell ?_ (by first | omega | (simp; done) | (simp; omega)) _ | with_reducible refine bel_step (by assumption) (by first | omega | (simp; done) | (simp; omega)) ?_ | with_reducible refine bel_grown (by assumption) (by first | omega | (simp; done) | (simp; omega)) (by first | omega | (simp; done) | (simp; omega)) ?_)))) (by simp; omega) w5.heap.size y (by rfl) (by simp) (cell_new _ _ _ _ _ rfl) (cell_new _ _ _ _ _ rfl) (cell_new _ _ _ _ _ rfl) (by have := HLE.out; omega) ?_; intro v6 w6 ho6 hg6 hx6; obtain ⟨A6, m6, k6, rfl⟩ := res_slice ho6; have rq6 : RQ w6 rq 38 0 (.slice (some ⟨g, 0, none⟩) l.length cap) := World.rowIs.of_block rq5 ((hg6.block rq (by have := rq5.lt; simp; omega) (by simp [Value.ownBlock]; exact HGQ.out.symm)).trans (Below.block (by (repeat (first | with_reducible exact Below.refl _ _ | with_reducible exact below_regrown _ _ _ | with_reducible refine bel_step0 (by assumption) ?_ | with_reducible refine bel_alloc0 ?_ _ | with_reducible refine bel_regrown0 ?_ _ _ | with_reducible refine bel_regrown ?_ (by first | omega | (simp; done) | (simp; omega)) _ _ | with_reducible refine below_drewN ?_ _ | with_reducible refine Below.drew ?_ | with_reducible refine Below.alloc ?_ (by first | omega | (simp; done) | (simp; omega)) _ | with_reducible refine Below.setCell ?_ (by first | omega | (simp; done) | (simp; omega)) _ | with_reducible refine bel_step (by assumption) (by first | omega | (simp; done) | (simp; omega)) ?_ | with_reducible refine bel_grown (by assumption) (by first | omega | (simp; done) | (simp; omega)) (by first | omega | (simp; done) | (simp; omega)) ?_))) rq rq5.lt)); clear z2 v2; obtain ⟨_, _, z2, fz⟩ := rq6.cells; have v2 := fz 2; have H6 := Lib.hid (And.intro ho6 (And.intro hg6 hx6)); clear ho6 hg6 hx6 fz)))
          all_goals
            go_wp2
            have B51 : Below w5.heap.size w5 (w5.alloc (.cells #[.int .u8 (y).c, .int .i64 (y).n, .slice (y).A (y).m (y).k] 61)) := (Below.refl _ _).alloc (Nat.le_refl _) _
            have A0 := J5.out.app0 B51 H6.out.1 H6.out.2.1
            obtain ⟨k', rfl⟩ : ∃ k', k = k' + 1 := ⟨k - 1, by omega⟩
            have hrl := J4.out.rrs.lt
            have hql := J4.out.rqs.lt
            rcases HRES5.out with ⟨o5, ho5, htr5, hps5, q1, q2, q3⟩ | ⟨hno5, a5, mo5, q1, q2, q3, q4, hps5⟩
            · have hpf := A0.2.2.2 _ _ _ _ _ hps5
              have hjw := J5.out.app B51 H6.out.1 H6.out.2.1 H6.out.2.2 hl0 (q := o5.q) (TR.mono (fun g' hg' => by
                obtain ⟨hg1, hg2⟩ := hg'
                have hg3 : w4.heap.size ≤ g' := hg1
                exact ⟨by omega, hg2, by omega, by omega, by simp [Value.ownBlock]; omega⟩) _ _ (TR.bnd _ _ htr5))
              have hmx : max (max mo (op + d)) (op + o5.d) = max mo (op + ((max d o5.d : Nat) : Int)) := by omega
              rw [hmx] at hpf
              refine ⟨⟨_, .inl ⟨l ++ [y], L ++ [o5.q], max d o5.d, o5.e, k', hjw, by simp, by rw [List.length_append, List.length_singleton]; have := HLE.out; omega, hpf, by omega, q2, by omega, by omega, ?_⟩⟩, ?_⟩
              · rw [← HL.out, loopQ_some HHE.out ho5]
              · rw [hpf.at_, HAT.out]; have := HHE.out.1; omega
            · have hpf := A0.2.2.2 _ _ _ _ _ hps5
              refine ⟨⟨_, .inr ⟨⟨A0.1, A0.2.1, A0.2.2.1, J4.out.hr, J4.out.hp, ⟨a5, mo5, by omega, q2, by omega, q4, hpf⟩, _, _, _, rfl⟩, ?_⟩⟩, ?_⟩
              · rw [HPJ.out, ← HL.out, loopQ_none HHE.out hno5]; rfl
              · rw [hpf.at_, HAT.out]; have := HHE.out.1; omega
      · obtain ⟨a', mo', h1, h2, h3, h4, h5⟩ := hF.ps
        have c2 := h5.c2
        obtain ⟨x0, x1, x2, fx⟩ := hF.rqs.cells
        obtain ⟨y0, y1, y2, fy⟩ := hF.rrs.cells
        have v0 := fy 0; have v1 := fy 1; have v2 := fy 2
        have hF2 := hF.fin
        have HFF := Lib.hid (And.intro hno (And.intro hF2 (And.intro h5 hF)))
        obtain ⟨A, m, kk, hv⟩ := hF.sl
        subst hv
        clear fx fy hF2 h5
        go_wp2
        go_light; refine bodyPost_ret (by simp (maxDischargeDepth := 3) [results, Tryz.results83, go_sem, *]; try rfl) rfl ?_
        have hPr : P ≠ r := by have := HFF.out.2.2.2.hr; have := HFF.out.2.2.2.hp; omega
        exact ⟨⟨38, 0, A, m, kk⟩, rfl, HFF.out.2.1, .inr ⟨HFF.out.1, a', mo', h1, h2, h3, h4, HFF.out.2.2.1.farQ hPr _ _ _⟩⟩
  · have F3 : JF P r rq 38 s a op mo w w3 (.slice (some ⟨w2.heap.size, 0, none⟩) 1 1) :=
      ⟨R2.out.below B3, Q3, HCH.out.trans (Chg.of_below B3), by rw [HR.out]; exact Nat.le_refl _, PW, by
        obtain ⟨a', mo', h1, h2, h3, h4, h5⟩ := hps
        exact ⟨a', mo', h1, h2, h3, h4, h5.below B3⟩, _, _, _, rfl⟩
    have F3 := Lib.hid F3
    have HNO := Lib.hid (pJ_no (z := s.size) (b := bN s) (sgn := 38) (or_ := false) hno)
    clear HW3 hps L3 Q3 B3 R2 HCH HRES hno
    go_loopw [] (fun wr => JF P r rq 38 s a op mo w wr (.slice (some ⟨w2.heap.size, 0, none⟩) 1 1)) (fun wr => s.size + 1 - atP P wr)
    case atStart => exact F3.out
    case round =>
      clear F3
      have hno := HNO.out
      obtain ⟨a', mo', h1, h2, h3, h4, h5⟩ := hrel.ps
      have c2 := h5.c2
      obtain ⟨x0, x1, x2, fx⟩ := hrel.rqs.cells
      obtain ⟨y0, y1, y2, fy⟩ := hrel.rrs.cells
      have v0 := fy 0; have v1 := fy 1; have v2 := fy 2
      have hF2 := hrel.fin
      have HFF := Lib.hid (And.intro hno (And.intro hF2 (And.intro h5 hrel)))
      clear fx fy hF2 h5
      go_wp2
      go_light; refine bodyPost_ret (by simp (maxDischargeDepth := 3) [results, Tryz.results83, go_sem, *]; try rfl) rfl ?_
      have hPr : P ≠ r := by have := HFF.out.2.2.2.hr; have := HFF.out.2.2.2.hp; omega
      exact ⟨⟨38, 0, some ⟨w2.heap.size, 0, none⟩, 1, 1⟩, rfl, HFF.out.2.1, .inr ⟨HFF.out.1, a', mo', h1, h2, h3, h4, HFF.out.2.2.1.farQ hPr _ _ _⟩⟩
end Go.Proofs.YtjmfkenhnfdbjaaGreatDoor
