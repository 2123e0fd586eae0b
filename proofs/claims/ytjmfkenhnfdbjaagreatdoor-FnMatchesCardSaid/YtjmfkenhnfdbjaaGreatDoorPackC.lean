/- Texts of this claim in one: QzN, QzO, QzC, QzD, QzE, QzP. No condition but those stated. -/
import Derived.Test.YtjmfkenhnfdbjaaGreatDoorPackA
import Derived.Test.YtjmfkenhnfdbjaaGreatDoorQyX
import Derived.Test.YtjmfkenhnfdbjaaGreatDoorQyZ
import Derived.Test.YtjmfkenhnfdbjaaGreatDoorLkO
import Derived.Test.YtjmfkenhnfdbjaaGreatDoorIntsB
/- Lists of records that are drawn: words. No condition but those stated. -/
namespace Go.Proofs.YtjmfkenhnfdbjaaGreatDoor
set_option linter.unusedVariables false
set_option linter.unusedSimpArgs false
open Go.RowKit Go.Sort
/-- A record as drawn, and the slice of its events. -/
abbrev RdV := Rd × Value
def cells4 : List RdV → List Value
  | [] => []
  | x :: l => .int .i64 x.1.id :: .int .i64 x.1.ser :: .int .i64 x.1.made :: x.2 :: cells4 l
theorem cells4_append (l r : List RdV) : cells4 (l ++ r) = cells4 l ++ cells4 r := by
  induction l with
  | nil => rfl
  | cons x l ih => simp only [List.cons_append, cells4, ih]
def rd0 : RdV := (⟨0, 0, 0, []⟩, .slice none 0 0)
def atD (l : List RdV) (j : Nat) : RdV := l.getD j rd0
theorem atD_mem {l : List RdV} {j : Nat} (h : j < l.length) : atD l j ∈ l := by
  unfold atD; rw [List.getD_eq_getElem?_getD, List.getElem?_eq_getElem h]; exact List.getElem_mem _
theorem cells4_at {l : List RdV} {j : Nat} (hj : j < l.length) : (cells4 l)[j * 4]? = some (.int .i64 (atD l j).1.id) ∧ (cells4 l)[j * 4 + 1]? = some (.int .i64 (atD l j).1.ser) ∧ (cells4 l)[j * 4 + 2]? = some (.int .i64 (atD l j).1.made) ∧ (cells4 l)[j * 4 + 3]? = some (atD l j).2 := by
  induction l generalizing j with
  | nil => simp at hj
  | cons x l ih =>
    cases j with
    | zero => exact ⟨rfl, rfl, rfl, rfl⟩
    | succ j =>
      rw [show (j + 1) * 4 = j * 4 + 1 + 1 + 1 + 1 by omega]
      simp only [cells4, List.getElem?_cons_succ]
      exact ih (by simpa using hj)
/-- The slice is the records l, in a row of the call's own. -/
def HL (base : Nat) (w : World) (v : Value) (l : List RdV) : Prop := w.ownsRow base 26 4 v l.length (cells4 l)
theorem HL.form {base : Nat} {w : World} {v : Value} {l : List RdV} (h : HL base w v l) : ∃ A cap, v = .slice A l.length cap := by
  rcases h.2 with ⟨rfl, h0⟩ | ⟨g, cap, cur, rfl, _⟩
  · exact ⟨none, 0, by rw [h0]⟩
  · exact ⟨_, cap, rfl⟩
theorem info_recD : (Tryz.prog.info? 26).map (fun i => (i.zero, i.size, i.bytes)) = some (some (.agg #[.int .i64 0, .int .i64 0, .int .i64 0, .slice none 0 0]), 4, 48) := by kernel_rfl
theorem d_reads {w : World} {g : Nat} {x : Rd} {u : Value} (hl : g < w.heap.size) (h0 : w.cell? ⟨g, 0, none⟩ = some (.int .i64 x.id)) (h1 : w.cell? ⟨g, 1, none⟩ = some (.int .i64 x.ser)) (h2 : w.cell? ⟨g, 2, none⟩ = some (.int .i64 x.made)) (h3 : w.cell? ⟨g, 3, none⟩ = some u) : Reads w w.heap.size 4 (some ⟨g, 0, none⟩) 1 (cells4 [(x, u)]) :=
  ⟨rfl, fun _ => ⟨⟨g, 0, none⟩, rfl, hl, fun i u hu => by
    match i, hu with
    | 0, hu => simp [cells4] at hu; subst hu; exact h0
    | 1, hu => simp [cells4] at hu; subst hu; exact h1
    | 2, hu => simp [cells4] at hu; subst hu; exact h2
    | 3, hu => simp [cells4] at hu; subst hu; exact h3
    | i + 4, hu => simp [cells4] at hu⟩⟩
/-- One record appended. -/
theorem wp_appD (w : World) {ops : Array Oper} {rest : List Oper} {o : Oper} {a : Act} {Q : Exit → Act → World → Prop} (hgd : o.guard = none) (s x : Operand)
    (ho : o.op = .call { callee := .builtin .append, args := #[s, x], argTypes := #[41, 41] })
    (base : Nat) (v : Value) (l : List RdV) (hs : a.eval s = v) (hown : HL base w v l) (hbase : base ≤ w.heap.size) (g : Nat) (y : Rd) (A : Option Addr) (m c : Nat) (hx : a.eval x = .slice (some ⟨g, 0, none⟩) 1 1) (hl : g < w.heap.size)
    (h0 : w.cell? ⟨g, 0, none⟩ = some (.int .i64 y.id)) (h1 : w.cell? ⟨g, 1, none⟩ = some (.int .i64 y.ser)) (h2 : w.cell? ⟨g, 2, none⟩ = some (.int .i64 y.made)) (h3 : w.cell? ⟨g, 3, none⟩ = some (.slice A m c))
    (hlen : l.length + 1 ≤ 100000)
    (h : ∀ v' w', HL base w' v' (l ++ [(y, .slice A m c)]) → w.grownBy w' v.ownBlock → (v'.ownBlock = v.ownBlock ∨ v'.ownBlock = some w.heap.size) → wpList Tryz.prog ops Q rest (a.put o.dst v') w') : wpList Tryz.prog ops Q (o :: rest) a w := by
  obtain ⟨i0, hi, hz0, hz1, hz2⟩ := info_parts info_recD
  refine wpList_append_any w hgd s x 41 ho base 26 i0 _ 4 48 Tryz.underlying41 hi hz0 hz1 hz2 rfl (by omega) v l.length (cells4 l) hs hown w.heap.size (some ⟨g, 0, none⟩) 1 1 (cells4 [(y, .slice A m c)]) hx (d_reads hl h0 h1 h2 h3)
    (fun u hu => ?_) (by unfold maxLen; omega) (by omega) hbase (fun v' w' k1 k2 k3 => h v' w' ?_ k2 k3)
  · simp only [cells4, List.mem_cons, List.not_mem_nil, or_false] at hu
    rcases hu with rfl | rfl | rfl | rfl <;> rfl
  · unfold HL
    rw [List.length_append, cells4_append]; exact k1
/-- What the drawing of records keeps. -/
structure HS (B m : Nat) (w W : World) (v : Value) (l : List RdV) : Prop where
  cu : Cu W B m
  ch : Chg B (B + 1) w W
  row : HL w.heap.size W v l
  lt : B < w.heap.size
  evs : ∀ x ∈ l, EL w.heap.size W x.2 x.1.es ∧ ∀ g, x.2.ownBlock = some g → v.ownBlock ≠ some g
section
variable {B m m' : Nat} {w W W' : World} {v v' : Value} {l : List RdV}
theorem HS.step (h : HS B m w W v l) (hc : Chg B (B + 1) W W') (hcu : Cu W' B m') : HS B m' w W' v l :=
  ⟨hcu, h.ch.trans hc, own_of_block h.row fun g hg => hc.block g (World.ownsRow.lt h.row g hg).2 (.inr (by have := (World.ownsRow.lt h.row g hg).1; have := h.lt; omega)), h.lt, fun x hx => ⟨(h.evs x hx).1.chg hc (by have := h.lt; omega), (h.evs x hx).2⟩⟩
theorem HS.alloc (h : HS B m w W v l) (o : Obj) : HS B m w (W.alloc o) v l := h.step ((Chg.refl _ _ _).alloc o) (h.cu.alloc o)
theorem HS.mono (h : HS B m w W v l) (hm : m ≤ m') : HS B m' w W v l := ⟨h.cu.mono hm, h.ch, h.row, h.lt, h.evs⟩
theorem HS.grow {y : Rd} {u : Value} (h : HS B m w W v l) (hg : W.grownBy W' v.ownBlock) (hr : HL w.heap.size W' v' (l ++ [(y, u)])) (hv : v'.ownBlock = v.ownBlock ∨ v'.ownBlock = some W.heap.size)
    (hu : EL w.heap.size W u y.es) (hn : ∀ g, u.ownBlock = some g → v.ownBlock ≠ some g) : HS B m w W' v' (l ++ [(y, u)]) := by
  have hlt := World.ownsRow.lt h.row
  have h3 := h.lt
  have hc : Chg w.heap.size (max w.heap.size W.heap.size) W W' := ⟨hg.os, hg.tape, hg.output, hg.size, fun k hk hr => hg.block k hk (fun e => by have := (hlt k e.symm).1; omega)⟩
  have keep : ∀ {x : Value} {es : List (Int × Int)}, EL w.heap.size W x es → (∀ g, x.ownBlock = some g → v.ownBlock ≠ some g) → EL w.heap.size W' x es ∧ ∀ g, x.ownBlock = some g → v'.ownBlock ≠ some g := fun {x es} hx hd =>
    ⟨hx.ofB fun g hgx => hg.block g (hx.lt g hgx).2 (fun e => hd g hgx e.symm), fun g hgx e => by
      rcases hv with h1 | h1
      · exact hd g hgx (h1.symm.trans e)
      · rw [h1] at e
        injection e with e
        have := (hx.lt g hgx).2
        omega⟩
  refine ⟨h.cu.chg hc h3, ⟨hc.os.trans h.ch.os, hc.tape.trans h.ch.tape, hc.output.trans h.ch.output, Nat.le_trans h.ch.size hc.size, fun k hk hr => (hc.block k (Nat.lt_of_lt_of_le hk h.ch.size) (.inl hk)).trans (h.ch.block k hk hr)⟩, hr, h3, fun x hx => ?_⟩
  rcases List.mem_append.1 hx with hx | hx
  · exact keep (h.evs x hx).1 (h.evs x hx).2
  · rw [List.mem_singleton.1 hx]
    exact keep hu hn
end
theorem HS.rcs {B m : Nat} {w W : World} {v : Value} {l : List RdV} (h : HS B m w W v l) : RcS W v l.length (fun j => (atD l j).1.rc) := by
  have hr := h.row
  rcases h.row.2 with ⟨rfl, h0⟩ | ⟨g, cap, cur, rfl, hb, hh, hn, hm, _⟩
  · exact ⟨none, 0, by rw [h0], fun h => absurd h (by omega), by omega, by omega⟩
  · refine ⟨_, cap, rfl, fun _ => ⟨g, 0, rfl, (Array.getElem?_eq_some_iff.1 hh).1, fun j hj => ⟨(atD l j).2, EL.evs (h.evs _ (atD_mem hj)).1, ?_⟩⟩, hn, by unfold maxLen at hm; exact hm⟩
    obtain ⟨e0, e1, e2, e3⟩ := cells4_at hj
    rw [Nat.zero_add]
    exact ⟨(World.ownsRow.cellAt hr (j * 4) (by omega)).trans e0, (World.ownsRow.cellAt hr (j * 4 + 1) (by omega)).trans e1, (World.ownsRow.cellAt hr (j * 4 + 2) (by omega)).trans e2, (World.ownsRow.cellAt hr (j * 4 + 3) (by omega)).trans e3⟩
def lnV : Value → Nat
  | .slice _ n _ => n
  | _ => 0
end Go.Proofs.YtjmfkenhnfdbjaaGreatDoor

/- Lists of records that are drawn. No condition but those stated. -/
namespace Go.Proofs.YtjmfkenhnfdbjaaGreatDoor
set_option linter.unusedVariables false
set_option linter.unusedSimpArgs false
open Go.RowKit Go.Sort
/-- A record that is just drawn may be appended. -/
theorem HS.fresh {B m m' : Nat} {w W W' : World} {v u : Value} {l : List RdV} {x : Rd} (h : HS B m w W v l) (hb : W.grownBy W' (some B)) (hcu : Cu W' B m') (ho : EL W.heap.size W' u x.es) :
    HS B m' w W' v l ∧ EL w.heap.size W' u x.es ∧ ∀ g, u.ownBlock = some g → v.ownBlock ≠ some g :=
  ⟨h.step (Chg.of_grown hb) hcu, EL.mono h.ch.size ho, fun g hg e => by
    have := (ho.lt g hg).1
    have := (World.ownsRow.lt h.row g e).2
    omega⟩
set_option maxRecDepth 100000 in
set_option maxHeartbeats 16000000 in
theorem C_held (B m : Nat) (w : World) (hcu : Cu w B m) (hm : m ≤ 100000) :
    Calls Tryz.prog 51 #[.pointer (some ⟨B, 0, none⟩)] w fun e w' => ∃ (v : Value) (l : List RdV), e = .returned v ∧ HS B (m + 500) w w' v l ∧ l.length ≤ 12 := by
  have hlt := hcu.lt
  obtain ⟨w0, hw0⟩ : ∃ w0, w0 = w.alloc (.cells #[] 26) := ⟨_, rfl⟩
  have H0 : HS B m w w0 (.slice (some ⟨w.heap.size, 0, none⟩) 0 0) [] := by
    rw [hw0]
    exact ⟨hcu.alloc _, (Chg.refl _ _ _).alloc _, World.ownsRow_made w #[] 0 (Nat.le_refl _) (by decide) rfl, hlt, fun x hx => by cases hx⟩
  have H0 := Lib.hid H0
  have HW0 := Lib.hid hw0.symm
  clear hw0 hcu
  go_enter Tryz.func51, Tryz.ntmps51
  go_upto_region 2 with fail
  rw [HW0.out]
  clear HW0
  go_wp2
  go_loopw [3, 4] (fun q i wr => ∃ (k : Nat) (l : List RdV), 1 ≤ k ∧ k ≤ 8 ∧ i = .int .i64 k ∧ l.length + 1 ≤ k ∧ HS B (m + 41 * k) w wr q l) (fun _ i _ => 8 - (intOf i).toNat)
  case atStart => exact ⟨1, [], by omega, by omega, rfl, by simp, H0.out.mono (by omega)⟩
  case round =>
    clear H0
    rename_i q
    obtain ⟨k, l, hk1, hk8, rfl, hl, hH⟩ := hrel
    have H := Lib.hid hH
    clear hH
    by_cases hlt8 : k < 8
    · have hlt2 : (k : Int) < 8 := by omega
      have hk0 : (0 : Int) ≤ (k : Int) := by omega
      go_wp2_with fail
      refine (C_one B _ 2 wr H.out.cu (by omega) (by omega) (by omega)).mono ?_; rintro e w3 ⟨b, rfl, cu3, hb3⟩
      have H3 := Lib.hid (H.out.step (Chg.of_grown hb3) cu3)
      clear hb3 cu3
      cases b
      · go_wp2
        go_roundw
        case rel => exact ⟨k + 1, l, by omega, by omega, by go_num, by omega, H3.out.mono (by omega)⟩
        case measure => simp [intOf]; omega
      · clear H
        go_wp2_with fail
        refine (C_record B _ _ w3 H3.out.cu (by omega)).mono ?_; rintro e w4 ⟨x, u, rfl, ho, hes, cu4, hb4⟩
        obtain ⟨h4, he4⟩ := H3.out.fresh hb4 cu4 ho
        obtain ⟨A, c, hu⟩ := ho.form
        subst hu
        have H4 := Lib.hid h4
        have E4 := Lib.hid he4
        clear ho cu4 hb4 h4 he4 H3
        go_wp2_with (at_builtin; refine wp_appD _ rfl (.tmp 12) (.tmp 17) rfl w.heap.size _ _ rfl (HS.row (HS.alloc (H4).out _)) (by have := ((H4).out).ch.size; simp; omega) w4.heap.size x A x.es.length c rfl (by simp) (by simp) (by simp) (by simp) (by simp) (by omega) ?_; intro v6 w6 ho6 hg6 ha6; have H6 := Lib.hid (HS.grow (HS.alloc (H4).out _) hg6 ho6 ha6 (EL.alloc _ (E4).out.1) (E4).out.2); clear ho6 hg6 ha6)
        go_roundw
        case rel => exact ⟨k + 1, _, by omega, by omega, by go_num, by simp; omega, H6.out.mono (by omega)⟩
        case measure => simp [intOf]; omega
    · obtain rfl : k = 8 := by omega
      have hz : ¬ ((8 : Nat) : Int) < 8 := by omega
      have hl7 : l.length ≤ 7 := by omega
      clear hl hk1 hk8
      go_wp2_with fail
      refine (C_pick B _ 32 wr H.out.cu (by omega) (by omega) (by omega)).mono ?_; rintro e w3 ⟨r, rfl, ⟨hr0, hr1⟩, cu3, hb3⟩
      have H3 := Lib.hid (H.out.step (Chg.of_grown hb3) cu3)
      clear hb3 cu3 H
      have hway : r = 0 ∨ r = 1 ∨ 2 ≤ r := by omega
      rcases hway with rfl | rfl | hr2
      · go_wp2_with fail
        refine (C_amongLc B _ _ 4 4 _ w3 _ (by rfl) H3.out.cu (by omega) (by omega) (by decide) (by omega) sm5 (by rfl)).mono ?_; rintro e w4 ⟨y, rfl, _, cu4, hb4⟩
        have H4 := Lib.hid (H3.out.step (Chg.of_grown hb4) cu4)
        clear cu4 hb4 H3
        go_wp2_with fail
        refine (C_record B _ _ w4 H4.out.cu (by omega)).mono ?_; rintro e w5 ⟨x, u, rfl, ho, hes, cu5, hb5⟩
        obtain ⟨h5, he5⟩ := H4.out.fresh hb5 cu5 ho
        obtain ⟨A, c, hu⟩ := ho.form
        subst hu
        have H5 := Lib.hid h5
        have E5 := Lib.hid he5
        clear ho cu5 hb5 h5 he5 H4
        go_wp2_with (at_builtin; refine wp_appD _ rfl (.tmp 23) (.tmp 29) rfl w.heap.size _ _ rfl (HS.row (HS.alloc (H5).out _)) (by have := ((H5).out).ch.size; simp; omega) w5.heap.size x A x.es.length c rfl (by simp) (by simp) (by simp) (by simp) (by simp) (by omega) ?_; intro v6 w6 ho6 hg6 ha6; have H6 := Lib.hid (HS.grow (HS.alloc (H5).out _) hg6 ho6 ha6 (EL.alloc _ (E5).out.1) (E5).out.2); clear ho6 hg6 ha6)
        go_ret
        exact ⟨_, _, rfl, H6.out.mono (by omega), by simp; omega⟩
      · go_wp2
        go_loopw [3] (fun q wr => ∃ l : List RdV, l.length ≤ 11 ∧ HS B (m + 340 + l.length) w wr q l) (fun q _ => 12 - lnV q)
        case atStart => exact ⟨l, by omega, H3.out.mono (by omega)⟩
        case round =>
          clear H3 hl7
          rename_i q2
          obtain ⟨l2, hl2, hH⟩ := hrel
          have H := Lib.hid hH
          obtain ⟨A, c, hq⟩ := hH.row.form
          subst hq
          clear hH
          go_wp2_with fail
          refine (C_pick B _ 2 _ H.out.cu (by omega) (by omega) (by omega)).mono ?_; rintro e w4 ⟨r, rfl, ⟨hr0, hr1⟩, cu4, hb4⟩
          have H4 := Lib.hid (H.out.step (Chg.of_grown hb4) cu4)
          clear hb4 cu4 H
          by_cases hlt9 : (l2.length : Int) < 10 + r
          · have hH4 := H4.out.alloc (.cells #[] 70)
            have E5 : EL w.heap.size (w4.alloc (.cells #[] 70)) (.slice (some ⟨w4.heap.size, 0, none⟩) 0 0) [] ∧ ∀ g, (Value.slice (some ⟨w4.heap.size, 0, none⟩) 0 0).ownBlock = some g → (Value.slice A l2.length c).ownBlock ≠ some g :=
              ⟨EL.empty H4.out.ch.size, fun g hg e => by
                have := (World.ownsRow.lt H4.out.row g e).2
                simp [Value.ownBlock] at hg
                omega⟩
            have H5 := Lib.hid hH4
            have E5 := Lib.hid E5
            have hz4 := H4.out.ch.size
            clear hH4
            go_wp2_with (at_builtin; refine wp_appD _ rfl (.tmp 39) (.tmp 45) rfl w.heap.size _ _ rfl (HS.row (HS.alloc (H5).out _)) (by have := ((H5).out).ch.size; simp; omega) (w4.heap.size + 1) (⟨200 + (l2.length : Int), 1, 0, []⟩ : Rd) (some ⟨w4.heap.size, 0, none⟩) 0 0 rfl (by simp) (by simp) (by simp) (by simp) (by simp) (by omega) ?_; intro v6 w6 ho6 hg6 ha6; have H6 := Lib.hid (HS.grow (HS.alloc (H5).out _) hg6 ho6 ha6 (EL.alloc _ (E5).out.1) (E5).out.2); clear ho6 hg6 ha6)
            go_roundw
            case rel => exact ⟨_, by simp; omega, H6.out.mono (by simp; omega)⟩
            case measure => obtain ⟨_, _, e⟩ := H6.out.row.form; rw [e]; simp [lnV]; omega
          · go_wp2
            go_ret
            exact ⟨_, l2, rfl, H4.out.mono (by omega), by omega⟩
      · have e0 : (r == 0) = false := by rw [beq_eq_false_iff_ne]; omega
        have e1 : (r == 1) = false := by rw [beq_eq_false_iff_ne]; omega
        go_wp2
        go_ret
        exact ⟨_, l, rfl, H3.out.mono (by omega), by omega⟩
end Go.Proofs.YtjmfkenhnfdbjaaGreatDoor

/- Lists of records: both sides' tests. No condition but those stated. -/
namespace Go.Proofs.YtjmfkenhnfdbjaaGreatDoor
set_option linter.unusedVariables false
set_option linter.unusedSimpArgs false
open Go.RowKit Go.Sort
def goodR (R : Nat → Rc) (j : Nat) : Bool := recOk (R j) && (decide (j = 0) || decide ((R (j - 1)).id < (R j).id))
def recsOk (n : Nat) (R : Nat → Rc) : Bool := allB n (goodR R) && decide ((n : Int) ≤ 10)
theorem goodR_zero {R : Nat → Rc} {v1 : Bool} (h1 : recOk (R 0) = v1) : goodR R 0 = v1 := by
  unfold goodR; rw [h1, decide_eq_true rfl, Bool.true_or, Bool.and_true]
theorem goodR_succ {R : Nat → Rc} {i : Nat} {v1 v3 : Bool} (h1 : recOk (R (i + 1)) = v1) (h3 : decide ((R (i + 1)).id ≤ (R i).id) = v3) : goodR R (i + 1) = (v1 && !v3) := by
  unfold goodR
  rw [h1, Nat.add_sub_cancel, decide_eq_false (show ¬ (i + 1 = 0) by omega), Bool.false_or]
  congr 1
  cases v3
  · rw [decide_eq_true (by have := of_decide_eq_false h3; omega)]; rfl
  · rw [decide_eq_false (by have := of_decide_eq_true h3; omega)]; rfl
theorem recsOk_at {n : Nat} {R : Nat → Rc} (h : recsOk n R = true) : n ≤ 10 ∧ ∀ j, j < n → recOk (R j) = true := by
  unfold recsOk at h
  rw [Bool.and_eq_true, decide_eq_true_eq] at h
  refine ⟨by omega, fun j hj => ?_⟩
  have := allB_iff.1 h.1 j hj
  unfold goodR at this
  rw [Bool.and_eq_true] at this
  exact this.1
set_option maxHeartbeats 8000000 in
theorem C_AreRecords (v : Value) (n : Nat) (R : Nat → Rc) (w : World) (h : RcS w v n R) :
    Calls Tryz.prog 56 #[v] w fun e w' => e = .returned (.bool (recsOk n R)) ∧ Below w.heap.size w w' := by
  obtain ⟨A, cap, rfl, hr, hc, hm⟩ := h
  have HR := Lib.hid hr; clear hr
  go_enter Tryz.func56, Tryz.ntmps56
  go_wp2
  go_loopw [7] (fun i wr => ∃ j : Nat, j ≤ n ∧ i = .int .i64 j ∧ allB j (goodR R) = true ∧ Below w.heap.size w wr) (fun i _ => n - (intOf i).toNat)
  case atStart => exact ⟨0, Nat.zero_le _, rfl, rfl, Below.refl _ _⟩
  case round =>
    obtain ⟨j, hj, rfl, ha, hb⟩ := hrel
    have HA := Lib.hid ha
    have HB := Lib.hid hb
    clear ha hb
    by_cases hlt : j < n
    · obtain ⟨b, off, rfl, hbl, hcc⟩ := (HR.out.below HB.out) (by omega)
      obtain ⟨sv, hs, e0, e1, e2, e3⟩ := hcc j hlt
      obtain ⟨A1, c1, hsv, _⟩ := id hs
      subst hsv
      have HPREV := Lib.hid (fun (i : Nat) (hi : i < n) => (hcc i hi).elim fun _ h => h.2.1)
      obtain ⟨W, hW⟩ : ∃ W, W = wr.alloc (.cells #[.int .i64 (R j).id, .int .i64 (R j).ser, .int .i64 (R j).made, .slice A1 (R j).n c1] 26) := ⟨_, rfl⟩
      have BW : Below wr.heap.size wr W := by rw [hW]; exact (Below.refl _ _).alloc (Nat.le_refl _) _
      have HBW := Lib.hid (bel_step0 BW HB.out)
      have HWP := Lib.hid (fun (i : Nat) (hi : i < n) => (BW.cell (p := ⟨b, off + i * 4, none⟩) hbl).trans (HPREV.out i hi))
      have t0 : W.cell? ⟨wr.heap.size, 0, none⟩ = some (.int .i64 (R j).id) := by rw [hW]; exact cell_new _ _ _ _ _ rfl
      have t1 : W.cell? ⟨wr.heap.size, 1, none⟩ = some (.int .i64 (R j).ser) := by rw [hW]; exact cell_new _ _ _ _ _ rfl
      have t2 : W.cell? ⟨wr.heap.size, 2, none⟩ = some (.int .i64 (R j).made) := by rw [hW]; exact cell_new _ _ _ _ _ rfl
      have t3 : W.cell? ⟨wr.heap.size, 3, none⟩ = some (.slice A1 (R j).n c1) := by rw [hW]; exact cell_new _ _ _ _ _ rfl
      have HWE := Lib.hid hW.symm
      have l0 := cell_regrown t0; have l1 := cell_regrown t1; have l2 := cell_regrown t2; have l3 := cell_regrown t3
      obtain ⟨v1, hv1⟩ : ∃ v, recOk (R j) = v := ⟨_, rfl⟩
      have hE : ∀ d os, Calls Tryz.prog 15 #[.agg #[.int .i64 (R j).id, .int .i64 (R j).ser, .int .i64 (R j).made, .slice A1 (R j).n c1]] (grow (redrawn W d) os) fun e w'' => e = .returned (.bool v1) ∧ ∃ p : Regrown, w'' = grow (redrawn W p.d) p.os :=
        fun d os => Calls.regrown_of (by have := C_IsRecord (R j) (.slice A1 (R j).n c1) (grow (redrawn W d) os) ((hs.below BW).below (below_regrown _ _ _)); rwa [hv1] at this)
      have hj0 : (0 : Int) ≤ (j : Int) := by omega
      clear hW BW hcc t0 t1 t2 t3 HPREV hs
      by_cases hjz : j = 0
      · subst hjz
        simp only [Nat.zero_mul, Nat.add_zero] at e0 e1 e2 e3
        have HG := Lib.hid (goodR_zero hv1)
        clear hv1
        cases v1
        · go_upto_region 4 with fail
          rw [HWE.out]
          (refine wp_region_quiet_below (by kernel_rfl) (by kernel_rfl) ?_; (repeat (go_big_quiet_step (exact hE _ _))); refine wpQuiet_nil ?_; intro _ hw'; obtain ⟨⟨dq, osq⟩, hw''⟩ := hw'; subst hw'')
          go_wp2
          (go_ret; exact ⟨ret_bool (by unfold recsOk; rw [allB_of_not hlt HG.out]; rfl), bel_step0 (below_regrown _ _ _) HBW.out⟩)
        · go_upto_region 4 with fail
          rw [HWE.out]
          (refine wp_region_quiet_below (by kernel_rfl) (by kernel_rfl) ?_; (repeat (go_big_quiet_step (exact hE _ _))); refine wpQuiet_nil ?_; intro _ hw'; obtain ⟨⟨dq, osq⟩, hw''⟩ := hw'; subst hw'')
          go_wp2
          (go_roundw; (case rel => exact ⟨_, hlt, by go_num, allB_next HA.out HG.out, bel_step0 (below_regrown _ _ _) HBW.out⟩); (case measure => simp [intOf]; omega))
      · obtain ⟨i, rfl⟩ : ∃ i, j = i + 1 := ⟨j - 1, by omega⟩
        obtain ⟨v3, hv3⟩ : ∃ v, decide ((R (i + 1)).id ≤ (R i).id) = v := ⟨_, rfl⟩
        have HG := Lib.hid (goodR_succ hv1 hv3)
        have p0 := cell_regrown (HWP.out i (by omega))
        have hi1 : ((i + 1 : Nat) : Int) = (i : Int) + 1 := by omega
        have hi0 : (0 : Int) ≤ (i : Int) := by omega
        have hi2 : (i : Int) < (n : Int) := by omega
        have hi3 : (0 : Int) < (i : Int) + 1 := by omega
        clear hv1
        cases v1
        · go_upto_region 4 with fail
          rw [HWE.out]
          (refine wp_region_quiet_below (by kernel_rfl) (by kernel_rfl) ?_; (repeat (go_big_quiet_step (exact hE _ _))); refine wpQuiet_nil ?_; intro _ hw'; obtain ⟨⟨dq, osq⟩, hw''⟩ := hw'; subst hw'')
          go_wp2
          (go_ret; exact ⟨ret_bool (by unfold recsOk; rw [allB_of_not hlt HG.out]; rfl), bel_step0 (below_regrown _ _ _) HBW.out⟩)
        · cases v3
          · go_upto_region 4 with fail
            rw [HWE.out]
            (refine wp_region_quiet_below (by kernel_rfl) (by kernel_rfl) ?_; (repeat (go_big_quiet_step (exact hE _ _))); refine wpQuiet_nil ?_; intro _ hw'; obtain ⟨⟨dq, osq⟩, hw''⟩ := hw'; subst hw'')
            go_wp2
            (go_roundw; (case rel => exact ⟨_, hlt, by go_num, allB_next HA.out HG.out, bel_step0 (below_regrown _ _ _) HBW.out⟩); (case measure => simp [intOf]; omega))
          · go_upto_region 4 with fail
            rw [HWE.out]
            (refine wp_region_quiet_below (by kernel_rfl) (by kernel_rfl) ?_; (repeat (go_big_quiet_step (exact hE _ _))); refine wpQuiet_nil ?_; intro _ hw'; obtain ⟨⟨dq, osq⟩, hw''⟩ := hw'; subst hw'')
            go_wp2
            (go_ret; exact ⟨ret_bool (by unfold recsOk; rw [allB_of_not hlt HG.out]; rfl), bel_step0 (below_regrown _ _ _) HBW.out⟩)
    · obtain rfl : j = n := by omega
      go_wp2
      go_ret
      exact ⟨ret_bool (by unfold recsOk; rw [HA.out, Bool.true_and]), HB.out⟩
set_option maxHeartbeats 8000000 in
theorem C_l2Records (v : Value) (n : Nat) (R : Nat → Rc) (w : World) (h : RcS w v n R) :
    Calls Tryz.prog 53 #[v] w fun e w' => e = .returned (.bool (recsOk n R)) ∧ Below w.heap.size w w' := by
  obtain ⟨A, cap, rfl, hr, hc, hm⟩ := h
  have HR := Lib.hid hr; clear hr
  go_enter Tryz.func53, Tryz.ntmps53
  go_wp2
  go_loopw [3] (fun i wr => ∃ j : Nat, j ≤ n ∧ i = .int .i64 j ∧ allB j (goodR R) = true ∧ Below w.heap.size w wr) (fun i _ => n - (intOf i).toNat)
  case atStart => exact ⟨0, Nat.zero_le _, rfl, rfl, Below.refl _ _⟩
  case round =>
    obtain ⟨j, hj, rfl, ha, hb⟩ := hrel
    have HA := Lib.hid ha
    have HBW := Lib.hid hb
    clear ha hb
    by_cases hlt : j < n
    · obtain ⟨b, off, rfl, hbl, hcc⟩ := (HR.out.below HBW.out) (by omega)
      obtain ⟨sv, hs, e0, e1, e2, e3⟩ := hcc j hlt
      have HPREV := Lib.hid (fun (i : Nat) (hi : i < n) => (hcc i hi).elim fun _ h => h.2.1)
      obtain ⟨v1, hv1⟩ : ∃ v, recOk (R j) = v := ⟨_, rfl⟩
      have hE : ∀ d os, Calls Tryz.prog 39 #[.agg #[.int .i64 (R j).id, .int .i64 (R j).ser, .int .i64 (R j).made, sv]] (grow (redrawn wr d) os) fun e w'' => e = .returned (.bool v1) ∧ ∃ p : Regrown, w'' = grow (redrawn wr p.d) p.os :=
        fun d os => Calls.regrown_of (by have := C_l2Record (R j) sv (grow (redrawn wr d) os) (hs.below (below_regrown _ _ _)); rwa [hv1] at this)
      have hj0 : (0 : Int) ≤ (j : Int) := by omega
      have hjn : (j : Int) < (n : Int) := by omega
      clear hcc hs
      by_cases hjz : j = 0
      · subst hjz
        simp only [Nat.zero_mul, Nat.add_zero] at e0 e1 e2 e3
        have l0 := cell_regrown e0; have l1 := cell_regrown e1; have l2 := cell_regrown e2; have l3 := cell_regrown e3
        have HG := Lib.hid (goodR_zero hv1)
        clear hv1 e0 e1 e2 e3
        cases v1
        · go_upto_region 4 with fail
          (refine wp_region_quiet_below (by kernel_rfl) (by kernel_rfl) ?_; (repeat (go_big_quiet_step (exact hE _ _))); refine wpQuiet_nil ?_; intro _ hw'; obtain ⟨⟨dq, osq⟩, hw''⟩ := hw'; subst hw'')
          go_wp2
          (go_ret; exact ⟨ret_bool (by unfold recsOk; rw [allB_of_not hlt HG.out]; rfl), bel_step0 (below_regrown _ _ _) HBW.out⟩)
        · go_upto_region 4 with fail
          (refine wp_region_quiet_below (by kernel_rfl) (by kernel_rfl) ?_; (repeat (go_big_quiet_step (exact hE _ _))); refine wpQuiet_nil ?_; intro _ hw'; obtain ⟨⟨dq, osq⟩, hw''⟩ := hw'; subst hw'')
          go_wp2
          (go_roundw; (case rel => exact ⟨_, hlt, by go_num, allB_next HA.out HG.out, bel_step0 (below_regrown _ _ _) HBW.out⟩); (case measure => simp [intOf]; omega))
      · obtain ⟨i, rfl⟩ : ∃ i, j = i + 1 := ⟨j - 1, by omega⟩
        obtain ⟨v3, hv3⟩ : ∃ v, decide ((R (i + 1)).id ≤ (R i).id) = v := ⟨_, rfl⟩
        have HG := Lib.hid (goodR_succ hv1 hv3)
        have p0 := cell_regrown (HPREV.out i (by omega))
        have l0 := cell_regrown e0; have l1 := cell_regrown e1; have l2 := cell_regrown e2; have l3 := cell_regrown e3
        have hi1 : ((i + 1 : Nat) : Int) = (i : Int) + 1 := by omega
        have hi0 : (0 : Int) ≤ (i : Int) := by omega
        have hi2 : (i : Int) < (n : Int) := by omega
        have hi3 : (0 : Int) < (i : Int) + 1 := by omega
        have hi4 : (i : Int) + 1 < (n : Int) := by omega
        have hi5 : (0 : Int) ≤ (i : Int) + 1 := by omega
        clear hv1 e0 e1 e2 e3
        cases v1
        · go_upto_region 4 with fail
          (refine wp_region_quiet_below (by kernel_rfl) (by kernel_rfl) ?_; (repeat (go_big_quiet_step (exact hE _ _))); refine wpQuiet_nil ?_; intro _ hw'; obtain ⟨⟨dq, osq⟩, hw''⟩ := hw'; subst hw'')
          go_wp2
          (go_ret; exact ⟨ret_bool (by unfold recsOk; rw [allB_of_not hlt HG.out]; rfl), bel_step0 (below_regrown _ _ _) HBW.out⟩)
        · cases v3
          · go_upto_region 4 with fail
            (refine wp_region_quiet_below (by kernel_rfl) (by kernel_rfl) ?_; (repeat (go_big_quiet_step (exact hE _ _))); refine wpQuiet_nil ?_; intro _ hw'; obtain ⟨⟨dq, osq⟩, hw''⟩ := hw'; subst hw'')
            go_wp2
            (go_roundw; (case rel => exact ⟨_, hlt, by go_num, allB_next HA.out HG.out, bel_step0 (below_regrown _ _ _) HBW.out⟩); (case measure => simp [intOf]; omega))
          · go_upto_region 4 with fail
            (refine wp_region_quiet_below (by kernel_rfl) (by kernel_rfl) ?_; (repeat (go_big_quiet_step (exact hE _ _))); refine wpQuiet_nil ?_; intro _ hw'; obtain ⟨⟨dq, osq⟩, hw''⟩ := hw'; subst hw'')
            go_wp2
            (go_ret; exact ⟨ret_bool (by unfold recsOk; rw [allB_of_not hlt HG.out]; rfl), bel_step0 (below_regrown _ _ _) HBW.out⟩)
    · obtain rfl : j = n := by omega
      go_wp2
      go_ret
      exact ⟨ret_bool (by unfold recsOk; rw [HA.out, Bool.true_and]), HBW.out⟩
end Go.Proofs.YtjmfkenhnfdbjaaGreatDoor

/- The records that match a query: both sides. No condition but those stated. -/
namespace Go.Proofs.YtjmfkenhnfdbjaaGreatDoor
set_option linter.unusedVariables false
set_option linter.unusedSimpArgs false
open Go.RowKit Go.Sort
/-- The ids of those of the first n that are chosen. -/
def midL (f : Rc → Bool) (R : Nat → Rc) : Nat → List Int
  | 0 => []
  | k + 1 => midL f R k ++ (if f (R k) then [(R k).id] else [])
theorem midL_le (f : Rc → Bool) (R : Nat → Rc) (k : Nat) : (midL f R k).length ≤ k := by
  induction k with
  | zero => simp [midL]
  | succ k ih => simp only [midL, List.length_append]; split <;> simp <;> omega
theorem midL_no {f : Rc → Bool} {R : Nat → Rc} {k : Nat} (h : f (R k) = false) : midL f R (k + 1) = midL f R k := by
  simp only [midL, h]; exact List.append_nil _
theorem midL_yes {f : Rc → Bool} {R : Nat → Rc} {k : Nat} (h : f (R k) = true) : midL f R (k + 1) = midL f R k ++ [(R k).id] := by
  simp only [midL, h]; rfl
def moOk (s : ByteArray) (n : Nat) (R : Nat → Rc) : Bool := goodQ s && recsOk n R
def moL (s : ByteArray) (n : Nat) (R : Nat → Rc) : List Int := if moOk s n R then midL (mtch s) R n else []
theorem moL_le (s : ByteArray) (n : Nat) (R : Nat → Rc) : (moL s n R).length ≤ n := by
  unfold moL; split
  · exact midL_le _ _ _
  · simp
set_option maxHeartbeats 4000000 in
theorem C_l19All (s : ByteArray) (o : Out) (v : Value) (n : Nat) (R : Nat → Rc) (hs : s.size ≤ 1048576) (hq : readQ s = some o) (w : World) (h : RcS w v n R) (hok : recsOk n R = true) :
    Calls Tryz.prog 55 #[.string s, v] w fun e w' => ∃ v', e = .returned v' ∧ OI w.heap.size w' v' (midL (mtch s) R n) ∧ Below w.heap.size w w' := by
  obtain ⟨A, cap, rfl, hr, hc, hm⟩ := h
  have HR := Lib.hid hr; clear hr
  obtain ⟨hn, hrec⟩ := recsOk_at hok
  have HM := Lib.hid (fun k (hk : k < n) sv w' (h : EvS w' sv (R k)) => by
    have := C_l19Match (R k) sv s o hs hq w' h
    rwa [rq_eq (hrec k hk), ← mtch_of hq] at this)
  obtain ⟨f, hf⟩ : ∃ f, mtch s = f := ⟨_, rfl⟩
  rw [hf] at HM ⊢
  clear hf hq hok hrec
  go_enter Tryz.func55, Tryz.ntmps55
  go_wp2
  go_loopw [5, 6] (fun q i wr => ∃ k : Nat, k ≤ n ∧ i = .int .i64 k ∧ OI w.heap.size wr q (midL f R k) ∧ Below w.heap.size w wr) (fun _ i _ => n - (intOf i).toNat)
  case atStart => exact ⟨0, Nat.zero_le _, rfl, OI.empty (Nat.le_refl _), by (repeat (first | with_reducible exact Below.refl _ _ | with_reducible exact below_regrown _ _ _ | with_reducible refine bel_step0 (by assumption) ?_ | with_reducible refine bel_alloc0 ?_ _ | with_reducible refine bel_regrown0 ?_ _ _ | with_reducible refine bel_regrown ?_ (by first | omega | (simp; done) | (simp; omega)) _ _ | with_reducible refine below_drewN ?_ _ | with_reducible refine Below.drew ?_ | with_reducible refine Below.alloc ?_ (by first | omega | (simp; done) | (simp; omega)) _ | with_reducible refine Below.setCell ?_ (by first | omega | (simp; done) | (simp; omega)) _ | with_reducible refine bel_step (by assumption) (by first | omega | (simp; done) | (simp; omega)) ?_ | with_reducible refine bel_grown (by assumption) (by first | omega | (simp; done) | (simp; omega)) (by first | omega | (simp; done) | (simp; omega)) ?_))⟩
  case round =>
    obtain ⟨k, hk, rfl, ho, hB⟩ := hrel
    have HO := Lib.hid ho; clear ho
    have HBB := Lib.hid hB
    have hbs := hB.size
    by_cases hlt : k < n
    · obtain ⟨b, off, rfl, hb, hcell⟩ := (HR.out.below hB) (by omega)
      obtain ⟨sv, hsv, c0, c1, c2, c3⟩ := hcell k hlt
      have hll := midL_le f R k
      have hkn : (k : Int) < (n : Int) := by omega
      clear hcell hB
      cases hv : f (R k)
      · have HV := Lib.hid hv
        go_wp2_with fail
        refine (HM.out k hlt sv _ hsv).mono ?_; rintro e w1 ⟨rfl, hb1⟩
        rw [hv]
        clear c0 c1 c2 c3 hsv
        go_wp2
        go_roundw
        case rel => exact ⟨k + 1, by omega, by go_num, by rw [midL_no HV.out]; exact HO.out.below hb1, bel_step0 hb1 HBB.out⟩
        case measure => simp [intOf]; omega
      · have HV := Lib.hid hv
        go_wp2_with fail
        refine (HM.out k hlt sv _ hsv).mono ?_; rintro e w1 ⟨rfl, hb1⟩
        rw [hv]
        have d0 := (hb1.cell (p := ⟨b, off + k * 4, none⟩) hb).trans c0
        have HO1 := Lib.hid (HO.out.below hb1)
        have HB1 := Lib.hid (bel_step0 hb1 HBB.out)
        have hz1 := HB1.out.size
        clear c0 c1 c2 c3 hsv hb1
        go_wp2_with (at_builtin; refine wp_app1 _ rfl (.tmp 20) (.tmp 26) rfl w.heap.size _ _ rfl (HO1.out.alloc _) w1.heap.size (R k).id rfl (by simp) (by omega) (by simp; omega) ?_; intro v2 w2 ho2 hb2; have HO2 := Lib.hid ho2; have HB2 := Lib.hid (Below.trans (HB1.out.alloc hz1 _) hb2); clear ho2 hb2)
        go_roundw
        case rel => exact ⟨k + 1, by omega, by go_num, by rw [midL_yes HV.out]; exact HO2.out, HB2.out⟩
        case measure => simp [intOf]; omega
    · go_wp2
      go_ret
      obtain rfl : k = n := by omega
      exact ⟨_, rfl, HO.out, HBB.out⟩
set_option maxHeartbeats 4000000 in
theorem C_MatchingS (s : ByteArray) (v : Value) (n : Nat) (R : Nat → Rc) (hs : s.size ≤ 1048576) (w : World) (h : RcS w v n R) :
    Calls Tryz.prog 27 #[.string s, v] w fun e w' => ∃ v', e = .returned (.tuple #[v', .bool (moOk s n R)]) ∧ OI w.heap.size w' v' (moL s n R) ∧ Below w.heap.size w w' := by
  have HH := Lib.hid h
  have HC := Lib.hid (C_l19Good s hs w)
  obtain ⟨A, cap, rfl, hr, hc, hm⟩ := h
  clear hr
  cases hg : goodQ s
  · have HV := Lib.hid (show moOk s n R = false ∧ moL s n R = [] by unfold moL moOk; rw [hg]; exact ⟨rfl, rfl⟩)
    rw [hg] at HC
    clear hg
    go_enter Tryz.func27, Tryz.ntmps27
    go_wp2_with fail
    refine HC.out.mono ?_; rintro e w1 ⟨rfl, hb1⟩
    have hz := hb1.size
    go_wp2
    go_ret2
    rw [HV.out.1, HV.out.2]
    exact ⟨_, rfl, OI.empty hz, hb1.alloc hz _⟩
  · obtain ⟨o, ho⟩ := good_some hg
    obtain ⟨k, hk⟩ : ∃ k, recsOk n R = k := ⟨_, rfl⟩
    have HV := Lib.hid (show moOk s n R = k ∧ moL s n R = if k then midL (mtch s) R n else [] by unfold moL moOk; rw [hg, hk]; exact ⟨rfl, rfl⟩)
    have HA := Lib.hid (fun (h : k = true) w' h' => C_l19All s o (.slice A n cap) n R hs ho w' h' (hk.trans h))
    have HK := Lib.hid hk
    rw [hg] at HC
    clear hg ho hk
    go_enter Tryz.func27, Tryz.ntmps27
    go_wp2_with fail
    refine HC.out.mono ?_; rintro e w1 ⟨rfl, hb1⟩
    have HB1 := Lib.hid hb1
    clear hb1 HC
    go_wp2_with fail
    refine (C_l2Records _ n R _ (HH.out.below HB1.out)).mono ?_; rintro e w2 ⟨rfl, hb2⟩
    have HB2 := Lib.hid (bel_step0 hb2 HB1.out)
    rw [HK.out]
    clear hb2
    cases k
    · have hz := HB2.out.size
      go_wp2
      go_ret2
      rw [HV.out.1, HV.out.2]
      exact ⟨_, rfl, OI.empty hz, HB2.out.alloc hz _⟩
    · go_wp2_with fail
      refine (HA.out (by trivial) _ (HH.out.below HB2.out)).mono ?_; rintro e w3 ⟨v3, rfl, ho3, hb3⟩
      have HO3 := Lib.hid ho3
      clear ho3
      go_wp2
      go_ret2
      rw [HV.out.1, HV.out.2]
      exact ⟨_, rfl, OI.mono HB2.out.size HO3.out, bel_step0 hb3 HB2.out⟩
set_option maxHeartbeats 8000000 in
theorem C_MatchingI (s : ByteArray) (v : Value) (n : Nat) (R : Nat → Rc) (hs : s.size ≤ 1048576) (w : World) (hkp : Pk w) (h : RcS w v n R) :
    Calls Tryz.prog 24 #[.string s, v] w fun e w' => ∃ v', e = .returned (.tuple #[v', .bool (moOk s n R)]) ∧ OI w.heap.size w' v' (moL s n R) ∧ Below w.heap.size w w' := by
  have HH := Lib.hid h
  have HC := Lib.hid (C_readQuery s hs w hkp)
  obtain ⟨A, cap, rfl, hr, hc, hm⟩ := h
  have HR := Lib.hid hr
  clear hr hkp
  cases hg : goodQ s
  · have HV := Lib.hid (show moOk s n R = false ∧ moL s n R = [] by unfold moL moOk; rw [hg]; exact ⟨rfl, rfl⟩)
    rw [hg] at HC
    clear hg
    go_enter Tryz.func24, Tryz.ntmps24
    go_wp2_with fail
    refine HC.out.mono ?_; rintro e w1 ⟨x, mo, rfl, hrd⟩
    have HB := Lib.hid hrd.1
    clear hrd HC
    go_wp2
    go_ret2
    rw [HV.out.1, HV.out.2]
    exact ⟨_, rfl, OI.nil _ _, HB.out.alloc HB.out.size _⟩
  · obtain ⟨o, ho⟩ := good_some hg
    obtain ⟨kk, hk⟩ : ∃ k, recsOk n R = k := ⟨_, rfl⟩
    have HV := Lib.hid (show moOk s n R = kk ∧ moL s n R = if kk then midL (mtch s) R n else [] by unfold moL moOk; rw [hg, hk]; exact ⟨rfl, rfl⟩)
    have HN := Lib.hid (fun (h : kk = true) => (recsOk_at (hk.trans h)).1)
    have HMT := Lib.hid (fun (R : Rc) sv x D w' ht hev => by
      have := C_matches R sv o.q x D w' ht (readQ_wf ho) hev
      rwa [← mtch_of ho] at this)
    have HO := Lib.hid ho
    have HK := Lib.hid hk
    obtain ⟨f, hf⟩ : ∃ f, mtch s = f := ⟨_, rfl⟩
    rw [hf] at HV HMT
    rw [hg] at HC
    clear hg ho hk hf
    go_enter Tryz.func24, Tryz.ntmps24
    go_wp2_with fail
    refine HC.out.mono ?_; rintro e w1 ⟨x, mo, rfl, hrd⟩
    have hb1 := hrd.1
    obtain ⟨W1, hW1⟩ : ∃ W, W = w1.alloc (.cells #[.int .u8 (x).c, .int .i64 (x).n, .slice (x).A (x).m (x).k] 61) := ⟨_, rfl⟩
    have bW : Below w1.heap.size w1 W1 := by rw [hW1]; exact (Below.refl _ _).alloc (Nat.le_refl _) _
    have QX : QBox W1 w1.heap.size x := by rw [hW1]; exact QBox.new w1 x
    have hzW : w1.heap.size < W1.heap.size := by rw [hW1]; simp
    have HT := Lib.hid ((hrd.2 o HO.out).2.below bW)
    have HW1 := Lib.hid hW1.symm
    have HQX := Lib.hid QX
    have HB1 := Lib.hid (bel_step0 bW hb1)
    clear hrd HC hb1 bW hW1 QX
    go_upto_region 2 with fail
    rw [HW1.out]
    go_wp2_with fail
    refine (C_AreRecords _ n R _ (HH.out.below HB1.out)).mono ?_; rintro e w2 ⟨rfl, hb2⟩
    have HB2 := Lib.hid (bel_step0 hb2 HB1.out)
    have HQ2 := Lib.hid (HQX.out.below hzW hb2)
    have HT2 := Lib.hid (HT.out.below hb2)
    have hz2 : w1.heap.size < w2.heap.size := Nat.lt_of_lt_of_le hzW hb2.size
    rw [HK.out]
    clear hb2
    cases kk
    · go_wp2
      go_ret2
      rw [HV.out.1, HV.out.2]
      exact ⟨_, rfl, OI.nil _ _, HB2.out⟩
    · have hn := HN.out (by trivial)
      clear HN HQX HT HW1
      go_wp2
      go_loopw [9, 27] (fun q i wr => ∃ k : Nat, k ≤ n ∧ i = .int .i64 k ∧ OI w2.heap.size wr q (midL f R k) ∧ Below w2.heap.size w2 wr) (fun _ i _ => n - (intOf i).toNat)
      case atStart => exact ⟨0, Nat.zero_le _, rfl, OI.nil _ _, Below.refl _ _⟩
      case round =>
        obtain ⟨k, hk, rfl, ho, hB⟩ := hrel
        have HO := Lib.hid ho; clear ho
        have HBB := Lib.hid hB
        have hbs := hB.size
        by_cases hlt : k < n
        · obtain ⟨b, off, rfl, hb, hcell⟩ := (HR.out.below (bel_step0 hB HB2.out)) (by omega)
          obtain ⟨sv, hsv, c0, c1, c2, c3⟩ := hcell k hlt
          obtain ⟨A1, k1, esv, _⟩ := id hsv
          subst esv
          have hll := midL_le f R k
          have hkn : (k : Int) < (n : Int) := by omega
          obtain ⟨W, hW⟩ : ∃ W, W = wr.alloc (.cells #[.int .i64 (R k).id, .int .i64 (R k).ser, .int .i64 (R k).made, .slice A1 (R k).n k1] 26) := ⟨_, rfl⟩
          have BW : Below wr.heap.size wr W := by rw [hW]; exact (Below.refl _ _).alloc (Nat.le_refl _) _
          have bx : Box W wr.heap.size (R k) (.slice A1 (R k).n k1) := by rw [hW]; exact ⟨cell_new _ _ _ _ _ rfl, cell_new _ _ _ _ _ rfl, cell_new _ _ _ _ _ rfl, cell_new _ _ _ _ _ rfl⟩
          have hzR : wr.heap.size < W.heap.size := by rw [hW]; simp
          have HBX := Lib.hid bx
          have HBW := Lib.hid BW
          have HSV := Lib.hid (hsv.below BW)
          have HWE := Lib.hid hW.symm
          have bqW := bel_step0 BW HBB.out
          obtain ⟨q0, q1, q2⟩ := HQ2.out.below hz2 bqW
          have HTW := Lib.hid (HT2.out.below bqW)
          have hM := (HMT.out (R k) (.slice A1 (R k).n k1) x _ W HTW.out HSV.out)
          obtain ⟨r0, r1, r2, r3⟩ := bx
          have HM := Lib.hid hM
          clear hcell hB hW BW bqW hM hsv
          cases hv : f (R k)
          · have HVV := Lib.hid hv
            go_upto_region 8 with fail
            rw [HWE.out]
            go_wp2_with fail
            refine HM.out.mono ?_; rintro e w3 ⟨rfl, hb3⟩
            rw [hv]
            clear q0 q1 q2 r0 r1 r2 r3
            go_wp2
            go_roundw
            case rel => exact ⟨k + 1, by omega, by go_num, by rw [midL_no HVV.out]; exact (HO.out.below HBW.out).below hb3, bel_step0 hb3 (bel_step0 HBW.out HBB.out)⟩
            case measure => simp [intOf]; omega
          · have HVV := Lib.hid hv
            go_upto_region 8 with fail
            rw [HWE.out]
            go_wp2_with fail
            refine HM.out.mono ?_; rintro e w3 ⟨rfl, hb3⟩
            rw [hv]
            have d0 := (HBX.out.below hzR hb3).1
            have HO3 := Lib.hid ((HO.out.below HBW.out).below hb3)
            have HB3 := Lib.hid (bel_step0 hb3 (bel_step0 HBW.out HBB.out))
            have hz3 := HB3.out.size
            clear q0 q1 q2 r0 r1 r2 r3 hb3
            go_wp2_with (at_builtin; refine wp_app1 _ rfl (.tmp 34) (.tmp 37) rfl w2.heap.size _ _ rfl (HO3.out.alloc _) w3.heap.size (R k).id rfl (by simp) (by omega) (by simp; omega) ?_; intro v4 w4 ho4 hb4; have HO4 := Lib.hid ho4; have HB4 := Lib.hid (Below.trans (HB3.out.alloc hz3 _) hb4); clear ho4 hb4)
            go_roundw
            case rel => exact ⟨k + 1, by omega, by go_num, by rw [midL_yes HVV.out]; exact HO4.out, HB4.out⟩
            case measure => simp [intOf]; omega
        · go_wp2
          go_ret2
          obtain rfl : k = n := by omega
          rw [HV.out.1, HV.out.2]
          exact ⟨_, rfl, OI.mono HB2.out.size HO.out, bel_step0 HBB.out HB2.out⟩
end Go.Proofs.YtjmfkenhnfdbjaaGreatDoor

/- Whether the same records match two queries: both sides. No condition but those stated. -/
namespace Go.Proofs.YtjmfkenhnfdbjaaGreatDoor
set_option linter.unusedVariables false
set_option linter.unusedSimpArgs false
open Go.RowKit Go.Sort
theorem C_l1Same (v v' : Value) (n m : Nat) (f g : Nat → Int) (w : World) (h : SI w v n f) (h' : SI w v' m g) :
    Calls Tryz.prog 54 #[v, v'] w fun e w' => e = .returned (.bool (eqI n m f g)) ∧ Below w.heap.size w w' := by
  obtain ⟨A, cap, rfl, hr, hc, hm⟩ := h
  obtain ⟨A', cap', rfl, hr', hc', hm'⟩ := h'
  have HR := Lib.hid hr; clear hr
  have HR' := Lib.hid hr'; clear hr'
  by_cases hnm : n = m
  · subst hnm
    go_enter Tryz.func54, Tryz.ntmps54
    go_wp2
    go_loopw [5] (fun i wr => ∃ k : Nat, k ≤ n ∧ i = .int .i64 k ∧ allB k (fun j => f j == g j) = true ∧ Below w.heap.size w wr) (fun i _ => n - (intOf i).toNat)
    case atStart => exact ⟨0, Nat.zero_le _, rfl, rfl, Below.refl _ _⟩
    case round =>
      obtain ⟨k, hk, rfl, ha, hB⟩ := hrel
      have HA := Lib.hid ha; clear ha
      by_cases hlt : k < n
      · obtain ⟨b, off, rfl, hb, hcell⟩ := (HR.out.below hB) (by omega)
        obtain ⟨b', off', rfl, hb', hcell'⟩ := (HR'.out.below hB) (by omega)
        have hck := hcell k hlt
        have hck' := hcell' k hlt
        have hk0 : (0 : Int) ≤ (k : Int) := by omega
        have hk1 : (k : Int) < (n : Int) := by omega
        clear hcell hcell'
        go_wp2
        go_quiet (fail)
        go_wp2
        all_goals first
          | (go_ret; exact ⟨ret_bool (by unfold eqI; rw [allB_of_not hlt ((by (first | (simp [*]; done) | (go_light; simp_all; done) | (go_light; simp_all; omega))))]; simp), by (repeat (first | with_reducible exact Below.refl _ _ | with_reducible exact below_regrown _ _ _ | with_reducible refine bel_step0 (by assumption) ?_ | with_reducible refine bel_alloc0 ?_ _ | with_reducible refine bel_regrown0 ?_ _ _ | with_reducible refine bel_regrown ?_ (by first | omega | (simp; done) | (simp; omega)) _ _ | with_reducible refine below_drewN ?_ _ | with_reducible refine Below.drew ?_ | with_reducible refine Below.alloc ?_ (by first | omega | (simp; done) | (simp; omega)) _ | with_reducible refine Below.setCell ?_ (by first | omega | (simp; done) | (simp; omega)) _ | with_reducible refine bel_step (by assumption) (by first | omega | (simp; done) | (simp; omega)) ?_ | with_reducible refine bel_grown (by assumption) (by first | omega | (simp; done) | (simp; omega)) (by first | omega | (simp; done) | (simp; omega)) ?_))⟩)
          | (go_roundw; (case rel => exact ⟨k + 1, by omega, by go_num, allB_next HA.out ((by (first | (simp [*]; done) | (go_light; simp_all; done) | (go_light; simp_all; omega)))), by (repeat (first | with_reducible exact Below.refl _ _ | with_reducible exact below_regrown _ _ _ | with_reducible refine bel_step0 (by assumption) ?_ | with_reducible refine bel_alloc0 ?_ _ | with_reducible refine bel_regrown0 ?_ _ _ | with_reducible refine bel_regrown ?_ (by first | omega | (simp; done) | (simp; omega)) _ _ | with_reducible refine below_drewN ?_ _ | with_reducible refine Below.drew ?_ | with_reducible refine Below.alloc ?_ (by first | omega | (simp; done) | (simp; omega)) _ | with_reducible refine Below.setCell ?_ (by first | omega | (simp; done) | (simp; omega)) _ | with_reducible refine bel_step (by assumption) (by first | omega | (simp; done) | (simp; omega)) ?_ | with_reducible refine bel_grown (by assumption) (by first | omega | (simp; done) | (simp; omega)) (by first | omega | (simp; done) | (simp; omega)) ?_))⟩); (case measure => simp [intOf]; omega))
      · go_wp2
        (go_ret; obtain rfl : k = n := (by omega); exact ⟨ret_bool (by unfold eqI; rw [HA.out]; simp), by (repeat (first | with_reducible exact Below.refl _ _ | with_reducible exact below_regrown _ _ _ | with_reducible refine bel_step0 (by assumption) ?_ | with_reducible refine bel_alloc0 ?_ _ | with_reducible refine bel_regrown0 ?_ _ _ | with_reducible refine bel_regrown ?_ (by first | omega | (simp; done) | (simp; omega)) _ _ | with_reducible refine below_drewN ?_ _ | with_reducible refine Below.drew ?_ | with_reducible refine Below.alloc ?_ (by first | omega | (simp; done) | (simp; omega)) _ | with_reducible refine Below.setCell ?_ (by first | omega | (simp; done) | (simp; omega)) _ | with_reducible refine bel_step (by assumption) (by first | omega | (simp; done) | (simp; omega)) ?_ | with_reducible refine bel_grown (by assumption) (by first | omega | (simp; done) | (simp; omega)) (by first | omega | (simp; done) | (simp; omega)) ?_))⟩)
  · have h1 : ((n : Int) == (m : Int)) = false := by simp; omega
    have h2 : ((n : Int) != (m : Int)) = true := by simp; omega
    go_enter Tryz.func54, Tryz.ntmps54
    go_wp2
    go_ret
    exact ⟨ret_bool (by unfold eqI; rw [decide_eq_false hnm]; rfl), Below.refl _ _⟩
theorem C_EqualI (v v' : Value) (n m : Nat) (f g : Nat → Int) (w : World) (h : SI w v n f) (h' : SI w v' m g) :
    Calls Tryz.prog 52 #[v, v'] w fun e w' => e = .returned (.bool (eqI n m f g)) ∧ Below w.heap.size w w' := by
  obtain ⟨A, cap, rfl, hr, hc, hm⟩ := h
  obtain ⟨A', cap', rfl, hr', hc', hm'⟩ := h'
  have HR := Lib.hid hr; clear hr
  have HR' := Lib.hid hr'; clear hr'
  by_cases hnm : n = m
  · subst hnm
    go_enter Tryz.func52, Tryz.ntmps52
    go_wp2
    go_loopw [13] (fun i wr => ∃ k : Nat, k ≤ n ∧ i = .int .i64 k ∧ allB k (fun j => f j == g j) = true ∧ Below w.heap.size w wr) (fun i _ => n - (intOf i).toNat)
    case atStart => exact ⟨0, Nat.zero_le _, rfl, rfl, Below.refl _ _⟩
    case round =>
      obtain ⟨k, hk, rfl, ha, hB⟩ := hrel
      have HA := Lib.hid ha; clear ha
      by_cases hlt : k < n
      · obtain ⟨b, off, rfl, hb, hcell⟩ := (HR.out.below hB) (by omega)
        obtain ⟨b', off', rfl, hb', hcell'⟩ := (HR'.out.below hB) (by omega)
        have hck := hcell k hlt
        have hck' := hcell' k hlt
        have hk0 : (0 : Int) ≤ (k : Int) := by omega
        have hk1 : (k : Int) < (n : Int) := by omega
        clear hcell hcell'
        go_wp2
        go_quiet (fail)
        go_wp2
        all_goals first
          | (go_ret; exact ⟨ret_bool (by unfold eqI; rw [allB_of_not hlt ((by (first | (simp [*]; done) | (go_light; simp_all; done) | (go_light; simp_all; omega))))]; simp), by (repeat (first | with_reducible exact Below.refl _ _ | with_reducible exact below_regrown _ _ _ | with_reducible refine bel_step0 (by assumption) ?_ | with_reducible refine bel_alloc0 ?_ _ | with_reducible refine bel_regrown0 ?_ _ _ | with_reducible refine bel_regrown ?_ (by first | omega | (simp; done) | (simp; omega)) _ _ | with_reducible refine below_drewN ?_ _ | with_reducible refine Below.drew ?_ | with_reducible refine Below.alloc ?_ (by first | omega | (simp; done) | (simp; omega)) _ | with_reducible refine Below.setCell ?_ (by first | omega | (simp; done) | (simp; omega)) _ | with_reducible refine bel_step (by assumption) (by first | omega | (simp; done) | (simp; omega)) ?_ | with_reducible refine bel_grown (by assumption) (by first | omega | (simp; done) | (simp; omega)) (by first | omega | (simp; done) | (simp; omega)) ?_))⟩)
          | (go_roundw; (case rel => exact ⟨k + 1, by omega, by go_num, allB_next HA.out ((by (first | (simp [*]; done) | (go_light; simp_all; done) | (go_light; simp_all; omega)))), by (repeat (first | with_reducible exact Below.refl _ _ | with_reducible exact below_regrown _ _ _ | with_reducible refine bel_step0 (by assumption) ?_ | with_reducible refine bel_alloc0 ?_ _ | with_reducible refine bel_regrown0 ?_ _ _ | with_reducible refine bel_regrown ?_ (by first | omega | (simp; done) | (simp; omega)) _ _ | with_reducible refine below_drewN ?_ _ | with_reducible refine Below.drew ?_ | with_reducible refine Below.alloc ?_ (by first | omega | (simp; done) | (simp; omega)) _ | with_reducible refine Below.setCell ?_ (by first | omega | (simp; done) | (simp; omega)) _ | with_reducible refine bel_step (by assumption) (by first | omega | (simp; done) | (simp; omega)) ?_ | with_reducible refine bel_grown (by assumption) (by first | omega | (simp; done) | (simp; omega)) (by first | omega | (simp; done) | (simp; omega)) ?_))⟩); (case measure => simp [intOf]; omega))
      · go_wp2
        (go_ret; obtain rfl : k = n := (by omega); exact ⟨ret_bool (by unfold eqI; rw [HA.out]; simp), by (repeat (first | with_reducible exact Below.refl _ _ | with_reducible exact below_regrown _ _ _ | with_reducible refine bel_step0 (by assumption) ?_ | with_reducible refine bel_alloc0 ?_ _ | with_reducible refine bel_regrown0 ?_ _ _ | with_reducible refine bel_regrown ?_ (by first | omega | (simp; done) | (simp; omega)) _ _ | with_reducible refine below_drewN ?_ _ | with_reducible refine Below.drew ?_ | with_reducible refine Below.alloc ?_ (by first | omega | (simp; done) | (simp; omega)) _ | with_reducible refine Below.setCell ?_ (by first | omega | (simp; done) | (simp; omega)) _ | with_reducible refine bel_step (by assumption) (by first | omega | (simp; done) | (simp; omega)) ?_ | with_reducible refine bel_grown (by assumption) (by first | omega | (simp; done) | (simp; omega)) (by first | omega | (simp; done) | (simp; omega)) ?_))⟩)
  · have h1 : ((n : Int) == (m : Int)) = false := by simp; omega
    have h2 : ((n : Int) != (m : Int)) = true := by simp; omega
    go_enter Tryz.func52, Tryz.ntmps52
    go_wp2
    go_ret
    exact ⟨ret_bool (by unfold eqI; rw [decide_eq_false hnm]; rfl), Below.refl _ _⟩
def eqL (xs ys : List Int) : Bool := eqI xs.length ys.length (ai xs) (ai ys)
def aoOk (s t : ByteArray) (n : Nat) (R : Nat → Rc) : Bool := goodQ s && (goodQ t && recsOk n R)
def aoV (s t : ByteArray) (n : Nat) (R : Nat → Rc) : Bool := aoOk s t n R && eqL (moL s n R) (moL t n R)
set_option maxHeartbeats 4000000 in
theorem C_AgreesOnI (s t : ByteArray) (v : Value) (n : Nat) (R : Nat → Rc) (hs : s.size ≤ 1048576) (ht : t.size ≤ 1048576) (w : World) (hkp : Pk w) (h : RcS w v n R) :
    Calls Tryz.prog 22 #[.string s, .string t, v] w fun e w' => e = .returned (.tuple #[.bool (aoV s t n R), .bool (aoOk s t n R)]) ∧ Below w.heap.size w w' := by
  have HH := Lib.hid h
  have HC := Lib.hid (C_MatchingI s v n R hs w hkp h)
  have HD := Lib.hid (fun w1 (hb : Below w.heap.size w w1) => C_MatchingI t v n R ht w1 (hkp.below hb) (h.below hb))
  obtain ⟨A, cap, rfl, hr, hc, hm⟩ := h
  clear hr hkp
  obtain ⟨xs, hxs⟩ : ∃ xs, moL s n R = xs := ⟨_, rfl⟩
  obtain ⟨ys, hys⟩ : ∃ ys, moL t n R = ys := ⟨_, rfl⟩
  obtain ⟨a, ha⟩ : ∃ a, moOk s n R = a := ⟨_, rfl⟩
  obtain ⟨b, hb⟩ : ∃ b, moOk t n R = b := ⟨_, rfl⟩
  have HO := Lib.hid (show aoOk s t n R = (a && b) by
    unfold aoOk; rw [← ha, ← hb]; unfold moOk; cases goodQ s <;> cases goodQ t <;> cases recsOk n R <;> rfl)
  have HV := Lib.hid (show aoV s t n R = ((a && b) && eqL xs ys) by unfold aoV; rw [HO.out, hxs, hys])
  rw [hxs, ha] at HC
  rw [hys, hb] at HD
  clear hxs hys ha hb
  cases a
  · go_enter Tryz.func22, Tryz.ntmps22
    go_wp2_with fail
    refine HC.out.mono ?_; rintro e w1 ⟨v1, rfl, ho1, hb1⟩
    have HB1 := Lib.hid hb1
    clear hb1 ho1
    go_wp2_with fail
    refine (HD.out _ HB1.out).mono ?_; rintro e w2 ⟨v2, rfl, ho2, hb2⟩
    have HB2 := Lib.hid (bel_step0 hb2 HB1.out)
    clear hb2 ho2
    cases b
    all_goals
      go_wp2
      go_ret2
      rw [HO.out, HV.out]
      exact ⟨rfl, HB2.out⟩
  · go_enter Tryz.func22, Tryz.ntmps22
    go_wp2_with fail
    refine HC.out.mono ?_; rintro e w1 ⟨v1, rfl, ho1, hb1⟩
    have HB1 := Lib.hid hb1
    have HO1 := Lib.hid ho1
    clear hb1 ho1
    go_wp2_with fail
    refine (HD.out _ HB1.out).mono ?_; rintro e w2 ⟨v2, rfl, ho2, hb2⟩
    have HB2 := Lib.hid (bel_step0 hb2 HB1.out)
    have HO2 := Lib.hid ho2.wi.si
    have HX2 := Lib.hid (HO1.out.below hb2).wi.si
    clear hb2 ho2
    cases b
    · go_wp2
      go_ret2
      rw [HO.out, HV.out]
      exact ⟨rfl, HB2.out⟩
    · go_wp2_with fail
      refine (C_EqualI _ _ _ _ _ _ _ HX2.out HO2.out).mono ?_; rintro e w3 ⟨rfl, hb3⟩
      go_wp2
      go_ret2
      rw [HO.out, HV.out]
      exact ⟨rfl, bel_step0 hb3 HB2.out⟩
set_option maxHeartbeats 4000000 in
theorem C_AgreesOnS (s t : ByteArray) (v : Value) (n : Nat) (R : Nat → Rc) (hs : s.size ≤ 1048576) (ht : t.size ≤ 1048576) (w : World) (h : RcS w v n R) :
    Calls Tryz.prog 23 #[.string s, .string t, v] w fun e w' => e = .returned (.tuple #[.bool (aoV s t n R), .bool (aoOk s t n R)]) ∧ Below w.heap.size w w' := by
  have HH := Lib.hid h
  have HCS := Lib.hid (C_l19Good s hs w)
  have HCT := Lib.hid (fun w => C_l19Good t ht w)
  have HOD := Lib.hid (show aoOk s t n R = (goodQ s && (goodQ t && recsOk n R)) from rfl)
  have HVD := Lib.hid (show aoV s t n R = (aoOk s t n R && eqL (moL s n R) (moL t n R)) from rfl)
  obtain ⟨A, cap, rfl, hr, hc, hm⟩ := h
  clear hr
  cases hg : goodQ s
  · have HO := Lib.hid (show aoOk s t n R = false by rw [HOD.out, hg]; rfl)
    rw [hg] at HCS
    clear hg
    go_enter Tryz.func23, Tryz.ntmps23
    go_wp2_with fail
    refine HCS.out.mono ?_; rintro e w1 ⟨rfl, hb1⟩
    go_wp2
    go_ret2
    rw [HVD.out, HO.out]
    exact ⟨rfl, hb1⟩
  cases hgt : goodQ t
  · have HO := Lib.hid (show aoOk s t n R = false by rw [HOD.out, hg, hgt]; rfl)
    rw [hg] at HCS
    rw [hgt] at HCT
    clear hg hgt
    go_enter Tryz.func23, Tryz.ntmps23
    go_wp2_with fail
    refine HCS.out.mono ?_; rintro e w1 ⟨rfl, hb1⟩
    go_wp2_with fail
    refine (HCT.out _).mono ?_; rintro e w2 ⟨rfl, hb2⟩
    go_wp2
    go_ret2
    rw [HVD.out, HO.out]
    exact ⟨rfl, bel_step0 hb2 hb1⟩
  obtain ⟨k, hk⟩ : ∃ k, recsOk n R = k := ⟨_, rfl⟩
  have HO := Lib.hid (show aoOk s t n R = k by rw [HOD.out, hg, hgt, hk]; rfl)
  have HK := Lib.hid hk
  obtain ⟨o, ho⟩ := good_some hg
  obtain ⟨p, hp⟩ := good_some hgt
  have HL := Lib.hid (fun (h : k = true) => show moL s n R = midL (mtch s) R n ∧ moL t n R = midL (mtch t) R n by
    unfold moL moOk; rw [hg, hgt, hk.trans h]; exact ⟨rfl, rfl⟩)
  have HA := Lib.hid (fun (h : k = true) w' h' => C_l19All s o (.slice A n cap) n R hs ho w' h' (hk.trans h))
  have HB := Lib.hid (fun (h : k = true) w' h' => C_l19All t p (.slice A n cap) n R ht hp w' h' (hk.trans h))
  rw [hg] at HCS
  rw [hgt] at HCT
  clear hg hgt hk ho hp
  go_enter Tryz.func23, Tryz.ntmps23
  go_wp2_with fail
  refine HCS.out.mono ?_; rintro e w1 ⟨rfl, hb1⟩
  have HB1 := Lib.hid hb1
  clear hb1
  go_wp2_with fail
  refine (HCT.out _).mono ?_; rintro e w2 ⟨rfl, hb2⟩
  have HB2 := Lib.hid (bel_step0 hb2 HB1.out)
  clear hb2
  go_wp2_with fail
  refine (C_l2Records _ n R _ (HH.out.below HB2.out)).mono ?_; rintro e w3 ⟨rfl, hb3⟩
  have HB3 := Lib.hid (bel_step0 hb3 HB2.out)
  rw [HK.out]
  clear hb3
  cases k
  · go_wp2
    go_ret2
    rw [HVD.out, HO.out]
    exact ⟨rfl, HB3.out⟩
  · go_wp2_with fail
    refine (HA.out (by trivial) _ (HH.out.below HB3.out)).mono ?_; rintro e w4 ⟨v4, rfl, ho4, hb4⟩
    have HB4 := Lib.hid (bel_step0 hb4 HB3.out)
    have HO4 := Lib.hid ho4
    clear ho4 hb4
    go_wp2_with fail
    refine (HB.out (by trivial) _ (HH.out.below HB4.out)).mono ?_; rintro e w5 ⟨v5, rfl, ho5, hb5⟩
    have HB5 := Lib.hid (bel_step0 hb5 HB4.out)
    have HX5 := Lib.hid (HO4.out.below hb5).wi.si
    have HO5 := Lib.hid ho5.wi.si
    clear ho5 hb5
    go_wp2_with fail
    refine (C_l1Same _ _ _ _ _ _ _ HX5.out HO5.out).mono ?_; rintro e w6 ⟨rfl, hb6⟩
    go_wp2
    go_ret2
    rw [HVD.out, HO.out, (HL.out (by trivial)).1, (HL.out (by trivial)).2]
    exact ⟨rfl, bel_step0 hb6 HB5.out⟩
end Go.Proofs.YtjmfkenhnfdbjaaGreatDoor

/- What the law FnMatches draws, and how it compares. No condition but those stated. -/
namespace Go.Proofs.YtjmfkenhnfdbjaaGreatDoor
set_option linter.unusedVariables false
set_option linter.unusedSimpArgs false
open Go.RowKit Go.Sort
theorem C_vInts (v v' : Value) (n m : Nat) (f g : Nat → Int) (w : World) (h : SI w v n f) (h' : SI w v' m g) :
    Calls Tryz.prog 25 #[v, v'] w fun e w' => e = .returned (.bool (eqI n m f g)) ∧ Below w.heap.size w w' := by
  obtain ⟨A, cap, rfl, hr, hc, hm⟩ := h
  obtain ⟨A', cap', rfl, hr', hc', hm'⟩ := h'
  have HR := Lib.hid hr; clear hr
  have HR' := Lib.hid hr'; clear hr'
  by_cases hnm : n = m
  · subst hnm
    go_enter Tryz.func25, Tryz.ntmps25
    go_wp2
    go_loopw [5] (fun i wr => ∃ k : Nat, k ≤ n ∧ i = .int .i64 k ∧ allB k (fun j => f j == g j) = true ∧ Below w.heap.size w wr) (fun i _ => n - (intOf i).toNat)
    case atStart => exact ⟨0, Nat.zero_le _, rfl, rfl, Below.refl _ _⟩
    case round =>
      obtain ⟨k, hk, rfl, ha, hB⟩ := hrel
      have HA := Lib.hid ha; clear ha
      by_cases hlt : k < n
      · obtain ⟨b, off, rfl, hb, hcell⟩ := (HR.out.below hB) (by omega)
        obtain ⟨b', off', rfl, hb', hcell'⟩ := (HR'.out.below hB) (by omega)
        have hck := hcell k hlt
        have hck' := hcell' k hlt
        have hk0 : (0 : Int) ≤ (k : Int) := by omega
        have hk1 : (k : Int) < (n : Int) := by omega
        clear hcell hcell'
        go_wp2
        go_quiet (fail)
        go_wp2
        all_goals first
          | (go_ret; exact ⟨ret_bool (by unfold eqI; rw [allB_of_not hlt ((by (first | (simp [*]; done) | (go_light; simp_all; done) | (go_light; simp_all; omega))))]; simp), by (repeat (first | with_reducible exact Below.refl _ _ | with_reducible exact below_regrown _ _ _ | with_reducible refine bel_step0 (by assumption) ?_ | with_reducible refine bel_alloc0 ?_ _ | with_reducible refine bel_regrown0 ?_ _ _ | with_reducible refine bel_regrown ?_ (by first | omega | (simp; done) | (simp; omega)) _ _ | with_reducible refine below_drewN ?_ _ | with_reducible refine Below.drew ?_ | with_reducible refine Below.alloc ?_ (by first | omega | (simp; done) | (simp; omega)) _ | with_reducible refine Below.setCell ?_ (by first | omega | (simp; done) | (simp; omega)) _ | with_reducible refine bel_step (by assumption) (by first | omega | (simp; done) | (simp; omega)) ?_ | with_reducible refine bel_grown (by assumption) (by first | omega | (simp; done) | (simp; omega)) (by first | omega | (simp; done) | (simp; omega)) ?_))⟩)
          | (go_roundw; (case rel => exact ⟨k + 1, by omega, by go_num, allB_next HA.out ((by (first | (simp [*]; done) | (go_light; simp_all; done) | (go_light; simp_all; omega)))), by (repeat (first | with_reducible exact Below.refl _ _ | with_reducible exact below_regrown _ _ _ | with_reducible refine bel_step0 (by assumption) ?_ | with_reducible refine bel_alloc0 ?_ _ | with_reducible refine bel_regrown0 ?_ _ _ | with_reducible refine bel_regrown ?_ (by first | omega | (simp; done) | (simp; omega)) _ _ | with_reducible refine below_drewN ?_ _ | with_reducible refine Below.drew ?_ | with_reducible refine Below.alloc ?_ (by first | omega | (simp; done) | (simp; omega)) _ | with_reducible refine Below.setCell ?_ (by first | omega | (simp; done) | (simp; omega)) _ | with_reducible refine bel_step (by assumption) (by first | omega | (simp; done) | (simp; omega)) ?_ | with_reducible refine bel_grown (by assumption) (by first | omega | (simp; done) | (simp; omega)) (by first | omega | (simp; done) | (simp; omega)) ?_))⟩); (case measure => simp [intOf]; omega))
      · go_wp2
        (go_ret; obtain rfl : k = n := (by omega); exact ⟨ret_bool (by unfold eqI; rw [HA.out]; simp), by (repeat (first | with_reducible exact Below.refl _ _ | with_reducible exact below_regrown _ _ _ | with_reducible refine bel_step0 (by assumption) ?_ | with_reducible refine bel_alloc0 ?_ _ | with_reducible refine bel_regrown0 ?_ _ _ | with_reducible refine bel_regrown ?_ (by first | omega | (simp; done) | (simp; omega)) _ _ | with_reducible refine below_drewN ?_ _ | with_reducible refine Below.drew ?_ | with_reducible refine Below.alloc ?_ (by first | omega | (simp; done) | (simp; omega)) _ | with_reducible refine Below.setCell ?_ (by first | omega | (simp; done) | (simp; omega)) _ | with_reducible refine bel_step (by assumption) (by first | omega | (simp; done) | (simp; omega)) ?_ | with_reducible refine bel_grown (by assumption) (by first | omega | (simp; done) | (simp; omega)) (by first | omega | (simp; done) | (simp; omega)) ?_))⟩)
  · have h1 : ((n : Int) == (m : Int)) = false := by simp; omega
    have h2 : ((n : Int) != (m : Int)) = true := by simp; omega
    go_enter Tryz.func25, Tryz.ntmps25
    go_wp2
    go_ret
    exact ⟨ret_bool (by unfold eqI; rw [decide_eq_false hnm]; rfl), Below.refl _ _⟩
theorem eqI_refl (n : Nat) (f : Nat → Int) : eqI n n f f = true := by
  unfold eqI; simp only [beq_self_eq_true, decide_true, Bool.true_and]; exact allB_iff.2 fun _ _ => rfl
set_option maxRecDepth 100000 in
set_option maxHeartbeats 4000000 in
theorem C_DrawMatching (v : Value) (n : Nat) (w : World) (h : SU w v n) :
    Calls Tryz.prog 26 #[v] w fun e w' => ∃ (s : ByteArray) (u : Value) (m : Nat) (R : Nat → Rc), e = .returned (.tuple #[.string s, u]) ∧ s.size ≤ 64 ∧ RcS w' u m R ∧ m ≤ 12 ∧ Below w.heap.size w w' := by
  obtain ⟨A, cap, rfl⟩ := h.form
  have b1 : Below w.heap.size w (w.alloc (.cells #[.slice A n cap, .int .i64 0, .int .u64 0] 55)) := (Below.refl _ _).alloc (Nat.le_refl _) _
  have cu0 := Cu.start h 55
  obtain ⟨w1, hw1⟩ : ∃ w1, w1 = w.alloc (.cells #[.slice A n cap, .int .i64 0, .int .u64 0] 55) := ⟨_, rfl⟩
  rw [← hw1] at b1 cu0
  have HW := Lib.hid hw1.symm
  have B1 := Lib.hid b1
  clear hw1 b1 h
  go_enter Tryz.func26, Tryz.ntmps26
  go_upto_region 2 with fail
  rw [HW.out]
  go_wp2_with fail
  refine (C_query w.heap.size 0 w1 cu0 (by omega)).mono ?_; rintro e w2 ⟨s2, rfl, hs2, cu2, hc2⟩
  have HC2 := Lib.hid hc2
  have HS2 := Lib.hid hs2
  clear hc2 cu0 hs2
  go_wp2_with fail
  refine (C_held w.heap.size _ w2 cu2 (by omega)).mono ?_; rintro e w3 ⟨u, l, rfl, hh, hl⟩
  have HH := Lib.hid hh
  clear hh cu2
  go_wp2
  go_ret2
  exact ⟨s2, u, l.length, _, rfl, HS2.out, HH.out.rcs, hl, bel_chg (HC2.out.trans HH.out.ch) (Nat.le_refl _) B1.out⟩
set_option maxRecDepth 100000 in
set_option maxHeartbeats 4000000 in
theorem C_DrawAgrees (v : Value) (n : Nat) (w : World) (h : SU w v n) :
    Calls Tryz.prog 21 #[v] w fun e w' => ∃ (s t : ByteArray) (u : Value) (m : Nat) (R : Nat → Rc), e = .returned (.tuple #[.string s, .string t, u]) ∧ s.size ≤ 64 ∧ t.size ≤ 70 ∧ RcS w' u m R ∧ m ≤ 12 ∧ Below w.heap.size w w' := by
  obtain ⟨A, cap, rfl⟩ := h.form
  have b1 : Below w.heap.size w (w.alloc (.cells #[.slice A n cap, .int .i64 0, .int .u64 0] 55)) := (Below.refl _ _).alloc (Nat.le_refl _) _
  have cu0 := Cu.start h 55
  obtain ⟨w1, hw1⟩ : ∃ w1, w1 = w.alloc (.cells #[.slice A n cap, .int .i64 0, .int .u64 0] 55) := ⟨_, rfl⟩
  rw [← hw1] at b1 cu0
  have HW := Lib.hid hw1.symm
  have B1 := Lib.hid b1
  clear hw1 b1 h
  go_enter Tryz.func21, Tryz.ntmps21
  go_upto_region 2 with fail
  rw [HW.out]
  go_wp2_with fail
  refine (C_query w.heap.size 0 w1 cu0 (by omega)).mono ?_; rintro e w2 ⟨s2, rfl, hs2, cu2, hc2⟩
  have HC2 := Lib.hid hc2
  clear hc2 cu0
  go_wp2_with fail
  refine (C_query w.heap.size _ w2 cu2 (by omega)).mono ?_; rintro e w3 ⟨s3, rfl, hs3, cu3, hc3⟩
  have HC3 := Lib.hid (HC2.out.trans hc3)
  clear hc3 cu2
  go_wp2_with fail
  refine (C_one w.heap.size _ 3 w3 cu3 (by omega) (by omega) (by omega)).mono ?_; rintro e w4 ⟨b, rfl, cu4, hb4⟩
  have HC4 := Lib.hid (HC3.out.trans (Chg.of_grown hb4))
  clear hb4 cu3
  cases b
  all_goals
    go_wp2_with fail
    refine (C_held w.heap.size _ w4 cu4 (by omega)).mono ?_; rintro e w5 ⟨u, l, rfl, hh, hl⟩
    have HH := Lib.hid hh
    clear hh cu4
    go_wp2
    go_ret3
    exact ⟨s2, _, u, l.length, _, rfl, hs2, by (try simp only [ByteArray.size_append, mk1, mk2, mk3]); omega, HH.out.rcs, hl, bel_chg (HC4.out.trans HH.out.ch) (Nat.le_refl _) B1.out⟩
end Go.Proofs.YtjmfkenhnfdbjaaGreatDoor
