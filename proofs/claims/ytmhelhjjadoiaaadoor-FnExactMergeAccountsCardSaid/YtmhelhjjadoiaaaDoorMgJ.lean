/- Marks on looks of the call's own. No condition but those stated. -/
import Derived.Test.YtmhelhjjadoiaaaDoorMgI
namespace Go.Proofs.YtmhelhjjadoiaaaDoor
set_option linter.unusedVariables false
set_option linter.unusedSimpArgs false
open Go.RowKit Go.Sort
set_option maxHeartbeats 2000000 in
theorem C_markLookZ (v : Value) (n k0 : Nat) (R : Nat → Lk) (lo hi : Nat) (w : World) (h : WK lo hi w v n R) (hn : n ≤ 1048576) (h1 : 1 ≤ k0) (h6 : k0 ≤ 6000000) :
    Calls Tryd.prog 32 #[v, .int .i64 k0] w fun e w' => ∃ k : Int, e = .returned (.int .i64 k) ∧ (1 ≤ k ∧ k ≤ 12000000) ∧ Chg lo hi w w' := by
  obtain ⟨A, cap, rfl, hr, hc, hm⟩ := h
  have hr2 : 0 < n → ∃ b off, A = some ⟨b, off, none⟩ ∧ lo ≤ b ∧ b < hi ∧ b < w.heap.size ∧ (∀ i, i < n * 5 → (w.cell? ⟨b, off + i, none⟩).isSome = true) ∧ ∀ i, w.frozen? ⟨b, i, none⟩ = false := fun h0 => by
    obtain ⟨b, off, e, h3, h4, h5, hcell, hf⟩ := hr h0
    refine ⟨b, off, e, h3, h4, h5, fun i hi => ?_, hf⟩
    have hx := hcell (i / 5) (by omega)
    have hm : i % 5 < 5 := Nat.mod_lt _ (by omega)
    have e2 : off + i = off + i / 5 * 5 + i % 5 := by omega
    rw [e2]
    generalize i % 5 = m at hm
    match m, hm with
    | 0, _ => rw [Nat.add_zero, hx.c0]; rfl
    | 1, _ => rw [hx.c1]; rfl
    | 2, _ => rw [hx.c2]; rfl
    | 3, _ => rw [hx.c3]; rfl
    | 4, _ => rw [hx.c4]; rfl
  have HR := Lib.hid hr2; clear hr hr2
  go_enter Tryd.func32, Tryd.ntmps32
  go_wp2
  go_loopw [1, 5] (fun q i wr => ∃ k : Nat, k ≤ n ∧ i = .int .i64 k ∧ q = .int .i64 ((k0 + k * 5 : Nat) : Int) ∧ Chg lo hi w wr ∧
    (0 < n → ∃ b off, A = some ⟨b, off, none⟩ ∧ lo ≤ b ∧ b < hi ∧ b < wr.heap.size ∧ (∀ i, i < n * 5 → (wr.cell? ⟨b, off + i, none⟩).isSome = true) ∧ ∀ i, wr.frozen? ⟨b, i, none⟩ = false)) (fun _ i _ => n - (intOf i).toNat)
  case atStart => exact ⟨0, Nat.zero_le _, rfl, by simp, Chg.refl _ _ _, HR.out⟩
  case round =>
    obtain ⟨k, hk, rfl, rfl, hC, hrow⟩ := hrel
    have HC := Lib.hid hC; clear hC
    have HROW := Lib.hid hrow; clear hrow
    by_cases hlt : k < n
    · obtain ⟨b, off, rfl, hb1, hb2, hb3, hcell, hfz⟩ := HROW.out (by omega)
      have HCELL := Lib.hid hcell
      have HFZ := Lib.hid hfz
      obtain ⟨v0, e0⟩ := Option.isSome_iff_exists.1 (hcell (k * 5) (by omega))
      obtain ⟨v1, e1⟩ := Option.isSome_iff_exists.1 (hcell (k * 5 + 1) (by omega))
      obtain ⟨v2, e2⟩ := Option.isSome_iff_exists.1 (hcell (k * 5 + 2) (by omega))
      obtain ⟨v3, e3⟩ := Option.isSome_iff_exists.1 (hcell (k * 5 + 3) (by omega))
      simp only [← Nat.add_assoc] at e1 e2 e3
      have f0 := hfz (off + k * 5)
      have f1 := hfz (off + k * 5 + 1)
      have f2 := hfz (off + k * 5 + 2)
      have f3 := hfz (off + k * 5 + 3)
      clear hcell hfz
      go_wp2_with fail
      obtain ⟨W5, hW5⟩ : ∃ W5, W5 = ((((wr.setCell ⟨b, off + k * 5, none⟩ (.int .i64 (k0 + k * 5))).setCell ⟨b, off + k * 5 + 1, none⟩ (.int .i64 (k0 + k * 5 + 1))).setCell ⟨b, off + k * 5 + 2, none⟩ (.int .i64 (k0 + k * 5 + 1 + 1))).setCell ⟨b, off + k * 5 + 3, none⟩ (.int .i64 (k0 + k * 5 + 1 + 1 + 1))) := ⟨_, rfl⟩
      have hm5 : MayW lo hi w W5 b off (n * 5) := by
        rw [hW5]
        exact ((((MayW.mk HCELL.out HFZ.out hb3 HC.out).set hb1 hb2 _ _).set hb1 hb2 _ _).set hb1 hb2 _ _).set hb1 hb2 _ _
      rw [← hW5]
      clear hW5 e0 e1 e2 e3 f0 f1 f2 f3
      refine (C_markTextZ _ _ (by omega) (by omega)).mono ?_; rintro e w6 ⟨s6, rfl, hb6⟩
      have hm6 := hm5.below hb6
      have HM6 := Lib.hid hm6
      obtain ⟨v4, e4⟩ := Option.isSome_iff_exists.1 (hm6.cell (k * 5 + 4) (by omega))
      simp only [← Nat.add_assoc] at e4
      have f4 := hm6.fz (off + k * 5 + 4)
      clear hm5 hm6 hb6
      go_wp2
      go_roundw
      case rel =>
        have h7 := HM6.out.set hb1 hb2 (off + k * 5 + 4) (.string s6)
        exact ⟨k + 1, by omega, by go_num, by go_num, h7.chg, fun _ => ⟨b, off, rfl, hb1, hb2, h7.lt, h7.cell, h7.fz⟩⟩
      case measure => simp [intOf]; omega
    · go_wp2
      go_ret
      exact ⟨_, rfl, by omega, HC.out⟩

/-- The row g of n looks, of the call's own: its cells. -/
def O5 (base : Nat) (w : World) (g n cap : Nat) (C : Nat → Value) : Prop :=
  ∃ xs : List Value, w.ownsRow base 26 5 (.slice (some ⟨g, 0, none⟩) n cap) n xs ∧ ∀ i, i < n * 5 → xs[i]? = some (C i)
theorem O5.ofB {base g n cap : Nat} {w w' : World} {C : Nat → Value} (h : O5 base w g n cap C) (hb : w'.heap[g]? = w.heap[g]?) : O5 base w' g n cap C :=
  let ⟨xs, h1, h2⟩ := h
  ⟨xs, own_of_block h1 (fun q hq => by have : g = q := (by simpa [Value.ownBlock] using hq); subst this; exact hb), h2⟩
theorem O5.lt {base g n cap : Nat} {w : World} {C : Nat → Value} (h : O5 base w g n cap C) : base ≤ g ∧ g < w.heap.size :=
  let ⟨_, h1, _⟩ := h
  World.ownsRow.lt h1 g (by simp [Value.ownBlock])
theorem O5.below {base g n cap : Nat} {w w' : World} {C : Nat → Value} (hb : Below w.heap.size w w') (h : O5 base w g n cap C) : O5 base w' g n cap C := h.ofB (hb.block g h.lt.2)
theorem O5.cell {base g n cap : Nat} {w : World} {C : Nat → Value} (h : O5 base w g n cap C) {i : Nat} (hi : i < n * 5) : w.cell? ⟨g, i, none⟩ = some (C i) := by
  obtain ⟨xs, h1, h2⟩ := h
  rw [h1.cellAt i hi, h2 i hi]
theorem O5.frozen {base g n cap : Nat} {w : World} {C : Nat → Value} (h : O5 base w g n cap C) (i : Nat) : w.frozen? ⟨g, i, none⟩ = false := by
  obtain ⟨xs, h1, _⟩ := h
  exact h1.frozenAt i
def upV (C : Nat → Value) (j : Nat) (u : Value) (i : Nat) : Value := if i = j then u else C i
theorem O5.set {base g n cap : Nat} {w : World} {C : Nat → Value} (h : O5 base w g n cap C) (j : Nat) (u : Value) : O5 base (w.setCell ⟨g, j, none⟩ u) g n cap (upV C j u) := by
  obtain ⟨xs, h1, h2⟩ := h
  refine ⟨xs.set j u, (h1.stored j u).1, fun i hi => ?_⟩
  rw [List.getElem?_set]
  have hl : xs.length = n * 5 := h1.1
  unfold upV
  by_cases e : j = i
  · rw [if_pos e, if_pos (by omega), if_pos e.symm]
  · rw [if_neg e, if_neg (fun h => e h.symm)]; exact h2 i hi
theorem O5.congr {base g n cap : Nat} {w : World} {C D : Nat → Value} (h : O5 base w g n cap C) (e : ∀ i, i < n * 5 → C i = D i) : O5 base w g n cap D :=
  let ⟨xs, h1, h2⟩ := h
  ⟨xs, h1, fun i hi => by rw [h2 i hi, e i hi]⟩
def mkL (k0 j : Nat) : Lk := ⟨((k0 + j * 5 : Nat) : Int), ((k0 + j * 5 + 1 : Nat) : Int), ((k0 + j * 5 + 2 : Nat) : Int), ((k0 + j * 5 + 3 : Nat) : Int), mText (k0 + j * 5 + 4)⟩
def mkC (k0 : Nat) (F : Nat → Lk) (k i : Nat) : Value := if i < k * 5 then cK (mkL k0 (i / 5)) (i % 5) else cK (F (i / 5)) (i % 5)
theorem mkC_next (k0 : Nat) (F : Nat → Lk) (k i : Nat) :
    upV (upV (upV (upV (upV (mkC k0 F k) (k * 5) (.int .i64 ((k0 + k * 5 : Nat) : Int))) (k * 5 + 1) (.int .i64 ((k0 + k * 5 + 1 : Nat) : Int))) (k * 5 + 2) (.int .i64 ((k0 + k * 5 + 2 : Nat) : Int))) (k * 5 + 3) (.int .i64 ((k0 + k * 5 + 3 : Nat) : Int))) (k * 5 + 4) (.string (mText (k0 + k * 5 + 4))) i = mkC k0 F (k + 1) i := by
  unfold upV mkC
  by_cases e4 : i = k * 5 + 4
  · subst e4
    rw [if_pos rfl, if_pos (by omega), show (k * 5 + 4) / 5 = k by omega, show (k * 5 + 4) % 5 = 4 by omega]; rfl
  rw [if_neg e4]
  by_cases e3 : i = k * 5 + 3
  · subst e3
    rw [if_pos rfl, if_pos (by omega), show (k * 5 + 3) / 5 = k by omega, show (k * 5 + 3) % 5 = 3 by omega]; rfl
  rw [if_neg e3]
  by_cases e2 : i = k * 5 + 2
  · subst e2
    rw [if_pos rfl, if_pos (by omega), show (k * 5 + 2) / 5 = k by omega, show (k * 5 + 2) % 5 = 2 by omega]; rfl
  rw [if_neg e2]
  by_cases e1 : i = k * 5 + 1
  · subst e1
    rw [if_pos rfl, if_pos (by omega), show (k * 5 + 1) / 5 = k by omega, show (k * 5 + 1) % 5 = 1 by omega]; rfl
  rw [if_neg e1]
  by_cases e0 : i = k * 5
  · subst e0
    rw [if_pos rfl, if_pos (by omega), show (k * 5) / 5 = k by omega, show (k * 5) % 5 = 0 by omega]; rfl
  rw [if_neg e0]
  by_cases c : i < k * 5
  · rw [if_pos c, if_pos (by omega)]
  · rw [if_neg c, if_neg (by omega)]
set_option maxHeartbeats 4000000 in
theorem C_markO5 (base g n cap k0 : Nat) (F : Nat → Lk) (w : World) (h : O5 base w g n cap (mkC k0 F 0)) (hn : n ≤ 1048576) (h1 : 1 ≤ k0) (h6 : k0 ≤ 6000000) :
    Calls Tryd.prog 32 #[.slice (some ⟨g, 0, none⟩) n cap, .int .i64 k0] w fun e w' => e = .returned (.int .i64 ((k0 + n * 5 : Nat) : Int)) ∧ O5 base w' g n cap (mkC k0 F n) ∧ w.grownBy w' (some g) := by
  have HH := Lib.hid h
  clear h
  go_enter Tryd.func32, Tryd.ntmps32
  go_wp2
  go_loopw [1, 5] (fun q i wr => ∃ k : Nat, k ≤ n ∧ i = .int .i64 k ∧ q = .int .i64 ((k0 + k * 5 : Nat) : Int) ∧ O5 base wr g n cap (mkC k0 F k) ∧ w.grownBy wr (some g)) (fun _ i _ => n - (intOf i).toNat)
  case atStart => exact ⟨0, Nat.zero_le _, rfl, by simp, HH.out, World.grownBy.refl _ _⟩
  case round =>
    clear HH
    obtain ⟨k, hk, rfl, rfl, hO, hg⟩ := hrel
    by_cases hlt : k < n
    · have e0 := hO.cell (i := k * 5) (by omega)
      have e1 := hO.cell (i := k * 5 + 1) (by omega)
      have e2 := hO.cell (i := k * 5 + 2) (by omega)
      have e3 := hO.cell (i := k * 5 + 3) (by omega)
      have f0 := hO.frozen (k * 5)
      have f1 := hO.frozen (k * 5 + 1)
      have f2 := hO.frozen (k * 5 + 2)
      have f3 := hO.frozen (k * 5 + 3)
      have hk1 : (k : Int) < (n : Int) := by omega
      have hk0 : (0 : Int) ≤ (k : Int) := by omega
      have HO := Lib.hid hO
      have HG := Lib.hid hg
      generalize mkC k0 F k (k * 5) = z0 at e0
      generalize mkC k0 F k (k * 5 + 1) = z1 at e1
      generalize mkC k0 F k (k * 5 + 2) = z2 at e2
      generalize mkC k0 F k (k * 5 + 3) = z3 at e3
      clear hO hg
      go_wp2_with fail
      obtain ⟨W5, hW5⟩ : ∃ W5, W5 = ((((wr.setCell ⟨g, k * 5, none⟩ (.int .i64 (k0 + k * 5))).setCell ⟨g, k * 5 + 1, none⟩ (.int .i64 (k0 + k * 5 + 1))).setCell ⟨g, k * 5 + 2, none⟩ (.int .i64 (k0 + k * 5 + 1 + 1))).setCell ⟨g, k * 5 + 3, none⟩ (.int .i64 (k0 + k * 5 + 1 + 1 + 1))) := ⟨_, rfl⟩
      have h5 : O5 base W5 g n cap (upV (upV (upV (upV (mkC k0 F k) (k * 5) (.int .i64 ((k0 + k * 5 : Nat) : Int))) (k * 5 + 1) (.int .i64 ((k0 + k * 5 + 1 : Nat) : Int))) (k * 5 + 2) (.int .i64 ((k0 + k * 5 + 2 : Nat) : Int))) (k * 5 + 3) (.int .i64 ((k0 + k * 5 + 3 : Nat) : Int))) := by
        rw [hW5]
        have := (((HO.out.set (k * 5) (.int .i64 ((k0 : Int) + (k : Int) * 5))).set (k * 5 + 1) (.int .i64 ((k0 : Int) + (k : Int) * 5 + 1))).set (k * 5 + 2) (.int .i64 ((k0 : Int) + (k : Int) * 5 + 1 + 1))).set (k * 5 + 3) (.int .i64 ((k0 : Int) + (k : Int) * 5 + 1 + 1 + 1))
        refine this.congr fun i hi => ?_
        rw [show ((k0 + k * 5 : Nat) : Int) = (k0 : Int) + (k : Int) * 5 by omega, show ((k0 + k * 5 + 1 : Nat) : Int) = (k0 : Int) + (k : Int) * 5 + 1 by omega, show ((k0 + k * 5 + 2 : Nat) : Int) = (k0 : Int) + (k : Int) * 5 + 1 + 1 by omega, show ((k0 + k * 5 + 3 : Nat) : Int) = (k0 : Int) + (k : Int) * 5 + 1 + 1 + 1 by omega]
      have hg5 : w.grownBy W5 (some g) := by
        rw [hW5]
        (repeat (first | with_reducible exact World.grownBy.refl _ _ | with_reducible refine only_drewN ?_ _ | with_reducible refine only_drew ?_ | with_reducible refine only_alloc ?_ _ | with_reducible refine only_setCell ?_ (by first | exact Or.inl rfl | (refine Or.inr ?_; simp; done) | (refine Or.inr ?_; omega)) _))
        exact HG.out
      have CM : Calls Tryd.prog 67 #[.int .i64 ((k0 : Int) + (k : Int) * 5 + 1 + 1 + 1 + 1)] W5 fun e w' => e = .returned (.string (mText (k0 + k * 5 + 4))) ∧ Below W5.heap.size W5 w' := by
        have := C_markText (k0 + k * 5 + 4) W5 (by omega) (by omega)
        rw [show ((k0 + k * 5 + 4 : Nat) : Int) = (k0 : Int) + (k : Int) * 5 + 1 + 1 + 1 + 1 by omega] at this
        exact this
      rw [← hW5]
      clear hW5 e0 e1 e2 e3 f0 f1 f2 f3 HO HG
      refine CM.mono ?_; rintro e w6 ⟨rfl, hb6⟩
      clear CM
      have h6 := h5.below hb6
      have hg6 := grown_belowK hg5 hb6
      have e4 := h6.cell (i := k * 5 + 4) (by omega)
      have f4 := h6.frozen (k * 5 + 4)
      have H7 := Lib.hid (And.intro (h6.set (k * 5 + 4) (.string (mText (k0 + k * 5 + 4)))) hg6)
      generalize upV _ _ _ (k * 5 + 4) = z4 at e4
      clear h5 hg5 hb6 h6 hg6
      go_wp2
      go_roundw
      case rel => exact ⟨k + 1, by omega, by go_num, by go_num, H7.out.1.congr fun i _ => mkC_next k0 F k i, by (repeat (first | with_reducible exact World.grownBy.refl _ _ | with_reducible refine only_drewN ?_ _ | with_reducible refine only_drew ?_ | with_reducible refine only_alloc ?_ _ | with_reducible refine only_setCell ?_ (by first | exact Or.inl rfl | (refine Or.inr ?_; simp; done) | (refine Or.inr ?_; omega)) _)); exact H7.out.2⟩
      case measure => simp [intOf]; omega
    · obtain rfl : k = n := by omega
      have HO := Lib.hid (And.intro hO hg)
      clear hO hg
      go_wp2
      go_ret
      exact ⟨rfl, HO.out⟩
theorem C_mark0 (A : Option Addr) (cap k0 : Nat) (w : World) :
    Calls Tryd.prog 32 #[.slice A 0 cap, .int .i64 k0] w fun e w' => e = .returned (.int .i64 k0) ∧ w = w' := by
  go_enter Tryd.func32, Tryd.ntmps32
  go_wp2
  refine wp_loop_rounds 1 ?_
  rw [rounds_succ]
  go_wp2
  go_ret
  exact ⟨rfl, rfl⟩
theorem C_markOL (base k0 n : Nat) (v : Value) (l : List Lk) (w : World) (hl : l.length = n) (h : OL base w v l) (hn : n ≤ 1048576) (h1 : 1 ≤ k0) (h6 : k0 ≤ 6000000) :
    Calls Tryd.prog 32 #[v, .int .i64 k0] w fun e w' => e = .returned (.int .i64 ((k0 + n * 5 : Nat) : Int)) ∧ OL base w' v (seg (mkL k0) 0 n) ∧ w.grownBy w' v.ownBlock := by
  rcases Nat.eq_zero_or_pos n with h0 | h0
  · subst h0
    obtain rfl : l = [] := List.eq_nil_of_length_eq_zero hl
    obtain ⟨A, cap, rfl⟩ := h.form
    refine (C_mark0 A cap k0 w).mono ?_
    rintro e w' ⟨rfl, rfl⟩
    exact ⟨rfl, h, World.grownBy.refl _ _⟩
  · rcases h.2 with ⟨rfl, h2⟩ | ⟨g, cap, cur, rfl, _⟩
    · omega
    · rw [hl] at h ⊢
      have hk := OL.kf hl h
      obtain ⟨xs, hx1, hx2⟩ := hk
      have hO : O5 base w g n cap (mkC k0 (atK l) 0) := ⟨xs, hx1, fun i hi => by rw [hx2 i hi]; unfold mkC; rw [if_neg (by omega)]⟩
      refine (C_markO5 base g n cap k0 (atK l) w hO hn h1 h6).mono ?_
      rintro e w' ⟨rfl, ho, hg⟩
      obtain ⟨ys, hy1, hy2⟩ := ho
      have hK : KF base w' g n cap (mkL k0) := ⟨ys, hy1, fun i hi => by rw [hy2 i hi]; unfold mkC; rw [if_pos hi]⟩
      exact ⟨rfl, hK.ol, hg⟩
set_option maxHeartbeats 4000000 in
theorem C_heldLookS (v : Value) (n k0 : Nat) (w : World) (h : LKs w v n (mkL k0)) (h1 : 1 ≤ k0) (h6 : k0 ≤ 6000000) (hn : n ≤ 1048576) :
    Calls Tryd.prog 48 #[v, .int .i64 k0] w fun e w' => e = .returned (.int .i64 ((k0 + n * 5 : Nat) : Int)) ∧ Below w.heap.size w w' := by
  obtain ⟨A, cap, rfl, hr, hc, hm⟩ := h
  have HR := Lib.hid hr; clear hr
  go_enter Tryd.func48, Tryd.ntmps48
  go_wp2
  go_loopw [1, 5] (fun q i wr => ∃ k : Nat, k ≤ n ∧ i = .int .i64 k ∧ q = .int .i64 ((k0 + k * 5 : Nat) : Int) ∧ Below w.heap.size w wr) (fun _ i _ => n - (intOf i).toNat)
  case atStart => exact ⟨0, Nat.zero_le _, rfl, by simp, Below.refl _ _⟩
  case round =>
    obtain ⟨k, hk, rfl, rfl, hB⟩ := hrel
    by_cases hlt : k < n
    · obtain ⟨b, off, rfl, hb, hcell⟩ := (HR.out.below hB) (by omega)
      obtain ⟨c0, c1, c2, c3, c4⟩ := hcell k hlt
      have hn0 : (k : Int) < (n : Int) := by omega
      have hk0 : (0 : Int) ≤ (k : Int) := by omega
      obtain ⟨s0, hs0⟩ : ∃ s0, mText (k0 + k * 5 + 4) = s0 := ⟨_, rfl⟩
      have HE : ∀ d os, Calls Tryd.prog 67 #[.int .i64 ((k0 : Int) + (k : Int) * 5 + 1 + 1 + 1 + 1)] (grow (redrawn wr d) os) fun e w'' => e = .returned (.string s0) ∧ ∃ p : Regrown, w'' = grow (redrawn wr p.d) p.os :=
        fun d os => Calls.regrown_of (by
          have := C_markText (k0 + k * 5 + 4) (grow (redrawn wr d) os) (by omega) (by omega)
          rw [show ((k0 + k * 5 + 4 : Nat) : Int) = (k0 : Int) + (k : Int) * 5 + 1 + 1 + 1 + 1 by omega, hs0] at this
          exact this)
      have d0 : wr.cell? ⟨b, off + k * 5, none⟩ = some (.int .i64 ((k0 : Int) + (k : Int) * 5)) := by rw [c0]; simp only [mkL]; rw [show ((k0 + k * 5 : Nat) : Int) = (k0 : Int) + (k : Int) * 5 by omega]
      have d1 : wr.cell? ⟨b, off + k * 5 + 1, none⟩ = some (.int .i64 ((k0 : Int) + (k : Int) * 5 + 1)) := by rw [c1]; simp only [mkL]; rw [show ((k0 + k * 5 + 1 : Nat) : Int) = (k0 : Int) + (k : Int) * 5 + 1 by omega]
      have d2 : wr.cell? ⟨b, off + k * 5 + 2, none⟩ = some (.int .i64 ((k0 : Int) + (k : Int) * 5 + 1 + 1)) := by rw [c2]; simp only [mkL]; rw [show ((k0 + k * 5 + 2 : Nat) : Int) = (k0 : Int) + (k : Int) * 5 + 1 + 1 by omega]
      have d3 : wr.cell? ⟨b, off + k * 5 + 3, none⟩ = some (.int .i64 ((k0 : Int) + (k : Int) * 5 + 1 + 1 + 1)) := by rw [c3]; simp only [mkL]; rw [show ((k0 + k * 5 + 3 : Nat) : Int) = (k0 : Int) + (k : Int) * 5 + 1 + 1 + 1 by omega]
      have d4 : wr.cell? ⟨b, off + k * 5 + 4, none⟩ = some (.string s0) := by rw [c4]; simp only [mkL]; rw [hs0]
      have g4 := cell_regrown d4
      clear c0 c1 c2 c3 c4 hcell hs0 d4
      go_wp2
      (refine wp_region_quiet_below (by kernel_rfl) (by kernel_rfl) ?_; (repeat (go_big_quiet_step (exact HE _ _))); refine wpQuiet_nil ?_; intro _ hw'; obtain ⟨⟨dq, osq⟩, hw''⟩ := hw'; subst hw'')
      clear g4 HE d0 d1 d2 d3
      go_wp2
      go_roundw
      case rel => exact ⟨k + 1, by omega, by go_num, by go_num, by (repeat (first | with_reducible exact Below.refl _ _ | with_reducible exact below_regrown _ _ _ | with_reducible refine bel_step0 (by assumption) ?_ | with_reducible refine bel_alloc0 ?_ _ | with_reducible refine bel_regrown0 ?_ _ _ | with_reducible refine bel_regrown ?_ (by first | omega | (simp; done) | (simp; omega)) _ _ | with_reducible refine below_drewN ?_ _ | with_reducible refine Below.drew ?_ | with_reducible refine Below.alloc ?_ (by first | omega | (simp; done) | (simp; omega)) _ | with_reducible refine Below.setCell ?_ (by first | omega | (simp; done) | (simp; omega)) _ | with_reducible refine bel_step (by assumption) (by first | omega | (simp; done) | (simp; omega)) ?_ | with_reducible refine bel_grown (by assumption) (by first | omega | (simp; done) | (simp; omega)) (by first | omega | (simp; done) | (simp; omega)) ?_))⟩
      case measure => simp [intOf]; omega
    · obtain rfl : k = n := by omega
      go_wp2
      go_ret
      exact ⟨rfl, hB⟩
end Go.Proofs.YtmhelhjjadoiaaaDoor
