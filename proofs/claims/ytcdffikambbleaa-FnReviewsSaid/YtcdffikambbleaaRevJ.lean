/- Copies of lists of reviews. No condition but those stated. -/
import Derived.Test.YtcdffikambbleaaRevI
namespace Go.Proofs.Ytcdffikambbleaa
set_option linter.unusedVariables false
set_option linter.unusedSimpArgs false
open Go.RowKit Go.Sort

def toL (x : Rv) : Rl := ⟨x.rid, x.due, lst x.n x.f⟩
theorem OI.mono {base base' : Nat} {w : World} {v : Value} {xs : List Int} (hb : base' ≤ base) (h : OI base w v xs) : OI base' w v xs := by
  refine ⟨h.1, ?_⟩
  rcases h.2 with h0 | ⟨g, cap, cur, e, h1, h2⟩
  · exact .inl h0
  · exact .inr ⟨g, cap, cur, e, by omega, h2⟩
theorem own_ne {base base' : Nat} {w : World} {v s : Value} {n : Nat} {F : Nat → Value} {xs : List Int} (h : own3 base w v n F) (k : OI base' w s xs) {g : Nat} (hg : v.ownBlock = some g) : s.ownBlock ≠ some g := by
  intro hs
  obtain ⟨ys, h1, _⟩ := h
  rcases h1.2 with ⟨rfl, _⟩ | ⟨g1, _, cur, rfl, _, hh, _⟩
  · cases hg
  rcases k.2 with ⟨rfl, _⟩ | ⟨g2, _, cur2, rfl, _, hh2, _⟩
  · cases hs
  simp only [Value.ownBlock, Option.some.injEq] at hg hs
  subst hg
  rw [hs] at hh2
  rw [hh2] at hh
  injection hh with hh
  injection hh with _ e
  exact absurd e (by decide)
theorem slice_one {w : World} {v : Value} {n : Nat} {f : Nat → Int} (h : SI w v n f) : v.oneCell' = true := by
  obtain ⟨A, cap, rfl, _⟩ := h; rfl
theorem c3_one {x : Rv} {sv : Value} (h : sv.oneCell' = true) (m : Nat) : (c3 x sv m).oneCell' = true := by
  unfold c3; split
  · rfl
  · split
    · rfl
    · exact h
theorem RRs.choose {w : World} {A : Option Addr} {n : Nat} {R : Nat → Rv} (h : 0 < n → ∃ b off, A = some ⟨b, off, none⟩ ∧ b < w.heap.size ∧ ∀ j, j < n → ∃ sv, SI w sv (R j).n (R j).f ∧
    w.cell? ⟨b, off + j * 3, none⟩ = some (.int .i64 (R j).rid) ∧ w.cell? ⟨b, off + j * 3 + 1, none⟩ = some (.int .i64 (R j).due) ∧ w.cell? ⟨b, off + j * 3 + 2, none⟩ = some sv) :
    ∃ T : Nat → Value, (∀ j, j < n → SI w (T j) (R j).n (R j).f) ∧ Reads w w.heap.size 3 A n ((List.range (n * 3)).map fun i => c3 (R (i / 3)) (T (i / 3)) (i % 3)) := by
  rcases Nat.eq_zero_or_pos n with rfl | h0
  · exact ⟨fun _ => .slice none 0 0, fun j hj => absurd hj (by omega), by simp, fun h => absurd h (by omega)⟩
  · obtain ⟨b, off, rfl, hb, hc⟩ := h h0
    have key : ∀ j, ∃ sv, j < n → SI w sv (R j).n (R j).f ∧
      w.cell? ⟨b, off + j * 3, none⟩ = some (.int .i64 (R j).rid) ∧ w.cell? ⟨b, off + j * 3 + 1, none⟩ = some (.int .i64 (R j).due) ∧ w.cell? ⟨b, off + j * 3 + 2, none⟩ = some sv := by
      intro j
      by_cases hj : j < n
      · obtain ⟨sv, h⟩ := hc j hj; exact ⟨sv, fun _ => h⟩
      · exact ⟨.slice none 0 0, fun h => absurd h hj⟩
    obtain ⟨T, hT⟩ := Classical.axiomOfChoice key
    refine ⟨T, fun j hj => (hT j hj).1, by simp, fun _ => ⟨_, rfl, hb, fun i u hu => ?_⟩⟩
    have hi : i < n * 3 := by have := (List.getElem?_eq_some_iff.1 hu).1; simpa using this
    rw [List.getElem?_map, List.getElem?_range hi] at hu
    simp only [Option.map_some, Option.some.injEq] at hu
    subst hu
    obtain ⟨_, t0, t1, t2⟩ := hT (i / 3) (by omega)
    have e : (Addr.add ⟨b, off, none⟩ i) = ⟨b, off + i, none⟩ := by
      unfold Addr.add
      by_cases e : i = 0
      · subst e; rfl
      · rw [if_neg e]
    rw [e]
    have hm : i % 3 = 0 ∨ i % 3 = 1 ∨ i % 3 = 2 := by omega
    rcases hm with hm | hm | hm
    · rw [hm, show off + i = off + i / 3 * 3 by omega, t0]; rfl
    · rw [hm, show off + i = off + i / 3 * 3 + 1 by omega, t1]; rfl
    · rw [hm, show off + i = off + i / 3 * 3 + 2 by omega, t2]; rfl
theorem Reads.below' {w w' : World} {size n : Nat} {A : Option Addr} {xs : List Value} (h : Reads w w.heap.size size A n xs) (hb : Below w.heap.size w w') : Reads w' w'.heap.size size A n xs := (h.below hb).more hb.size
theorem C_CloneRev (v : Value) (n : Nat) (R : Nat → Rv) (w : World) (h : RRs w v n R) (hn : n ≤ 1048576) :
    Calls Try.prog 113 #[v] w fun e w' => ∃ (v' : Value) (T : Nat → Value), e = .returned v' ∧ own3 w.heap.size w' v' n (fun i => c3 (R (i / 3)) (T (i / 3)) (i % 3)) ∧ (∀ j, j < n → SI w (T j) (R j).n (R j).f) ∧ Below w.heap.size w w' := by
  obtain ⟨A, cap, rfl, hr, hc, hm⟩ := h
  obtain ⟨T, hT, hrd⟩ := RRs.choose hr
  have HT := Lib.hid hT; clear hT
  have HRD := Lib.hid hrd; clear hrd
  have HR := Lib.hid hr; clear hr
  rcases A with _ | ad
  · have h0 : n = 0 := by
      rcases Nat.eq_zero_or_pos n with h0 | h0
      · exact h0
      · obtain ⟨b, off, e, _⟩ := HR.out h0; cases e
    subst h0
    have hnil := Lib.run_eql_slice_nil_nil (P := Try.prog) (t := 34) (e := 27)
    have hnil2 := fun W : World => hnil W 0 cap Try.underlying34
    clear hnil
    go_enter Try.func113, Try.ntmps113
    go_wp2
    go_ret
    exact ⟨_, T, rfl, ⟨[], World.ownsRow_nil _ _ _ _, fun i hi => absurd hi (by omega)⟩, HT.out, Below.refl _ _⟩
  · have hnil2 := fun W : World => Lib.run_eql_slice_nil (P := Try.prog) W 34 27 (some ad) n cap 0 0 Try.underlying34
    go_enter Try.func113, Try.ntmps113
    go_wp2_with (at_builtin; refine wp_app3 _ rfl (.tmp 5) (.tmp 6) rfl w.heap.size _ 0 (fun _ => undef) rfl (own3.empty (Nat.le_refl _) _) (some ad) n cap _ rfl (HRD.out.below' ((Below.refl _ _).alloc (Nat.le_refl _) _)) (fun i hi => c3_one (slice_one (HT.out (i / 3) (by omega))) _) (by omega) (by simp) ?_; intro v1 w1 ho1 hb1 _)
    go_ret
    refine ⟨_, T, rfl, ?_, HT.out, Below.trans ?_ hb1⟩
    · rw [Nat.zero_add] at ho1
      exact ho1.congr fun i hi => by simp
    · (repeat (first | with_reducible exact Below.refl _ _ | with_reducible exact below_regrown _ _ _ | with_reducible refine bel_step0 (by assumption) ?_ | with_reducible refine bel_alloc0 ?_ _ | with_reducible refine bel_regrown0 ?_ _ _ | with_reducible refine bel_regrown ?_ (by first | omega | (simp; done) | (simp; omega)) _ _ | with_reducible refine below_drewN ?_ _ | with_reducible refine Below.drew ?_ | with_reducible refine Below.alloc ?_ (by first | omega | (simp; done) | (simp; omega)) _ | with_reducible refine Below.setCell ?_ (by first | omega | (simp; done) | (simp; omega)) _ | with_reducible refine bel_step (by assumption) (by first | omega | (simp; done) | (simp; omega)) ?_ | with_reducible refine bel_grown (by assumption) (by first | omega | (simp; done) | (simp; omega)) (by first | omega | (simp; done) | (simp; omega)) ?_))
end Go.Proofs.Ytcdffikambbleaa
