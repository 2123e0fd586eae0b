/- The library's stable sort at looks. No condition but those stated. -/
import Derived.Test.YtmhelhjjadoiaaaDoorMgDC
namespace Go.Proofs.YtmhelhjjadoiaaaDoor
set_option linter.unusedVariables false
set_option linter.unusedSimpArgs false
open Go.RowKit Go.Sort
theorem C_symK (base g n cap : Nat) (hn : n ≤ 1048576) : ∀ (d a m b : Nat) (F : Nat → Lk) (w : World), b - a ≤ d → KF base w g n cap F → a < m → m < b → b ≤ n → SrtF Lk.tick F a m → SrtF Lk.tick F m b →
    Calls Tryd.prog 108 #[.slice (some ⟨g, 0, none⟩) n cap, .int .i64 a, .int .i64 m, .int .i64 b, .func (.func 76) #[] #[]] w fun e w' =>
      e = .returned (.tuple #[]) ∧ ∃ G, KF base w' g n cap G ∧ MrgF Lk.tick F G a b n ∧ w.grownBy w' (some g) := by
  intro d
  induction d with
  | zero => intro a m b F w hd h ham hmb hb; omega
  | succ d ih =>
    intro a m b F w hd h ham hmb hb h1 h2
    by_cases e : m = a + 1
    · subst e
      exact C_symA base g n cap a b F w h hn hmb hb h2
    · by_cases e2 : b = m + 1
      · subst e2
        exact C_symB base g n cap a m F w h hn (by omega) hb h1
      · exact C_symC base g n cap a m b F w h hn (by omega) (by omega) hb h1 h2 fun a' m' b' F' w' hd' => ih a' m' b' F' w' (by omega)
theorem C_insK0 (A : Option Addr) (cap : Nat) (w : World) :
    Calls Tryd.prog 107 #[.slice A 0 cap, .int .i64 0, .int .i64 0, .func (.func 76) #[] #[]] w fun e w' => e = .returned (.tuple #[]) ∧ w = w' := by
  go_enter Tryd.func107, Tryd.ntmps107
  go_wp2
  refine wp_loop_rounds 1 ?_
  rw [rounds_succ]
  go_wp2
  go_end0
  exact ⟨rfl, rfl⟩
theorem C_stableK0 (A : Option Addr) (cap : Nat) (w : World) :
    Calls Tryd.prog 92 #[.slice A 0 cap, .int .i64 0, .func (.func 76) #[] #[]] w fun e w' => e = .returned (.tuple #[]) ∧ w = w' := by
  go_enter Tryd.func92, Tryd.ntmps92
  go_wp2
  refine wp_loop_rounds 1 ?_
  rw [rounds_succ]
  go_wp2_with fail
  refine (C_insK0 A cap w).mono ?_; rintro e w1 ⟨rfl, rfl⟩
  go_wp2
  refine wp_loop_rounds 1 ?_
  rw [rounds_succ]
  go_wp2
  go_end0
  exact ⟨rfl, rfl⟩
/-- What a sort leaves. -/
structure Sorted (F G : Nat → Lk) (n : Nat) : Prop where
  so : SrtF Lk.tick G 0 n
  pe : (seg G 0 n).Perm (seg F 0 n)
set_option maxRecDepth 100000 in
set_option maxHeartbeats 8000000 in
theorem C_stableK1 (base g n cap : Nat) (F : Nat → Lk) (w : World) (h : KF base w g n cap F) (hn : n ≤ 19) :
    Calls Tryd.prog 92 #[.slice (some ⟨g, 0, none⟩) n cap, .int .i64 n, .func (.func 76) #[] #[]] w fun e w' =>
      e = .returned (.tuple #[]) ∧ ∃ G, KF base w' g n cap G ∧ Sorted F G n ∧ w.grownBy w' (some g) := by
  have K := Lib.hid (C_insK base g n cap 0 n F w h (by omega) (by omega) (Nat.le_refl _))
  clear h
  have h1 : ¬ (20 : Int) ≤ (n : Int) := by omega
  have h2 : ¬ (20 : Int) < (n : Int) := by omega
  go_enter Tryd.func92, Tryd.ntmps92
  go_wp2
  refine wp_loop_rounds 1 ?_
  rw [rounds_succ]
  go_wp2_with fail
  refine K.out.mono ?_; rintro e w1 ⟨rfl, G, ho, hs, hk, hg⟩
  have HO := Lib.hid (And.intro ho (And.intro (Sorted.mk hs hk.pe) hg))
  clear ho hs hk hg
  go_wp2
  refine wp_loop_rounds 1 ?_
  rw [rounds_succ]
  go_wp2
  go_end0
  exact ⟨rfl, _, HO.out⟩
set_option maxRecDepth 100000 in
set_option maxHeartbeats 8000000 in
theorem C_stableK2 (base g n cap : Nat) (F : Nat → Lk) (w : World) (h : KF base w g n cap F) (hn1 : 20 ≤ n) (hn : n ≤ 39) :
    Calls Tryd.prog 92 #[.slice (some ⟨g, 0, none⟩) n cap, .int .i64 n, .func (.func 76) #[] #[]] w fun e w' =>
      e = .returned (.tuple #[]) ∧ ∃ G, KF base w' g n cap G ∧ Sorted F G n ∧ w.grownBy w' (some g) := by
  have K := Lib.hid (C_insK base g n cap 0 20 F w h (by omega) (by omega) hn1)
  clear h
  have h1 : (20 : Int) ≤ (n : Int) := by omega
  have h2 : ¬ (40 : Int) ≤ (n : Int) := by omega
  have h3 : ¬ (40 : Int) < (n : Int) := by omega
  go_enter Tryd.func92, Tryd.ntmps92
  go_wp2
  refine wp_loop_rounds 2 ?_
  rw [rounds_succ]
  go_wp2_with fail
  refine K.out.mono ?_; rintro e w1 ⟨rfl, G, ho, hs, hk, hg⟩
  have HO := Lib.hid (And.intro ho (And.intro hs (And.intro hk hg)))
  have K2 := Lib.hid (C_insK base g n cap 20 n G w1 ho (by omega) hn1 (Nat.le_refl _))
  clear ho hs hk hg K
  go_wp2
  rw [rounds_succ]
  go_wp2_with fail
  refine K2.out.mono ?_; rintro e w2 ⟨rfl, H, ho, hs, hk, hg⟩
  have HO2 := Lib.hid (And.intro ho (And.intro (show SrtF Lk.tick H 0 20 from HO.out.2.1.eq fun i _ hi => hk.ou i (by omega)) (And.intro hs (And.intro (hk.pe.trans HO.out.2.2.1.pe) (grown_transK HO.out.2.2.2 hg)))))
  clear ho hs hk hg K2 HO
  by_cases h4 : n = 20
  · subst h4
    go_wp2
    refine wp_loop_rounds 1 ?_
    rw [rounds_succ]
    go_wp2
    go_end0
    exact ⟨rfl, _, HO2.out.1, ⟨HO2.out.2.1, HO2.out.2.2.2.1⟩, HO2.out.2.2.2.2⟩
  · have h5 : (20 : Int) < (n : Int) := by omega
    go_wp2
    refine wp_loop_rounds 2 ?_
    rw [rounds_succ]
    go_wp2
    refine wp_loop_rounds 1 ?_
    rw [rounds_succ]
    go_wp2_with fail
    refine (C_symK base g n cap (by omega) n 0 20 n H _ (by omega) HO2.out.1 (by omega) (by omega) (Nat.le_refl _) HO2.out.2.1 HO2.out.2.2.1).mono ?_; rintro e w3 ⟨rfl, M, ho, hm, hg⟩
    have HO3 := Lib.hid (And.intro ho (And.intro (Sorted.mk hm.so (hm.pe.trans HO2.out.2.2.2.1)) (grown_transK HO2.out.2.2.2.2 hg)))
    clear ho hm hg HO2
    go_wp2
    rw [rounds_succ]
    go_wp2
    go_end0
    exact ⟨rfl, _, HO3.out⟩
theorem seg_atK (l : List Lk) : seg (atK l) 0 l.length = l := by
  apply List.ext_getElem?
  intro i
  by_cases hi : i < l.length
  · simp only [seg, List.getElem?_map, List.getElem?_range hi, Option.map_some, Nat.zero_add]
    rw [atK_get hi, List.getElem?_eq_getElem hi]
  · rw [List.getElem?_eq_none (by rw [seg_len]; omega), List.getElem?_eq_none (by omega)]
theorem C_SortStableK (base : Nat) (v : Value) (l : List Lk) (w : World) (h : OL base w v l) (hn : l.length ≤ 39) :
    Calls Tryd.prog 75 #[v, .func (.func 76) #[] #[]] w fun e w' =>
      e = .returned (.tuple #[]) ∧ ∃ G, OL base w' v (seg G 0 l.length) ∧ SrtF Lk.tick G 0 l.length ∧ (seg G 0 l.length).Perm l ∧ w.grownBy w' v.ownBlock := by
  have key : Calls Tryd.prog 92 #[v, .int .i64 l.length, .func (.func 76) #[] #[]] w fun e w' =>
      e = .returned (.tuple #[]) ∧ ∃ G, OL base w' v (seg G 0 l.length) ∧ SrtF Lk.tick G 0 l.length ∧ (seg G 0 l.length).Perm l ∧ w.grownBy w' v.ownBlock := by
    rcases h.2 with ⟨rfl, h0⟩ | ⟨g, cap, cur, rfl, _⟩
    · obtain rfl : l = [] := List.eq_nil_of_length_eq_zero h0
      refine (C_stableK0 none 0 w).mono ?_
      rintro e w' ⟨rfl, rfl⟩
      exact ⟨rfl, fun _ => zeroK, h, fun i j _ _ hj => absurd hj (by simp), List.Perm.refl _, World.grownBy.refl _ _⟩
    · rcases Nat.eq_zero_or_pos l.length with h0 | h0
      · obtain rfl : l = [] := List.eq_nil_of_length_eq_zero h0
        refine (C_stableK0 _ cap w).mono ?_
        rintro e w' ⟨rfl, rfl⟩
        exact ⟨rfl, fun _ => zeroK, h, fun i j _ _ hj => absurd hj (by simp), List.Perm.refl _, World.grownBy.refl _ _⟩
      · have hk := OL.kf rfl h
        have fin : ∀ {e : Ending} {w' : World}, (e = .returned (.tuple #[]) ∧ ∃ G, KF base w' g l.length cap G ∧ Sorted (atK l) G l.length ∧ w.grownBy w' (some g)) → e = .returned (.tuple #[]) ∧ ∃ G, OL base w' (.slice (some ⟨g, 0, none⟩) l.length cap) (seg G 0 l.length) ∧ SrtF Lk.tick G 0 l.length ∧ (seg G 0 l.length).Perm l ∧ w.grownBy w' (some g) := by
          rintro e w' ⟨rfl, G, k1, k2, k3⟩
          refine ⟨rfl, G, k1.ol, k2.so, ?_, k3⟩
          have := k2.pe
          rw [seg_atK] at this
          exact this
        by_cases h19 : l.length ≤ 19
        · exact (C_stableK1 base g l.length cap (atK l) w hk h19).mono fun e w' hh => fin hh
        · exact (C_stableK2 base g l.length cap (atK l) w hk (by omega) hn).mono fun e w' hh => fin hh
  have K := Lib.hid key
  obtain ⟨A, cap, rfl⟩ := h.form
  clear h key
  go_enter Tryd.func75, Tryd.ntmps75
  go_wp2_with fail
  refine K.out.mono ?_; rintro e w1 ⟨rfl, ho⟩
  have HO := Lib.hid ho
  clear ho
  go_wp2
  go_end0
  exact ⟨rfl, HO.out⟩
end Go.Proofs.YtmhelhjjadoiaaaDoor
