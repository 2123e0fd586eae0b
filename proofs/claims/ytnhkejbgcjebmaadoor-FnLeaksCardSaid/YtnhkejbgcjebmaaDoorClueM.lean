/- StepFor: the program's look at one word. No condition but those stated. -/
import Derived.Test.YtnhkejbgcjebmaaDoorClueK
namespace Go.Proofs.YtnhkejbgcjebmaaDoor
set_option linter.unusedVariables false
set_option linter.unusedSimpArgs false
open Go.RowKit Go.Sort Go.WideMaps Go.Maps
theorem lawInt : Keyed Tryd.prog 3 := int_keyed Tryd.underlying3
theorem key_int {y : Int} (h : I64 y) : keyOf Tryd.prog 3 (.int .i64 y) = some (kI y) := keyOf_int_mk Tryd.underlying3 (i64_wf h)
theorem keyI_lit (y : Int) : WideAt.IsKeyLit (kI y) := trivial
theorem padN_bd {z : Nat} {s : Int} (h1 : 1 ≤ s) (h2 : s ≤ 10) (hz : z ≤ 1048576) : 0 ≤ padN z s ∧ padN z s ≤ 10485860 := by
  obtain ⟨q0, q1⟩ := pad_bounds z s h1 h2 hz
  exact mul_small q0 q1 h1 h2
theorem padN_i64 {z : Nat} {s : Int} (h1 : 1 ≤ s) (h2 : s ≤ 10) (hz : z ≤ 1048576) : I64 (padN z s) := by
  have := padN_bd h1 h2 hz; unfold I64; omega
theorem lookI {w : World} {B m : Nat} {c : Lit → Int} (h : CM 3 w B m c) {y : Int} (hy : I64 y) : (Instr.lookup 76 (.map (some B)) (.int .i64 y) false).run Tryd.prog w = .ok (.int .i64 (c (kI y))) w := by
  obtain ⟨D, h1, h2⟩ := h
  obtain ⟨x, hrun, hat, _⟩ := h1.lookup_int lawInt Tryd.underlying76 Tryd.underlying3 (zero_count w) (key_int hy)
  rw [h2] at hat
  simp only [DataW.lit.injEq, Lit.int.injEq, true_and] at hat
  rw [hrun, hat]
/-- What the closure sees: the counts, the step and the bound. -/
structure SX (Bc Bs Bk B : Nat) (w : World) (m : Nat) (c : Lit → Int) (s k : Int) : Prop where
  cc : w.cell? ⟨Bc, 0, none⟩ = some (.map (some B))
  sc : w.cell? ⟨Bs, 0, none⟩ = some (.int .i64 s)
  kc : w.cell? ⟨Bk, 0, none⟩ = some (.int .i64 k)
  cm : CM 3 w B m c
  lc : Bc < w.heap.size
  ls : Bs < w.heap.size
  lk : Bk < w.heap.size
theorem SX.below {Bc Bs Bk B m : Nat} {w w' : World} {c : Lit → Int} {s k : Int} (h : SX Bc Bs Bk B w m c s k) (hb : Below w.heap.size w w') : SX Bc Bs Bk B w' m c s k :=
  ⟨(hb.cell (p := ⟨Bc, 0, none⟩) h.lc).trans h.cc, (hb.cell (p := ⟨Bs, 0, none⟩) h.ls).trans h.sc, (hb.cell (p := ⟨Bk, 0, none⟩) h.lk).trans h.kc, h.cm.below hb, Nat.lt_of_lt_of_le h.lc hb.size, Nat.lt_of_lt_of_le h.ls hb.size, Nat.lt_of_lt_of_le h.lk hb.size⟩
theorem C_step1 (Bc Bs Bk B m : Nat) (c : Lit → Int) (s k : Int) (x : ByteArray) (w : World) (h : SX Bc Bs Bk B w m c s k) (h1 : 1 ≤ s) (h2 : s ≤ 10) (hz : x.size ≤ 1048576) :
    Calls Tryd.prog 64 #[.string x, .pointer (some ⟨Bc, 0, none⟩), .pointer (some ⟨Bs, 0, none⟩), .pointer (some ⟨Bk, 0, none⟩)] w fun e w' => e = .returned (.bool (decide (c (kI (padN x.size s)) < k))) ∧ Below w.heap.size w w' := by
  have c1 := h.cc
  have c2 := h.sc
  have c3 := h.kc
  have hrun : ∀ d, (Instr.lookup 76 (.map (some B)) (.int .i64 (padN x.size s)) false).run Tryd.prog (w.drewN d) = .ok (.int .i64 (c (kI (padN x.size s)))) (w.drewN d) := fun d => lookI (h.cm.below (below_drewN (Below.refl _ _) _)) (padN_i64 h1 h2 hz)
  have HE := fun W => (C_paddedLength x s W h1 h2 hz).mono fun e w' hh => (⟨hh.1, hh.2.symm⟩ : _ ∧ w' = W)
  clear h
  go_enter Tryd.func64, Tryd.ntmps64
  go_wp2_with fail
  go_quiet ((exact Calls.quiet_of_same (HE _)))
  go_wp2
  go_ret
  exact ⟨rfl, by (repeat (first | with_reducible exact Below.refl _ _ | with_reducible exact below_regrown _ _ _ | with_reducible refine bel_step0 (by assumption) ?_ | with_reducible refine bel_alloc0 ?_ _ | with_reducible refine bel_regrown0 ?_ _ _ | with_reducible refine bel_regrown ?_ (by first | omega | (simp; done) | (simp; omega)) _ _ | with_reducible refine below_drewN ?_ _ | with_reducible refine Below.drew ?_ | with_reducible refine Below.alloc ?_ (by first | omega | (simp; done) | (simp; omega)) _ | with_reducible refine Below.setCell ?_ (by first | omega | (simp; done) | (simp; omega)) _ | with_reducible refine bel_step (by assumption) (by first | omega | (simp; done) | (simp; omega)) ?_ | with_reducible refine bel_grown (by assumption) (by first | omega | (simp; done) | (simp; omega)) (by first | omega | (simp; done) | (simp; omega)) ?_))⟩
theorem C_IndexFuncP (Bc Bs Bk B m : Nat) (c : Lit → Int) (s k : Int) (v : Value) (n : Nat) (f : Nat → ByteArray) (w : World) (h : TI w v n f) (hx : SX Bc Bs Bk B w m c s k) (h1 : 1 ≤ s) (h2 : s ≤ 10) (hz : ∀ j, j < n → (f j).size ≤ 1048576) :
    Calls Tryd.prog 82 #[v, .func (.func 64) #[] #[.pointer (some ⟨Bc, 0, none⟩), .pointer (some ⟨Bs, 0, none⟩), .pointer (some ⟨Bk, 0, none⟩)]] w fun e w' => e = .returned (.int .i64 (firstB n fun j => decide (c (kI (padN (f j).size s)) < k))) ∧ Below w.heap.size w w' := by
  obtain ⟨A, cap, rfl, hr, hc, hm⟩ := h
  have HR := Lib.hid hr; clear hr
  have HX := Lib.hid hx; clear hx
  have HZ := Lib.hid hz; clear hz
  obtain ⟨p, hp⟩ : ∃ p : Nat → Bool, (fun j => decide (c (kI (padN (f j).size s)) < k)) = p := ⟨_, rfl⟩
  rw [hp]
  have HP := Lib.hid (fun j => congrFun hp j)
  clear hp
  go_enter Tryd.func82, Tryd.ntmps82
  go_wp2
  go_loopw [8] (fun i wr => ∃ k : Nat, k ≤ n ∧ i = .int .i64 k ∧ anyB k p = false ∧ Below w.heap.size w wr) (fun i _ => n - (intOf i).toNat)
  case atStart => exact ⟨0, Nat.zero_le _, rfl, rfl, Below.refl _ _⟩
  case round =>
    obtain ⟨q, hk, rfl, ha, hB⟩ := hrel
    have HA := Lib.hid ha; clear ha
    by_cases hlt : q < n
    · obtain ⟨bb, off, rfl, hb, hcell⟩ := (HR.out.below hB) (by omega)
      have hck := hcell q hlt
      have hpk : decide (c (kI (padN (f q).size s)) < k) = p q := HP.out q
      have hC : Calls Tryd.prog 64 #[.string (f q), .pointer (some ⟨Bc, 0, none⟩), .pointer (some ⟨Bs, 0, none⟩), .pointer (some ⟨Bk, 0, none⟩)] wr fun e w' => e = .returned (.bool (p q)) ∧ Below wr.heap.size wr w' := (C_step1 Bc Bs Bk B m c s k (f q) _ (HX.out.below hB) h1 h2 (HZ.out q hlt)).mono fun e w' hh => ⟨hh.1.trans (by rw [hpk]), hh.2⟩
      have HC := Lib.hid hC
      clear hC
      clear hcell hpk
      cases hok : p q
      all_goals
        rw [hok] at HC
        go_wp2_with (go_at_call 64; refine HC.out.mono ?_; rintro e w' ⟨rfl, hb'⟩)
      · go_roundw
        case rel => exact ⟨q + 1, by omega, by go_num, anyB_next HA.out hok, by (repeat (first | with_reducible exact Below.refl _ _ | with_reducible exact below_regrown _ _ _ | with_reducible refine bel_step0 (by assumption) ?_ | with_reducible refine bel_alloc0 ?_ _ | with_reducible refine bel_regrown0 ?_ _ _ | with_reducible refine bel_regrown ?_ (by first | omega | (simp; done) | (simp; omega)) _ _ | with_reducible refine below_drewN ?_ _ | with_reducible refine Below.drew ?_ | with_reducible refine Below.alloc ?_ (by first | omega | (simp; done) | (simp; omega)) _ | with_reducible refine Below.setCell ?_ (by first | omega | (simp; done) | (simp; omega)) _ | with_reducible refine bel_step (by assumption) (by first | omega | (simp; done) | (simp; omega)) ?_ | with_reducible refine bel_grown (by assumption) (by first | omega | (simp; done) | (simp; omega)) (by first | omega | (simp; done) | (simp; omega)) ?_))⟩
        case measure => simp [intOf]; omega
      · go_ret
        exact ⟨ret_int (firstB_some hlt HA.out hok).symm, by (repeat (first | with_reducible exact Below.refl _ _ | with_reducible exact below_regrown _ _ _ | with_reducible refine bel_step0 (by assumption) ?_ | with_reducible refine bel_alloc0 ?_ _ | with_reducible refine bel_regrown0 ?_ _ _ | with_reducible refine bel_regrown ?_ (by first | omega | (simp; done) | (simp; omega)) _ _ | with_reducible refine below_drewN ?_ _ | with_reducible refine Below.drew ?_ | with_reducible refine Below.alloc ?_ (by first | omega | (simp; done) | (simp; omega)) _ | with_reducible refine Below.setCell ?_ (by first | omega | (simp; done) | (simp; omega)) _ | with_reducible refine bel_step (by assumption) (by first | omega | (simp; done) | (simp; omega)) ?_ | with_reducible refine bel_grown (by assumption) (by first | omega | (simp; done) | (simp; omega)) (by first | omega | (simp; done) | (simp; omega)) ?_))⟩
    · obtain rfl : q = n := by omega
      go_wp2
      go_ret
      exact ⟨ret_int (firstB_none HA.out).symm, hB⟩
theorem C_ContainsP (Bc Bs Bk B m : Nat) (c : Lit → Int) (s k : Int) (v : Value) (n : Nat) (f : Nat → ByteArray) (w : World) (h : TI w v n f) (hx : SX Bc Bs Bk B w m c s k) (h1 : 1 ≤ s) (h2 : s ≤ 10) (hz : ∀ j, j < n → (f j).size ≤ 1048576) :
    Calls Tryd.prog 63 #[v, .func (.func 64) #[] #[.pointer (some ⟨Bc, 0, none⟩), .pointer (some ⟨Bs, 0, none⟩), .pointer (some ⟨Bk, 0, none⟩)]] w fun e w' => e = .returned (.bool (anyB n fun j => decide (c (kI (padN (f j).size s)) < k))) ∧ Below w.heap.size w w' := by
  go_enter Tryd.func63, Tryd.ntmps63
  go_wp2_with (go_at_call 82; refine (C_IndexFuncP _ _ _ _ _ _ _ _ _ _ _ _ h hx h1 h2 hz).mono ?_; rintro e w' ⟨rfl, hb'⟩)
  go_ret
  exact ⟨ret_bool (by rw [firstB_ge]), by (repeat (first | with_reducible exact Below.refl _ _ | with_reducible exact below_regrown _ _ _ | with_reducible refine bel_step0 (by assumption) ?_ | with_reducible refine bel_alloc0 ?_ _ | with_reducible refine bel_regrown0 ?_ _ _ | with_reducible refine bel_regrown ?_ (by first | omega | (simp; done) | (simp; omega)) _ _ | with_reducible refine below_drewN ?_ _ | with_reducible refine Below.drew ?_ | with_reducible refine Below.alloc ?_ (by first | omega | (simp; done) | (simp; omega)) _ | with_reducible refine Below.setCell ?_ (by first | omega | (simp; done) | (simp; omega)) _ | with_reducible refine bel_step (by assumption) (by first | omega | (simp; done) | (simp; omega)) ?_ | with_reducible refine bel_grown (by assumption) (by first | omega | (simp; done) | (simp; omega)) (by first | omega | (simp; done) | (simp; omega)) ?_))⟩
end Go.Proofs.YtnhkejbgcjebmaaDoor
