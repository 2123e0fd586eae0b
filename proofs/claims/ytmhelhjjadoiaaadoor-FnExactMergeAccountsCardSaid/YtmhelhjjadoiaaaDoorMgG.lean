/- The library's Compact at looks. No condition but those stated. -/
import Derived.Test.YtmhelhjjadoiaaaDoorMgF
import Derived.Test.YtmhelhjjadoiaaaDoorMrg
import Derived.Lib.SliceRun
import Derived.Laws.StructEq
import Derived.Shelf.SlicesE.Kit
import Derived.Shelf.SlicesE.Equal
namespace Go.Proofs.YtmhelhjjadoiaaaDoor
set_option linter.unusedVariables false
set_option linter.unusedSimpArgs false
open Go.RowKit Go.Sort
def eqK (x y : Lk) : Bool := x.tick == y.tick && (x.who == y.who && (x.rid == y.rid && (x.kind == y.kind && x.why.toList == y.why.toList)))
set_option maxRecDepth 100000 in
theorem eql_look (x y : Lk) (w : World) : (binOp .eql 26 (.agg #[.int .i64 (x).tick, .int .i64 (x).who, .int .i64 (x).rid, .int .i64 (x).kind, .string (x).why]) (.agg #[.int .i64 (y).tick, .int .i64 (y).who, .int .i64 (y).rid, .int .i64 (y).kind, .string (y).why])).run Tryd.prog w = .ok (.bool (eqK x y)) w := by
  have u3 := Tryd.underlying3
  have us := Tryd.underlying9
  have hS : Tryd.prog.underlying 26 = some (.struct (Tryd.prog.fieldsOf 26)) := by kernel_rfl
  have hp : Tryd.prog.stoodInHeld 26 = false := by kernel_rfl
  rw [run_eql_struct, show (10000 : Nat) = 9999 + 1 from rfl, run_equalIn_agg w 9999 26 _ _ hS hp]
  simp only [Program.fieldsOf, Tryd.underlying26]
  go_simp
  unfold eqK
  cases h1 : (x.tick == y.tick) <;> cases h2 : (x.who == y.who) <;> cases h3 : (x.rid == y.rid) <;> cases h4 : (x.kind == y.kind) <;> cases h5 : (x.why.toList == y.why.toList) <;> simp_all
set_option maxRecDepth 100000 in
theorem neq_look (x y : Lk) (w : World) : (binOp .neq 26 (.agg #[.int .i64 (x).tick, .int .i64 (x).who, .int .i64 (x).rid, .int .i64 (x).kind, .string (x).why]) (.agg #[.int .i64 (y).tick, .int .i64 (y).who, .int .i64 (y).rid, .int .i64 (y).kind, .string (y).why])).run Tryd.prog w = .ok (.bool (!eqK x y)) w := by
  have u3 := Tryd.underlying3
  have us := Tryd.underlying9
  have hS : Tryd.prog.underlying 26 = some (.struct (Tryd.prog.fieldsOf 26)) := by kernel_rfl
  have hp : Tryd.prog.stoodInHeld 26 = false := by kernel_rfl
  rw [run_neq_struct, show (10000 : Nat) = 9999 + 1 from rfl, run_equalIn_agg w 9999 26 _ _ hS hp]
  simp only [Program.fieldsOf, Tryd.underlying26]
  go_simp
  unfold eqK
  cases h1 : (x.tick == y.tick) <;> cases h2 : (x.who == y.who) <;> cases h3 : (x.rid == y.rid) <;> cases h4 : (x.kind == y.kind) <;> cases h5 : (x.why.toList == y.why.toList) <;> simp_all
theorem guard_look (op : BinOp) (a b : Operand) (x y : Lk) (w : World) : (eqGuard op 26 a b (.agg #[.int .i64 (x).tick, .int .i64 (x).who, .int .i64 (x).rid, .int .i64 (x).kind, .string (x).why]) (.agg #[.int .i64 (y).tick, .int .i64 (y).who, .int .i64 (y).rid, .int .i64 (y).kind, .string (y).why])).run Tryd.prog w = .ok () w := run_eqGuard_agg w op 26 a b _ _ (by kernel_rfl)
theorem ddU_all {α : Type} {eqb : α → α → Bool} {F : Nat → α} : ∀ {k : Nat}, (∀ j, 1 ≤ j → j < k → eqb (F j) (F (j - 1)) = false) → ddU eqb F k = seg F 0 k := by
  intro k
  induction k with
  | zero => intro _; rfl
  | succ k ih =>
    intro h
    rw [ddU, ih fun j h1 h2 => h j h1 (by omega), seg_add, Nat.zero_add]
    congr 1
    by_cases e : k = 0
    · subst e; rfl
    · rw [h k (by omega) (by omega)]; simp [seg]
/-- What stands below the writing place and from it on. -/
structure Cpt (F G : Nat → Lk) (k0 k2 kk : Nat) : Prop where
  le : kk + 1 ≤ k0 + k2
  lo : 1 ≤ kk
  dd : ddU eqK F (k0 + k2) = seg G 0 kk
  up : ∀ j, kk ≤ j → G j = F j
theorem Cpt.start {F : Nat → Lk} {k : Nat} (hk : 1 ≤ k) (h : ∀ j, 1 ≤ j → j < k → eqK (F j) (F (j - 1)) = false) (he : eqK (F k) (F (k - 1)) = true) : Cpt F F k 1 k where
  le := Nat.le_refl _
  lo := hk
  dd := by
    rw [ddU, ddU_all h, he]
    simp [show 0 < k by omega]
  up := fun _ _ => rfl
theorem Cpt.keep {F G : Nat → Lk} {k0 k2 kk : Nat} (h : Cpt F G k0 k2 kk) (h0 : 0 < k0 + k2) (he : eqK (F (k0 + k2)) (F (k0 + k2 - 1)) = true) : Cpt F G k0 (k2 + 1) kk where
  le := by have := h.le; omega
  lo := h.lo
  dd := by
    rw [← Nat.add_assoc, ddU, he, h.dd]
    simp [h0]
  up := h.up
theorem Cpt.put {F G : Nat → Lk} {k0 k2 kk : Nat} (h : Cpt F G k0 k2 kk) (h0 : 0 < k0 + k2) (he : eqK (F (k0 + k2)) (F (k0 + k2 - 1)) = false) : Cpt F (upd G kk (F (k0 + k2))) k0 (k2 + 1) (kk + 1) where
  le := by have := h.le; omega
  lo := by omega
  dd := by
    rw [← Nat.add_assoc, ddU, he, h.dd, seg_add, Nat.zero_add]
    have e1 : seg (upd G kk (F (k0 + k2))) 0 kk = seg G 0 kk := seg_congr fun i hi => by unfold upd; rw [if_neg (by omega)]
    rw [e1]
    simp [seg, upd]
  up := fun j hj => by
    unfold upd
    rw [if_neg (by omega)]
    exact h.up j (by omega)
theorem KF.cut {base g n cap k : Nat} {w : World} {F : Nat → Lk} (h : KF base w g n cap F) (hk : k ≤ n) : KF base w g k cap F := by
  obtain ⟨xs, h1, h2⟩ := h
  rcases h1.2 with ⟨h3, _⟩ | ⟨g', cap', cur, e, hb, hg, hnc, hcm, hsz, htk⟩
  · cases h3
  · injection e with e1 e2 e3
    injection e1 with e1
    injection e1 with e1
    subst e1 e3
    refine ⟨xs.take (k * 5), ⟨by rw [List.length_take, h1.1]; omega, .inr ⟨g, cap, cur, rfl, hb, hg, by omega, hcm, hsz, ?_⟩⟩, fun i hi => ?_⟩
    · rw [← htk, List.take_take]
      congr 1; omega
    · rw [List.getElem?_take, if_pos hi]
      exact h2 i (by omega)
theorem KF.cells {base g cap k : Nat} {F : Nat → Lk} : ∀ (vs : List Value) (o : Nat) (w : World), KF base w g k cap F → k * 5 ≤ o → KF base (w.setCells g o vs) g k cap F ∧ w.grownBy (w.setCells g o vs) (some g) := by
  intro vs
  induction vs with
  | nil => intro o w h ho; exact ⟨h, World.grownBy.refl _ _⟩
  | cons u r ih =>
    intro o w h ho
    obtain ⟨xs, h1, h2⟩ := h
    have hs := h1.stored o u
    have hK : KF base (w.setCell ⟨g, o, none⟩ u) g k cap F := ⟨_, hs.1, fun i hi => by rw [List.getElem?_set_ne (by omega)]; exact h2 i hi⟩
    have := ih (o + 1) (w.setCell ⟨g, o, none⟩ u) hK (by omega)
    exact ⟨this.1, grown_transK hs.2 this.2⟩
theorem run_clearK (w : World) (t e : TypeId) (z : Value) (m : Nat) (ht : Tryd.prog.underlying t = some (.slice e)) (hv : ∀ w, (zeroValue e).run Tryd.prog w = .ok z w) (hz : z.cells.size = m) (hz1 : ∀ v ∈ z.cells, v.oneCell' = true) (b o n c : Nat) (hn : 0 < n) (hm : 0 < m)
    (hc : ∀ j, j < n * m → (w.cell? ⟨b, o + j, none⟩).isSome = true) (hf : ∀ j, j < n * m → w.frozen? ⟨b, o + j, none⟩ = false) :
    ∃ vs, ∀ ty, (Builtin.clear_ #[t] ty #[.slice (some ⟨b, o, none⟩) n c]).run Tryd.prog w = .ok (.tuple #[]) (w.setCells b o vs) := by
  have hlen : (Builtin.zeroCells z.cells n).toList.length = n * m := by simp [Builtin.zeroCells, hz]
  have h1 : ∀ v ∈ (Builtin.zeroCells z.cells n).toList, v.oneCell' = true := by
    intro v hv'
    simp only [Builtin.zeroCells, Array.toList_map, List.mem_map] at hv'
    obtain ⟨i, _, rfl⟩ := hv'
    have hlt : i % z.cells.size < z.cells.size := Nat.mod_lt _ (by omega)
    rw [getElem!_pos z.cells _ hlt]
    exact hz1 _ (Array.getElem_mem _)
  have hst := run_storeCells_cells (P := Tryd.prog) b o (Builtin.zeroCells z.cells n).toList 0 w (by rw [hlen]; simpa using hc) (by rw [hlen]; simpa using hf) h1
  simp only [Nat.add_zero] at hst
  obtain ⟨q, rfl⟩ : ∃ q, n = q + 1 := ⟨n - 1, by omega⟩
  exact ⟨(Builtin.zeroCells z.cells (q + 1)).toList, fun ty => by simp [Builtin.clear_, run_underlying ht, hv, hst]⟩
set_option maxRecDepth 100000 in
set_option maxHeartbeats 8000000 in
theorem C_Compact2 (base g n cap : Nat) (F : Nat → Lk) (w : World) (h : KF base w g n cap F) (hn : n ≤ 1048576) (h2 : 2 ≤ n) :
    Calls Tryd.prog 78 #[.slice (some ⟨g, 0, none⟩) n cap] w fun e w' => ∃ v', e = .returned v' ∧ OL base w' v' (ddU eqK F n) ∧ w.grownBy w' (some g) := by
  obtain ⟨hcap, hcm⟩ := h.cap
  have HH := Lib.hid h
  clear h
  have h20 : ¬ (n : Int) < 2 := by omega
  go_enter Tryd.func78, Tryd.ntmps78
  go_wp2
  go_loopw [3] (fun p wr => ∃ k : Nat, p = .int .i64 k ∧ 1 ≤ k ∧ k ≤ n ∧ (∀ j, 1 ≤ j → j < k → eqK (F j) (F (j - 1)) = false) ∧ Below w.heap.size w wr) (fun p _ => n - (intOf p).toNat)
  case atStart => exact ⟨1, by go_num, Nat.le_refl _, by omega, fun j h1 h2 => absurd h2 (by omega), by (repeat (first | with_reducible exact Below.refl _ _ | with_reducible exact below_regrown _ _ _ | with_reducible refine bel_step0 (by assumption) ?_ | with_reducible refine bel_alloc0 ?_ _ | with_reducible refine bel_regrown0 ?_ _ _ | with_reducible refine bel_regrown ?_ (by first | omega | (simp; done) | (simp; omega)) _ _ | with_reducible refine below_drewN ?_ _ | with_reducible refine Below.drew ?_ | with_reducible refine Below.alloc ?_ (by first | omega | (simp; done) | (simp; omega)) _ | with_reducible refine Below.setCell ?_ (by first | omega | (simp; done) | (simp; omega)) _ | with_reducible refine bel_step (by assumption) (by first | omega | (simp; done) | (simp; omega)) ?_ | with_reducible refine bel_grown (by assumption) (by first | omega | (simp; done) | (simp; omega)) (by first | omega | (simp; done) | (simp; omega)) ?_))⟩
  case round =>
    obtain ⟨k, rfl, hk1, hkn, hall, hB⟩ := hrel
    by_cases hlt : k < n
    · obtain ⟨q, rfl⟩ : ∃ q, k = q + 1 := ⟨k - 1, by omega⟩
      obtain ⟨x, hx⟩ : ∃ x, F (q + 1) = x := ⟨_, rfl⟩
      obtain ⟨y, hy⟩ : ∃ y, F q = y := ⟨_, rfl⟩
      have ho := HH.out.below hB
      obtain ⟨d0, d1, d2, d3, d4⟩ := ho.at_ (show q < n by omega)
      obtain ⟨b0, b1, b2, b3, b4⟩ := ho.at_ hlt
      rw [hx] at b0 b1 b2 b3 b4
      rw [hy] at d0 d1 d2 d3 d4
      have g0 := cell_regrown b0; have g1 := cell_regrown b1; have g2 := cell_regrown b2; have g3 := cell_regrown b3; have g4 := cell_regrown b4
      have k0 := cell_regrown d0; have k1 := cell_regrown d1; have k2 := cell_regrown d2; have k3 := cell_regrown d3; have k4 := cell_regrown d4
      have q1 : (0 : Int) ≤ (q : Int) := by omega
      have q2 : (q : Int) < (n : Int) := by omega
      have q3 : (q : Int) + 1 < (n : Int) := by omega
      have q4 : (0 : Int) ≤ (q : Int) + 1 := by omega
      have q5 : (q : Int) + 1 - 1 = (q : Int) := by omega
      obtain ⟨bb, hbb⟩ : ∃ bb, eqK x y = bb := ⟨_, rfl⟩
      have hql : ∀ w', (binOp .eql 26 (.agg #[.int .i64 (x).tick, .int .i64 (x).who, .int .i64 (x).rid, .int .i64 (x).kind, .string (x).why]) (.agg #[.int .i64 (y).tick, .int .i64 (y).who, .int .i64 (y).rid, .int .i64 (y).kind, .string (y).why])).run Tryd.prog w' = .ok (.bool bb) w' := fun w' => by rw [eql_look, hbb]
      have hgl : ∀ op a b w', (eqGuard op 26 a b (.agg #[.int .i64 (x).tick, .int .i64 (x).who, .int .i64 (x).rid, .int .i64 (x).kind, .string (x).why]) (.agg #[.int .i64 (y).tick, .int .i64 (y).who, .int .i64 (y).rid, .int .i64 (y).kind, .string (y).why])).run Tryd.prog w' = .ok () w' := fun op a b w' => guard_look op a b x y w'
      have HA := Lib.hid (And.intro hall (And.intro hx (And.intro hy (And.intro hbb ho))))
      have HB := Lib.hid hB
      clear hall b0 b1 b2 b3 b4 d0 d1 d2 d3 d4 hx hy ho hB hbb
      go_wp2
      (refine wp_region_quiet_below (by kernel_rfl) (by kernel_rfl) ?_; (repeat (go_big_quiet_step (fail))); refine wpQuiet_nil ?_; intro _ hw'; obtain ⟨⟨dq, osq⟩, hw''⟩ := hw'; subst hw'')
      clear g0 g1 g2 g3 g4 k0 k1 k2 k3 k4 hql hgl
      have hB := HB.out
      cases bb
      · go_wp2
        go_roundw
        case rel => exact ⟨q + 1 + 1, by go_num, by omega, by omega, fun j h1 h2 => by
            by_cases e : j = q + 1
            · subst e
              rw [HA.out.2.1, show q + 1 - 1 = q by omega, HA.out.2.2.1]; exact HA.out.2.2.2.1
            · exact HA.out.1 j h1 (by omega), by (repeat (first | with_reducible exact Below.refl _ _ | with_reducible exact below_regrown _ _ _ | with_reducible refine bel_step0 (by assumption) ?_ | with_reducible refine bel_alloc0 ?_ _ | with_reducible refine bel_regrown0 ?_ _ _ | with_reducible refine bel_regrown ?_ (by first | omega | (simp; done) | (simp; omega)) _ _ | with_reducible refine below_drewN ?_ _ | with_reducible refine Below.drew ?_ | with_reducible refine Below.alloc ?_ (by first | omega | (simp; done) | (simp; omega)) _ | with_reducible refine Below.setCell ?_ (by first | omega | (simp; done) | (simp; omega)) _ | with_reducible refine bel_step (by assumption) (by first | omega | (simp; done) | (simp; omega)) ?_ | with_reducible refine bel_grown (by assumption) (by first | omega | (simp; done) | (simp; omega)) (by first | omega | (simp; done) | (simp; omega)) ?_))⟩
        case measure => simp [intOf]; omega
      · have HC := Lib.hid (And.intro (Cpt.start (F := F) hk1 HA.out.1 (by rw [HA.out.2.1, show q + 1 - 1 = q by omega, HA.out.2.2.1]; exact HA.out.2.2.2.1)) (And.intro (show KF base (grow (redrawn wr dq) osq) g n cap F from HA.out.2.2.2.2.below (below_regrown _ _ _)) (show w.grownBy (grow (redrawn wr dq) osq) (some g) from grown_belowK (grown_belowK (World.grownBy.refl _ _) hB) (below_regrown _ _ _))))
        clear HA HB hB
        have s1 : (0 : Int) ≤ (q : Int) + 1 := by omega
        have s2 : (q : Int) + 1 ≤ (n : Int) := by omega
        have s3 : (q : Int) + 1 ≤ (cap : Int) := by omega
        have s4 : ((q : Int) + 1).toNat = q + 1 := by omega
        go_wp2
        go_loopw [3, 5] (fun p r wi => ∃ (kk k2 : Nat) (G : Nat → Lk), p = .int .i64 kk ∧ r = .int .i64 k2 ∧ 1 ≤ k2 ∧ q + 1 + k2 ≤ n ∧ Cpt F G (q + 1) k2 kk ∧ KF base wi g n cap G ∧ w.grownBy wi (some g)) (fun _ r _ => n - (intOf r).toNat)
        case atStart => exact ⟨q + 1, 1, F, rfl, by go_num, Nat.le_refl _, by omega, HC.out.1, HC.out.2.1, HC.out.2.2⟩
        case round =>
          clear HC s1 s2 s3 s4 q1 q2 q3 q4 q5
          obtain ⟨kk, k2, G, rfl, rfl, hk2, hkn2, hC, ho, hg⟩ := hrel
          have hle := hC.le
          have hlo := hC.lo
          obtain ⟨t, rfl⟩ : ∃ t, k2 = t + 1 := ⟨k2 - 1, by omega⟩
          by_cases hlt2 : q + 1 + (t + 1) < n
          · obtain ⟨u, hu⟩ : ∃ u, F (q + 1 + (t + 1)) = u := ⟨_, rfl⟩
            obtain ⟨v, hv⟩ : ∃ v, F (q + 1 + t) = v := ⟨_, rfl⟩
            obtain ⟨bb, hbb⟩ : ∃ bb, eqK u v = bb := ⟨_, rfl⟩
            have hG1 : G (q + 1 + (t + 1)) = u := by rw [hC.up _ (by omega)]; exact hu
            have hG2 : G (q + 1 + t) = v := by rw [hC.up _ (by omega)]; exact hv
            have l1 := ho.at_ hlt2
            have l2 := ho.at_ (show q + 1 + t < n by omega)
            rw [hG1, show (q + 1 + (t + 1)) * 5 = (q + 1) * 5 + (t + 1) * 5 by omega] at l1
            rw [hG2, show (q + 1 + t) * 5 = (q + 1) * 5 + t * 5 by omega] at l2
            obtain ⟨b0, b1, b2, b3, b4⟩ := l1
            obtain ⟨d0, d1, d2, d3, d4⟩ := l2
            have g0 := cell_regrown b0; have g1 := cell_regrown b1; have g2 := cell_regrown b2; have g3 := cell_regrown b3; have g4 := cell_regrown b4
            have k0 := cell_regrown d0; have k1 := cell_regrown d1; have k2 := cell_regrown d2; have k3 := cell_regrown d3; have k4 := cell_regrown d4
            have hql : ∀ w', (binOp .neq 26 (.agg #[.int .i64 (u).tick, .int .i64 (u).who, .int .i64 (u).rid, .int .i64 (u).kind, .string (u).why]) (.agg #[.int .i64 (v).tick, .int .i64 (v).who, .int .i64 (v).rid, .int .i64 (v).kind, .string (v).why])).run Tryd.prog w' = .ok (.bool (!bb)) w' := fun w' => by rw [neq_look, hbb]
            have hgl : ∀ op a b w', (eqGuard op 26 a b (.agg #[.int .i64 (u).tick, .int .i64 (u).who, .int .i64 (u).rid, .int .i64 (u).kind, .string (u).why]) (.agg #[.int .i64 (v).tick, .int .i64 (v).who, .int .i64 (v).rid, .int .i64 (v).kind, .string (v).why])).run Tryd.prog w' = .ok () w' := fun op a b w' => guard_look op a b u v w'
            have q1 : (0 : Int) ≤ (t : Int) := by omega
            have q2 : (t : Int) < ((n - (q + 1) : Nat) : Int) := by omega
            have q3 : (t : Int) + 1 < ((n - (q + 1) : Nat) : Int) := by omega
            have q4 : (0 : Int) ≤ (t : Int) + 1 := by omega
            have q5 : (t : Int) + 1 - 1 = (t : Int) := by omega
            have HC := Lib.hid hC
            have HU := Lib.hid (And.intro hu (And.intro hv hbb))
            have HO := Lib.hid (And.intro ho hg)
            clear b0 b1 b2 b3 b4 d0 d1 d2 d3 d4 hG1 hG2 hu hv hbb hC ho hg
            go_wp2
            (refine wp_region_quiet_below (by kernel_rfl) (by kernel_rfl) ?_; (repeat (go_big_quiet_step (fail))); refine wpQuiet_nil ?_; intro _ hw'; obtain ⟨⟨dq, osq⟩, hw''⟩ := hw'; subst hw'')
            clear g0 g1 g2 g3 g4 k0 k1 k2 k3 k4 hql hgl
            have O2 := Lib.hid (And.intro (HO.out.1.below (below_regrown wr dq osq)) (grown_belowK HO.out.2 (below_regrown wr dq osq)))
            cases bb
            · obtain ⟨w5, hw5⟩ : ∃ w5, w5 = grow (redrawn wr dq) osq := ⟨_, rfl⟩
              rw [← hw5] at O2 ⊢
              have l1 := O2.out.1.at_ hlt2
              rw [HC.out.up _ (by omega), HU.out.1, show (q + 1 + (t + 1)) * 5 = (q + 1) * 5 + (t + 1) * 5 by omega] at l1
              obtain ⟨b0, b1, b2, b3, b4⟩ := l1
              have fz := O2.out.1.frozen
              have f0 := fz (kk * 5); have f1 := fz (kk * 5 + 1); have f2 := fz (kk * 5 + 2); have f3 := fz (kk * 5 + 3); have f4 := fz (kk * 5 + 4)
              have ck := O2.out.1.at_ (show kk < n by omega)
              obtain ⟨c0, c1, c2, c3, c4⟩ := ck
              have p1 : (0 : Int) ≤ (kk : Int) := by omega
              have p2 : (kk : Int) < (n : Int) := by omega
              have HSW := Lib.hid (O2.out.1.set kk u)
              have HP := Lib.hid (HC.out.put (by omega) (by rw [show q + 1 + (t + 1) - 1 = q + 1 + t by omega, HU.out.1, HU.out.2.1]; exact HU.out.2.2))
              clear fz hw5
              go_wp2
              go_roundw
              case rel => exact ⟨kk + 1, t + 1 + 1, _, by go_num, by go_num, by omega, by omega, HP.out, by rw [HU.out.1]; exact HSW.out, by (repeat (first | with_reducible exact World.grownBy.refl _ _ | with_reducible refine only_drewN ?_ _ | with_reducible refine only_drew ?_ | with_reducible refine only_alloc ?_ _ | with_reducible refine only_setCell ?_ (by first | exact Or.inl rfl | (refine Or.inr ?_; simp; done) | (refine Or.inr ?_; omega)) _)); exact O2.out.2⟩
              case measure => simp [intOf]; omega
            · have HP := Lib.hid (HC.out.keep (by omega) (by rw [show q + 1 + (t + 1) - 1 = q + 1 + t by omega, HU.out.1, HU.out.2.1]; exact HU.out.2.2))
              go_wp2
              go_roundw
              case rel => exact ⟨kk, t + 1 + 1, _, rfl, by go_num, by omega, by omega, HP.out, O2.out.1, O2.out.2⟩
              case measure => simp [intOf]; omega
          · have hend : q + 1 + (t + 1) = n := by omega
            obtain ⟨i0, hi, hz0, hz1, hz2⟩ := info_parts info_look
            obtain ⟨vs, hcl⟩ := run_clearK wr 32 26 (.agg #[.int .i64 0, .int .i64 0, .int .i64 0, .int .i64 0, .string ByteArray.empty]) 5 Tryd.underlying32 (fun w => by simp [zeroValue, typeInfo, hi, hz0]) rfl (by intro v hv; simp [Value.cells] at hv; rcases hv with rfl | rfl | rfl | rfl | rfl <;> rfl) g (kk * 5) (n - kk) (cap - kk) (by omega) (by omega)
              (fun j hj => by rw [show kk * 5 + j = (kk + j / 5) * 5 + j % 5 by omega, ho.cell (j := kk + j / 5) (m := j % 5) (by omega) (by omega)]; rfl) (fun j hj => ho.frozen _)
            have hK := KF.cells vs (kk * 5) wr (ho.cut (show kk ≤ n by omega)) (Nat.le_refl _)
            have HE := Lib.hid (And.intro hK.1.ol (And.intro (grown_transK hg hK.2) hC.dd))
            have s1 : (0 : Int) ≤ (kk : Int) := by omega
            have s2 : (kk : Int) ≤ (n : Int) := by omega
            have s3 : (kk : Int) ≤ (cap : Int) := by omega
            have s4 : ¬ ((t : Int) + 1 < ((n - (q + 1) : Nat) : Int)) := by omega
            clear hi hz0 hz1 hz2 hK ho hg hC
            have hend2 := Lib.hid hend
            clear hend
            go_wp2
            go_ret
            refine ⟨_, rfl, ?_, HE.out.2.1⟩
            have := HE.out.2.2
            rw [hend2.out] at this
            rw [this]
            exact HE.out.1
    · obtain rfl : k = n := by omega
      have HE := Lib.hid (And.intro (ddU_all hall) (And.intro (HH.out.below hB).ol (show w.grownBy wr (some g) from grown_belowK (World.grownBy.refl _ _) hB)))
      clear hall hB
      go_wp2
      go_ret
      refine ⟨_, rfl, ?_, HE.out.2.2⟩
      rw [HE.out.1]
      exact HE.out.2.1
end Go.Proofs.YtmhelhjjadoiaaaDoor
