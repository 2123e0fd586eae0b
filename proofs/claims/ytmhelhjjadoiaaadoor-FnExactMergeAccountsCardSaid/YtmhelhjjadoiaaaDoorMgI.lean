/- MergeAccounts: the reference. No condition but those stated. -/
import Derived.Test.YtmhelhjjadoiaaaDoorMgH
namespace Go.Proofs.YtmhelhjjadoiaaaDoor
set_option linter.unusedVariables false
set_option linter.unusedSimpArgs false
open Go.RowKit Go.Sort
theorem mg_step (a : List Lk) (S : Nat → Lk) (k : Nat) : mrgL Lk.tick eqK a (seg S 0 (k + 1)) = mIns Lk.tick eqK (mrgL Lk.tick eqK a (seg S 0 k)) (S k) := by
  unfold mrgL
  rw [seg_add, List.foldl_append, Nat.zero_add]
  rfl
theorem mg_keep {l : List Lk} {x : Lk} {j : Nat} (hj : j < l.length) (h1 : ∀ q, q < j → (atK l q).tick < x.tick) (h2 : ¬ (atK l j).tick < x.tick) (he : eqK (atK l j) x = true) : mIns Lk.tick eqK l x = l := by
  have hi : idxI Lk.tick l x = j := idxI_of (by omega) h1 fun _ => h2
  unfold mIns
  rw [hi]
  have he2 : eqK (atE l j) x = true := he
  rw [he2]
  simp [hj]
theorem mg_put {l : List Lk} {x : Lk} {j : Nat} (hj : j ≤ l.length) (h1 : ∀ q, q < j → (atK l q).tick < x.tick) (h2 : j < l.length → ¬ (atK l j).tick < x.tick) (he : j < l.length → eqK (atK l j) x = false) : mIns Lk.tick eqK l x = insAt l j x := by
  have hi : idxI Lk.tick l x = j := idxI_of hj h1 h2
  unfold mIns
  rw [hi]
  by_cases e : j < l.length
  · have he2 : eqK (atE l j) x = false := he e
    rw [he2]; simp
  · simp [e]
theorem atK_take {l : List Lk} {k j : Nat} (h : j < k) : atK (l.take k) j = atK l j := by
  unfold atK
  rw [List.getD_eq_getElem?_getD, List.getD_eq_getElem?_getD, List.getElem?_take_of_lt h]
theorem atK_drop {l : List Lk} {k j : Nat} : atK (l.drop k) j = atK l (k + j) := by
  unfold atK
  rw [List.getD_eq_getElem?_getD, List.getD_eq_getElem?_getD, List.getElem?_drop]
def ML (w : World) (A : Option Addr) (l : List Lk) : Prop := RK w A l.length (atK l)
theorem ML.below {w w' : World} {A : Option Addr} {l : List Lk} (h : ML w A l) (hb : Below w.heap.size w w') : ML w' A l := RK.below hb h
theorem ML.take {w : World} {A : Option Addr} {l : List Lk} (h : ML w A l) (k : Nat) : ML w A (l.take k) := fun h0 => by
  have h1 : (l.take k).length ≤ l.length := by rw [List.length_take]; omega
  obtain ⟨b, off, e, hl, hc⟩ := h (by omega)
  refine ⟨b, off, e, hl, fun j hj => ?_⟩
  rw [List.length_take] at hj
  rw [atK_take (by omega)]
  exact hc j (by omega)
theorem ML.drop {w : World} {b off : Nat} {l : List Lk} (h : ML w (some ⟨b, off, none⟩) l) (k : Nat) : ML w (some ⟨b, off + k * 5, none⟩) (l.drop k) := fun h0 => by
  rw [List.length_drop] at h0
  obtain ⟨b', off', e, hl, hc⟩ := h (by omega)
  injection e with e
  injection e with e1 e2 _
  subst e1 e2
  refine ⟨b, off + k * 5, rfl, hl, fun j hj => ?_⟩
  rw [List.length_drop] at hj
  rw [atK_drop]
  have := hc (k + j) (by omega)
  rw [show off + (k + j) * 5 = off + k * 5 + j * 5 by omega] at this
  exact this
theorem ML.of_nil {w : World} {A : Option Addr} {l : List Lk} (h : l = []) : ML w A l := by subst h; exact fun h0 => absurd h0 (by simp)
theorem OL.ml {base : Nat} {w : World} {A : Option Addr} {n cap : Nat} {l : List Lk} (h : OL base w (.slice A n cap) l) : ML w A l := by
  obtain ⟨A', cap', e, h1, _⟩ := h.lks
  injection e with e1 e2 e3
  subst e1
  exact h1
theorem ml_lit (W : World) (x : Lk) (T : TypeId) : ML (W.alloc (.cells #[.int .i64 x.tick, .int .i64 x.who, .int .i64 x.rid, .int .i64 x.kind, .string x.why] T)) (some ⟨W.heap.size, 0, none⟩) [x] :=
  RK.one (by simp) (lk_lit W x T)
theorem ml_block {w w2 : World} {g : Nat} {x : Lk} (h : ML w (some ⟨g, 0, none⟩) [x]) (hg : w2.heap[g]? = w.heap[g]?) : ML w2 (some ⟨g, 0, none⟩) [x] := fun h0 => by
  obtain ⟨b, off, e, hl, hc⟩ := h h0
  injection e with e
  injection e with e1 e2 _
  subst e1 e2
  refine ⟨g, 0, rfl, ?_, fun j hj => (hc j hj).block hg⟩
  rcases Nat.lt_or_ge g w2.heap.size with h | h
  · exact h
  · rw [Array.getElem?_eq_none h, Array.getElem?_eq_getElem hl] at hg; cases hg
theorem ml_kept1 {w w2 : World} {T T' : TypeId} {x : Lk} (hq : ∀ q, q < ((w.alloc (.cells #[] T)).alloc (.cells #[.int .i64 x.tick, .int .i64 x.who, .int .i64 x.rid, .int .i64 x.kind, .string x.why] T')).heap.size → (Value.slice (some ⟨w.heap.size, 0, none⟩) 0 0).ownBlock ≠ some q → w2.heap[q]? = ((w.alloc (.cells #[] T)).alloc (.cells #[.int .i64 x.tick, .int .i64 x.who, .int .i64 x.rid, .int .i64 x.kind, .string x.why] T')).heap[q]?)
    : ML w2 (some ⟨w.heap.size + 1, 0, none⟩) [x] := by
  have h := ml_lit (w.alloc (.cells #[] T)) x T'
  rw [World.size_alloc] at h
  exact ml_block h (hq (w.heap.size + 1) (by simp) (by simp [Value.ownBlock]))
theorem ml_kept0 {w w2 : World} {T T' : TypeId} {x : Lk} (hq : ∀ q, q < ((w.alloc (.cells #[.int .i64 x.tick, .int .i64 x.who, .int .i64 x.rid, .int .i64 x.kind, .string x.why] T')).alloc (.cells #[] T)).heap.size → (Value.slice (some ⟨w.heap.size + 1, 0, none⟩) 0 0).ownBlock ≠ some q → w2.heap[q]? = ((w.alloc (.cells #[.int .i64 x.tick, .int .i64 x.who, .int .i64 x.rid, .int .i64 x.kind, .string x.why] T')).alloc (.cells #[] T)).heap[q]?)
    : ML w2 (some ⟨w.heap.size, 0, none⟩) [x] := by
  have h := (ml_lit w x T').below ((Below.refl _ _).alloc (Nat.le_refl _) (.cells #[] T))
  exact ml_block h (hq w.heap.size (by simp) (by simp [Value.ownBlock]))
set_option maxRecDepth 100000 in
set_option maxHeartbeats 8000000 in
theorem C_MergeS (v u : Value) (n m : Nat) (R S : Nat → Lk) (w : World) (h : LKs w v n R) (k : LKs w u m S) (hs : ∀ j, j < n → (R j).why.size ≤ 9223372036854775807) (ks : ∀ j, j < m → (S j).why.size ≤ 9223372036854775807) :
    Calls Tryd.prog 46 #[v, u] w fun e w' => ∃ v', e = .returned (.tuple #[v', .bool (mgOk n R m S)]) ∧ OL w.heap.size w' v' (mgL n R m S) ∧ Below w.heap.size w w' := by
  have HH := Lib.hid (And.intro h k)
  have HS := Lib.hid (And.intro hs ks)
  obtain ⟨A, ca, rfl, hA, hca, hma⟩ := h
  obtain ⟨B, cb, rfl, hB, hcb, hmb⟩ := k
  have HR := Lib.hid (And.intro hA hB)
  clear hA hB hs ks
  cases hd : accB n R
  · have E0 := Lib.hid (mgL_no1 (m := m) (S := S) hd)
    go_enter Tryd.func46, Tryd.ntmps46
    go_wp2_with fail
    refine (C_l22Good _ _ _ _ HH.out.1 HS.out.1).mono ?_; rintro e w1 ⟨rfl, hb1⟩; rw [hd]
    go_wp2_with fail
    go_ret2
    rw [E0.out.1, E0.out.2]
    exact ⟨_, rfl, OL.emptyAt rfl hb1.size, by (repeat (first | with_reducible exact Below.refl _ _ | with_reducible exact below_regrown _ _ _ | with_reducible refine bel_step0 (by assumption) ?_ | with_reducible refine bel_alloc0 ?_ _ | with_reducible refine bel_regrown0 ?_ _ _ | with_reducible refine bel_regrown ?_ (by first | omega | (simp; done) | (simp; omega)) _ _ | with_reducible refine below_drewN ?_ _ | with_reducible refine Below.drew ?_ | with_reducible refine Below.alloc ?_ (by first | omega | (simp; done) | (simp; omega)) _ | with_reducible refine Below.setCell ?_ (by first | omega | (simp; done) | (simp; omega)) _ | with_reducible refine bel_step (by assumption) (by first | omega | (simp; done) | (simp; omega)) ?_ | with_reducible refine bel_grown (by assumption) (by first | omega | (simp; done) | (simp; omega)) (by first | omega | (simp; done) | (simp; omega)) ?_))⟩
  cases hd2 : accB m S
  · have E0 := Lib.hid (mgL_no2 (n := n) (R := R) hd2)
    go_enter Tryd.func46, Tryd.ntmps46
    go_wp2_with fail
    refine (C_l22Good _ _ _ _ HH.out.1 HS.out.1).mono ?_; rintro e w1 ⟨rfl, hb1⟩; rw [hd]
    go_wp2_with fail
    refine (C_l22Good _ _ _ _ (HH.out.2.below hb1) HS.out.2).mono ?_; rintro e w2 ⟨rfl, hb2⟩; rw [hd2]
    have hb3 := bel_step0 hb2 hb1
    go_wp2_with fail
    go_ret2
    rw [E0.out.1, E0.out.2]
    exact ⟨_, rfl, OL.emptyAt rfl hb3.size, by (repeat (first | with_reducible exact Below.refl _ _ | with_reducible exact below_regrown _ _ _ | with_reducible refine bel_step0 (by assumption) ?_ | with_reducible refine bel_alloc0 ?_ _ | with_reducible refine bel_regrown0 ?_ _ _ | with_reducible refine bel_regrown ?_ (by first | omega | (simp; done) | (simp; omega)) _ _ | with_reducible refine below_drewN ?_ _ | with_reducible refine Below.drew ?_ | with_reducible refine Below.alloc ?_ (by first | omega | (simp; done) | (simp; omega)) _ | with_reducible refine Below.setCell ?_ (by first | omega | (simp; done) | (simp; omega)) _ | with_reducible refine bel_step (by assumption) (by first | omega | (simp; done) | (simp; omega)) ?_ | with_reducible refine bel_grown (by assumption) (by first | omega | (simp; done) | (simp; omega)) (by first | omega | (simp; done) | (simp; omega)) ?_))⟩
  have hn := (accB_at hd).1
  have hm := (accB_at hd2).1
  obtain ⟨la, hla⟩ : ∃ la, seg R 0 n = la := ⟨_, rfl⟩
  have hna : la.length = n := by rw [← hla, seg_len]
  have HL := Lib.hid hla
  have HR2 : Hid (ML w A la) := Lib.hid (by unfold ML; rw [hna, ← hla]; exact HR.out.1.congr fun j hj => (atK_seg hj).symm)
  have HA := Lib.hid (And.intro hd hd2)
  clear hla
  go_enter Tryd.func46, Tryd.ntmps46
  go_wp2_with fail
  refine (C_l22Good _ _ _ _ HH.out.1 HS.out.1).mono ?_; rintro e w1 ⟨rfl, B1⟩; rw [hd]
  go_wp2_with fail
  refine (C_l22Good _ _ _ _ (HH.out.2.below B1) HS.out.2).mono ?_; rintro e w2 ⟨rfl, hb2⟩; rw [hd2]
  have B2 := bel_step0 hb2 B1
  have hz2 := B2.size
  have B3 := bel_alloc0 B2 (.cells #[] 26)
  have HO3 := Lib.hid (And.intro (show OL w.heap.size (w2.alloc (.cells #[] 26)) (.slice (some ⟨w2.heap.size, 0, none⟩) 0 0) [] from OL.emptyAt rfl hz2) B3)
  clear B1 hb2 B2 hd hd2 B3
  go_wp2_with (at_builtin; refine wp_appL _ rfl _ _ rfl w.heap.size _ _ rfl HO3.out.1 A n ca la hna rfl (HR2.out.below HO3.out.2) (by simp; omega) HO3.out.2.size ?_; intro v1 w3 ho1 hg1 hx1)
  have B4 := HO3.out.2.trans ((Below.refl _ _).grown hg1 HO3.out.2.size (fun k hk => (OL.lt HO3.out.1 k hk).1))
  have X2 := Lib.hid (And.intro ho1 B4)
  clear ho1 hg1 hx1 B4 HO3
  go_loopw [6, 7] (fun o i wr => ∃ (k : Nat) (l : List Lk), k ≤ m ∧ i = .int .i64 k ∧ OL w.heap.size wr o l ∧ l = mrgL Lk.tick eqK (seg R 0 n) (seg S 0 k) ∧ l.length ≤ n + k ∧ Below w.heap.size w wr) (fun _ i _ => m - (intOf i).toNat)
  case atStart => exact ⟨0, la, Nat.zero_le _, rfl, X2.out.1, by rw [HL.out]; rfl, by omega, X2.out.2⟩
  case round =>
    clear X2
    obtain ⟨k, l, hk, rfl, ho, hl, hll, hB⟩ := hrel
    by_cases hlt : k < m
    · obtain ⟨L, hL⟩ : ∃ L, l.length = L := ⟨_, rfl⟩
      obtain ⟨b, off, rfl, hb, hcell⟩ := HR.out.2 (by omega)
      obtain ⟨x, hx⟩ : ∃ x, S k = x := ⟨_, rfl⟩
      have hcx := hcell k hlt
      rw [hx] at hcx
      have G := Lib.hid (fun W (hW : Below w.heap.size w W) => hcx.block (hW.block b hb))
      have hk0 : (0 : Int) ≤ (k : Int) := by omega
      have hk1 : (k : Int) < (m : Int) := by omega
      have HST := Lib.hid (show mrgL Lk.tick eqK (seg R 0 n) (seg S 0 (k + 1)) = mIns Lk.tick eqK l x by rw [mg_step, ← hl, hx])
      have HO := Lib.hid ho
      have HB := Lib.hid hB
      have hzs := hB.size
      obtain ⟨SA, sc, e⟩ := ho.form
      subst e
      have hsc : L ≤ sc ∧ sc ≤ 9223372036854775807 := by
        rcases ho.2 with ⟨e, h0⟩ | ⟨gq, cap', cur, e, _, _, h1, h2, _⟩
        · injection e with e1 e2 e3; omega
        · injection e with e1 e2 e3
          subst e3
          unfold maxLen at h2
          exact ⟨by omega, h2⟩
      rw [hL] at hll HO ⊢
      have HSL := Lib.hid hL
      clear hcell hcx hx hl ho hL hB
      go_wp2
      go_loopw [8] (fun i wi => ∃ j : Nat, i = .int .i64 j ∧ j ≤ L ∧ (∀ q, q < j → (atK l q).tick < x.tick) ∧ OL w.heap.size wi (.slice SA L sc) l ∧ Below w.heap.size w wi) (fun i _ => L - (intOf i).toNat)
      case atStart => exact ⟨0, rfl, Nat.zero_le _, fun q h => absurd h (by omega), HO.out, HB.out⟩
      case round =>
        clear HO HB hzs
        obtain ⟨j, rfl, hjL, hlow, ho, hB⟩ := hrel
        by_cases hjl : j < L
        · have hex : ∃ gq, SA = some ⟨gq, 0, none⟩ := by
            rcases ho.2 with ⟨e, h0⟩ | ⟨gq, cap', cur, e, _⟩
            · have := HSL.out; omega
            · injection e with e1 _ _; exact ⟨gq, e1⟩
          obtain ⟨gq, rfl⟩ := hex
          obtain ⟨y, hy⟩ : ∃ y, atK l j = y := ⟨_, rfl⟩
          have hcy : ∀ W, OL w.heap.size W (.slice (some ⟨gq, 0, none⟩) L sc) l → LkAt W gq (j * 5) y := fun W hW => by
            rw [← hy]
            exact (OL.kf HSL.out hW).at_ hjl
          have HCY := Lib.hid hcy
          obtain ⟨c0, _, _, _, _⟩ := hcy _ ho
          obtain ⟨t0, _, _, _, _⟩ := G.out _ hB
          have g0 := cell_regrown c0
          have gt0 := cell_regrown t0
          have hj0 : (0 : Int) ≤ (j : Int) := by omega
          have hj1 : (j : Int) < (L : Int) := by omega
          have HO := Lib.hid (And.intro ho hB)
          have HLOW := Lib.hid hlow
          have HY := Lib.hid hy
          clear c0 t0 hcy ho hB hlow hy
          by_cases hlt2 : y.tick < x.tick
          · go_wp2
            (refine wp_region_quiet_below (by kernel_rfl) (by kernel_rfl) ?_; (repeat (go_big_quiet_step (fail))); refine wpQuiet_nil ?_; intro _ hw'; obtain ⟨⟨dq, osq⟩, hw''⟩ := hw'; subst hw'')
            go_wp2
            go_roundw
            case rel => exact ⟨j + 1, by go_num, by omega, fun q hq => by
              by_cases e : q = j
              · rw [e, HY.out]; exact hlt2
              · exact HLOW.out q (by omega), HO.out.1.below (below_regrown _ _ _), bel_regrown0 HO.out.2 _ _⟩
            case measure => simp [intOf]; omega
          · cases he : eqK y x
            · have HNEW := Lib.hid (HST.out.trans (mg_put (by rw [HSL.out]; exact hjL) HLOW.out (fun _ => by rw [HY.out]; exact hlt2) (fun _ => by rw [HY.out]; exact he)))
              have hql : ∀ w', (binOp .eql 26 (.agg #[.int .i64 (y).tick, .int .i64 (y).who, .int .i64 (y).rid, .int .i64 (y).kind, .string (y).why]) (.agg #[.int .i64 (x).tick, .int .i64 (x).who, .int .i64 (x).rid, .int .i64 (x).kind, .string (x).why])).run Tryd.prog w' = .ok (.bool false) w' := fun w' => by rw [eql_look, he]
              have hgl : ∀ op a b w', (eqGuard op 26 a b (.agg #[.int .i64 (y).tick, .int .i64 (y).who, .int .i64 (y).rid, .int .i64 (y).kind, .string (y).why]) (.agg #[.int .i64 (x).tick, .int .i64 (x).who, .int .i64 (x).rid, .int .i64 (x).kind, .string (x).why])).run Tryd.prog w' = .ok () w' := fun op a b w' => guard_look op a b y x w'
              clear he HLOW HY
              go_wp2
              (refine wp_region_quiet_below (by kernel_rfl) (by kernel_rfl) ?_; (repeat (go_big_quiet_step (fail))); refine wpQuiet_nil ?_; intro _ hw'; obtain ⟨⟨dq, osq⟩, hw''⟩ := hw'; subst hw'')
              clear g0 gt0
              obtain ⟨w4, hw4⟩ : ∃ w4, w4 = grow (redrawn wr dq) osq := ⟨_, rfl⟩
              have O4 := Lib.hid (show OL w.heap.size w4 (.slice (some (⟨gq, 0, none⟩ : Addr)) L sc) l by rw [hw4]; exact HO.out.1.below (below_regrown _ _ _))
              have B4 := Lib.hid (show Below w.heap.size w w4 by rw [hw4]; exact bel_regrown0 HO.out.2 _ _)
              rw [← hw4]
              clear hw4
              obtain ⟨c0, c1, c2, c3, c4⟩ := HCY.out _ O4.out
              obtain ⟨t0, t1, t2, t3, t4⟩ := G.out _ B4.out
              have g0 := cell_regrown c0; have g1 := cell_regrown c1; have g2 := cell_regrown c2; have g3 := cell_regrown c3; have g4 := cell_regrown c4
              have k0 := cell_regrown t0; have k1 := cell_regrown t1; have k2 := cell_regrown t2; have k3 := cell_regrown t3; have k4 := cell_regrown t4
              clear c0 c1 c2 c3 c4 t0 t1 t2 t3 t4
              go_wp2
              (refine wp_region_quiet_below (by kernel_rfl) (by kernel_rfl) ?_; (repeat (go_big_quiet_step (fail))); refine wpQuiet_nil ?_; intro _ hw'; obtain ⟨⟨dq, osq⟩, hw''⟩ := hw'; subst hw'')
              clear g0 g1 g2 g3 g4 k0 k1 k2 k3 k4 hql hgl
              obtain ⟨w5, hw5⟩ : ∃ w5, w5 = grow (redrawn w4 dq) osq := ⟨_, rfl⟩
              have O5 := Lib.hid (show OL w.heap.size w5 (.slice (some (⟨gq, 0, none⟩ : Addr)) L sc) l by rw [hw5]; exact O4.out.below (below_regrown _ _ _))
              have B5 := Lib.hid (show Below w.heap.size w w5 by rw [hw5]; exact bel_regrown0 B4.out _ _)
              rw [← hw5]
              have hwz := B5.out.size
              have r0 : ∀ W, Below w5.heap.size w5 W → W.cell? ⟨b, off + k * 5, none⟩ = some (.int .i64 x.tick) := fun W hW => (G.out W (bel_step0 hW B5.out)).c0
              have r1 : ∀ W, Below w5.heap.size w5 W → W.cell? ⟨b, off + k * 5 + 1, none⟩ = some (.int .i64 x.who) := fun W hW => (G.out W (bel_step0 hW B5.out)).c1
              have r2 : ∀ W, Below w5.heap.size w5 W → W.cell? ⟨b, off + k * 5 + 2, none⟩ = some (.int .i64 x.rid) := fun W hW => (G.out W (bel_step0 hW B5.out)).c2
              have r3 : ∀ W, Below w5.heap.size w5 W → W.cell? ⟨b, off + k * 5 + 3, none⟩ = some (.int .i64 x.kind) := fun W hW => (G.out W (bel_step0 hW B5.out)).c3
              have r4 : ∀ W, Below w5.heap.size w5 W → W.cell? ⟨b, off + k * 5 + 4, none⟩ = some (.string x.why) := fun W hW => (G.out W (bel_step0 hW B5.out)).c4
              have HTK := Lib.hid (O5.out.ml.take j)
              have HTKL := Lib.hid (show (l.take j).length = j by rw [List.length_take, HSL.out]; omega)
              have hfin : [] ++ l.take j ++ [x] ++ l.drop j = insAt l j x := by unfold insAt; simp
              have HFIN := Lib.hid (And.intro (hfin.trans HNEW.out.symm) (show ([] ++ l.take j ++ [x] ++ l.drop j).length ≤ n + (k + 1) by rw [hfin, insAt_len]; have := HSL.out; omega))
              have hj0 : (0 : Int) ≤ (j : Int) := by omega
              have hj3 : (j : Int) ≤ (sc : Int) := by omega
              have hj4 : (L : Int) ≤ (sc : Int) := by omega
              clear O4 B4 hw5 hfin
              have hk4 : ¬ sc = j := by omega
              have hj1 : (j : Int) ≤ (L : Int) := by omega
              have HDRL := Lib.hid (show (l.drop j).length = L - j by rw [List.length_drop, HSL.out])
              have htl := ML.drop O5.out.ml j
              rw [Nat.zero_add] at htl
              have HTL := Lib.hid htl
              clear htl
              go_wp2
              go_region_held3 (fun W => Below w5.heap.size w5 W) (((repeat (first | with_reducible exact Below.refl _ _ | with_reducible exact below_regrown _ _ _ | with_reducible refine bel_step0 (by assumption) ?_ | with_reducible refine bel_alloc0 ?_ _ | with_reducible refine bel_regrown0 ?_ _ _ | with_reducible refine bel_regrown ?_ (by first | omega | (simp; done) | (simp; omega)) _ _ | with_reducible refine below_drewN ?_ _ | with_reducible refine Below.drew ?_ | with_reducible refine Below.alloc ?_ (by first | omega | (simp; done) | (simp; omega)) _ | with_reducible refine Below.setCell ?_ (by first | omega | (simp; done) | (simp; omega)) _ | with_reducible refine bel_step (by assumption) (by first | omega | (simp; done) | (simp; omega)) ?_ | with_reducible refine bel_grown (by assumption) (by first | omega | (simp; done) | (simp; omega)) (by first | omega | (simp; done) | (simp; omega)) ?_)))) (first | ((refine step_appL _ (by rfl) (.tmp 61) (.tmp 64) (by rfl) w5 _ [] _ (by rfl) (by first | exact OL.emptyAt (by simp) (by simp) | exact OL.alloc (OL.emptyAt (by simp) (by simp)) _) (by (repeat (first | with_reducible exact Below.refl _ _ | with_reducible exact below_regrown _ _ _ | with_reducible refine bel_step0 (by assumption) ?_ | with_reducible refine bel_alloc0 ?_ _ | with_reducible refine bel_regrown0 ?_ _ _ | with_reducible refine bel_regrown ?_ (by first | omega | (simp; done) | (simp; omega)) _ _ | with_reducible refine below_drewN ?_ _ | with_reducible refine Below.drew ?_ | with_reducible refine Below.alloc ?_ (by first | omega | (simp; done) | (simp; omega)) _ | with_reducible refine Below.setCell ?_ (by first | omega | (simp; done) | (simp; omega)) _ | with_reducible refine bel_step (by assumption) (by first | omega | (simp; done) | (simp; omega)) ?_ | with_reducible refine bel_grown (by assumption) (by first | omega | (simp; done) | (simp; omega)) (by first | omega | (simp; done) | (simp; omega)) ?_))) _ _ _ HTKL.out (by rfl) (HTK.out.below (by (repeat (first | with_reducible exact Below.refl _ _ | with_reducible exact below_regrown _ _ _ | with_reducible refine bel_step0 (by assumption) ?_ | with_reducible refine bel_alloc0 ?_ _ | with_reducible refine bel_regrown0 ?_ _ _ | with_reducible refine bel_regrown ?_ (by first | omega | (simp; done) | (simp; omega)) _ _ | with_reducible refine below_drewN ?_ _ | with_reducible refine Below.drew ?_ | with_reducible refine Below.alloc ?_ (by first | omega | (simp; done) | (simp; omega)) _ | with_reducible refine Below.setCell ?_ (by first | omega | (simp; done) | (simp; omega)) _ | with_reducible refine bel_step (by assumption) (by first | omega | (simp; done) | (simp; omega)) ?_ | with_reducible refine bel_grown (by assumption) (by first | omega | (simp; done) | (simp; omega)) (by first | omega | (simp; done) | (simp; omega)) ?_)))) (by simp; omega) ?_; intro v2 w2 ho2 hb2 hq2 hs2; have HQ2 := Lib.hid hq2; clear hq2)) | ((refine step_appL _ (by rfl) (.tmp 65) (.tmp 70) (by rfl) w5 _ _ [x] (by rfl) (by first | exact ho2 | exact OL.alloc ho2 _) (by (repeat (first | with_reducible exact Below.refl _ _ | with_reducible exact below_regrown _ _ _ | with_reducible refine bel_step0 (by assumption) ?_ | with_reducible refine bel_alloc0 ?_ _ | with_reducible refine bel_regrown0 ?_ _ _ | with_reducible refine bel_regrown ?_ (by first | omega | (simp; done) | (simp; omega)) _ _ | with_reducible refine below_drewN ?_ _ | with_reducible refine Below.drew ?_ | with_reducible refine Below.alloc ?_ (by first | omega | (simp; done) | (simp; omega)) _ | with_reducible refine Below.setCell ?_ (by first | omega | (simp; done) | (simp; omega)) _ | with_reducible refine bel_step (by assumption) (by first | omega | (simp; done) | (simp; omega)) ?_ | with_reducible refine bel_grown (by assumption) (by first | omega | (simp; done) | (simp; omega)) (by first | omega | (simp; done) | (simp; omega)) ?_))) _ 1 1 (by rfl) (by rfl) (by first | exact ml_lit _ _ _ | exact ml_kept1 HQ2.out | exact ml_kept0 HQ2.out) (by rw [List.nil_append, HTKL.out]; omega) ?_; intro v3 w3 ho3 hb3 hq3 hs3; clear hq3 hs3)) | ((refine step_appL _ (by rfl) (.tmp 71) (.tmp 74) (by rfl) w5 _ _ _ (by rfl) ho3 (by (repeat (first | with_reducible exact Below.refl _ _ | with_reducible exact below_regrown _ _ _ | with_reducible refine bel_step0 (by assumption) ?_ | with_reducible refine bel_alloc0 ?_ _ | with_reducible refine bel_regrown0 ?_ _ _ | with_reducible refine bel_regrown ?_ (by first | omega | (simp; done) | (simp; omega)) _ _ | with_reducible refine below_drewN ?_ _ | with_reducible refine Below.drew ?_ | with_reducible refine Below.alloc ?_ (by first | omega | (simp; done) | (simp; omega)) _ | with_reducible refine Below.setCell ?_ (by first | omega | (simp; done) | (simp; omega)) _ | with_reducible refine bel_step (by assumption) (by first | omega | (simp; done) | (simp; omega)) ?_ | with_reducible refine bel_grown (by assumption) (by first | omega | (simp; done) | (simp; omega)) (by first | omega | (simp; done) | (simp; omega)) ?_))) _ _ _ HDRL.out (by rfl) ((HTL.out.below (by (repeat (first | with_reducible exact Below.refl _ _ | with_reducible exact below_regrown _ _ _ | with_reducible refine bel_step0 (by assumption) ?_ | with_reducible refine bel_alloc0 ?_ _ | with_reducible refine bel_regrown0 ?_ _ _ | with_reducible refine bel_regrown ?_ (by first | omega | (simp; done) | (simp; omega)) _ _ | with_reducible refine below_drewN ?_ _ | with_reducible refine Below.drew ?_ | with_reducible refine Below.alloc ?_ (by first | omega | (simp; done) | (simp; omega)) _ | with_reducible refine Below.setCell ?_ (by first | omega | (simp; done) | (simp; omega)) _ | with_reducible refine bel_step (by assumption) (by first | omega | (simp; done) | (simp; omega)) ?_ | with_reducible refine bel_grown (by assumption) (by first | omega | (simp; done) | (simp; omega)) (by first | omega | (simp; done) | (simp; omega)) ?_))))) (by rw [List.length_append, List.nil_append, HTKL.out]; simp; omega) ?_; intro v4 w4 ho4 hb4 hq4 hs4; clear hq4 hs4)))
              all_goals
                go_wp2
                go_roundw
                case rel => exact ⟨k + 1, _, by omega, by go_num, OL.mono hwz ho4, HFIN.out.1, HFIN.out.2, bel_step0 hb4 B5.out⟩
                case measure => simp [intOf]; omega
            · have HNEW := Lib.hid (HST.out.trans (mg_keep (by rw [HSL.out]; exact hjl) HLOW.out (by rw [HY.out]; exact hlt2) (by rw [HY.out]; exact he)))
              have hql : ∀ w', (binOp .eql 26 (.agg #[.int .i64 (y).tick, .int .i64 (y).who, .int .i64 (y).rid, .int .i64 (y).kind, .string (y).why]) (.agg #[.int .i64 (x).tick, .int .i64 (x).who, .int .i64 (x).rid, .int .i64 (x).kind, .string (x).why])).run Tryd.prog w' = .ok (.bool true) w' := fun w' => by rw [eql_look, he]
              have hgl : ∀ op a b w', (eqGuard op 26 a b (.agg #[.int .i64 (y).tick, .int .i64 (y).who, .int .i64 (y).rid, .int .i64 (y).kind, .string (y).why]) (.agg #[.int .i64 (x).tick, .int .i64 (x).who, .int .i64 (x).rid, .int .i64 (x).kind, .string (x).why])).run Tryd.prog w' = .ok () w' := fun op a b w' => guard_look op a b y x w'
              clear he HLOW HY
              go_wp2
              (refine wp_region_quiet_below (by kernel_rfl) (by kernel_rfl) ?_; (repeat (go_big_quiet_step (fail))); refine wpQuiet_nil ?_; intro _ hw'; obtain ⟨⟨dq, osq⟩, hw''⟩ := hw'; subst hw'')
              clear g0 gt0
              obtain ⟨w4, hw4⟩ : ∃ w4, w4 = grow (redrawn wr dq) osq := ⟨_, rfl⟩
              have O4 := Lib.hid (show OL w.heap.size w4 (.slice (some (⟨gq, 0, none⟩ : Addr)) L sc) l by rw [hw4]; exact HO.out.1.below (below_regrown _ _ _))
              have B4 := Lib.hid (show Below w.heap.size w w4 by rw [hw4]; exact bel_regrown0 HO.out.2 _ _)
              rw [← hw4]
              clear hw4
              obtain ⟨c0, c1, c2, c3, c4⟩ := HCY.out _ O4.out
              obtain ⟨t0, t1, t2, t3, t4⟩ := G.out _ B4.out
              have g0 := cell_regrown c0; have g1 := cell_regrown c1; have g2 := cell_regrown c2; have g3 := cell_regrown c3; have g4 := cell_regrown c4
              have k0 := cell_regrown t0; have k1 := cell_regrown t1; have k2 := cell_regrown t2; have k3 := cell_regrown t3; have k4 := cell_regrown t4
              clear c0 c1 c2 c3 c4 t0 t1 t2 t3 t4
              go_wp2
              (refine wp_region_quiet_below (by kernel_rfl) (by kernel_rfl) ?_; (repeat (go_big_quiet_step (fail))); refine wpQuiet_nil ?_; intro _ hw'; obtain ⟨⟨dq, osq⟩, hw''⟩ := hw'; subst hw'')
              clear g0 g1 g2 g3 g4 k0 k1 k2 k3 k4 hql hgl
              go_wp2
              go_roundw
              case rel => exact ⟨k + 1, l, by omega, by go_num, O4.out.below (below_regrown _ _ _), HNEW.out.symm, by have := HSL.out; omega, bel_regrown0 B4.out _ _⟩
              case measure => simp [intOf]; omega
        · obtain rfl : L = j := by omega
          have HNEW := Lib.hid (HST.out.trans (mg_put (by rw [HSL.out]; exact hjL) hlow (fun h => absurd h (by rw [HSL.out]; omega)) (fun h => absurd h (by rw [HSL.out]; omega))))
          have HO := Lib.hid (And.intro ho hB)
          clear ho hB hlow
          go_wp2
          (refine wp_region_quiet_below (by kernel_rfl) (by kernel_rfl) ?_; (repeat (go_big_quiet_step (fail))); refine wpQuiet_nil ?_; intro _ hw'; obtain ⟨⟨dq, osq⟩, hw''⟩ := hw'; subst hw'')
          obtain ⟨w4, hw4⟩ : ∃ w4, w4 = grow (redrawn wr dq) osq := ⟨_, rfl⟩
          have O4 := Lib.hid (show OL w.heap.size w4 (.slice SA L sc) l by rw [hw4]; exact HO.out.1.below (below_regrown _ _ _))
          have B4 := Lib.hid (show Below w.heap.size w w4 by rw [hw4]; exact bel_regrown0 HO.out.2 _ _)
          rw [← hw4]
          clear hw4
          go_wp2
          (refine wp_region_quiet_below (by kernel_rfl) (by kernel_rfl) ?_; (repeat (go_big_quiet_step (fail))); refine wpQuiet_nil ?_; intro _ hw'; obtain ⟨⟨dq, osq⟩, hw''⟩ := hw'; subst hw'')
          obtain ⟨w5, hw5⟩ : ∃ w5, w5 = grow (redrawn w4 dq) osq := ⟨_, rfl⟩
          have O5 := Lib.hid (show OL w.heap.size w5 (.slice SA L sc) l by rw [hw5]; exact O4.out.below (below_regrown _ _ _))
          have B5 := Lib.hid (show Below w.heap.size w w5 by rw [hw5]; exact bel_regrown0 B4.out _ _)
          rw [← hw5]
          have hwz := B5.out.size
          have r0 : ∀ W, Below w5.heap.size w5 W → W.cell? ⟨b, off + k * 5, none⟩ = some (.int .i64 x.tick) := fun W hW => (G.out W (bel_step0 hW B5.out)).c0
          have r1 : ∀ W, Below w5.heap.size w5 W → W.cell? ⟨b, off + k * 5 + 1, none⟩ = some (.int .i64 x.who) := fun W hW => (G.out W (bel_step0 hW B5.out)).c1
          have r2 : ∀ W, Below w5.heap.size w5 W → W.cell? ⟨b, off + k * 5 + 2, none⟩ = some (.int .i64 x.rid) := fun W hW => (G.out W (bel_step0 hW B5.out)).c2
          have r3 : ∀ W, Below w5.heap.size w5 W → W.cell? ⟨b, off + k * 5 + 3, none⟩ = some (.int .i64 x.kind) := fun W hW => (G.out W (bel_step0 hW B5.out)).c3
          have r4 : ∀ W, Below w5.heap.size w5 W → W.cell? ⟨b, off + k * 5 + 4, none⟩ = some (.string x.why) := fun W hW => (G.out W (bel_step0 hW B5.out)).c4
          have HTK := Lib.hid (O5.out.ml.take L)
          have HTKL := Lib.hid (show (l.take L).length = L by rw [List.length_take, HSL.out]; omega)
          have hfin : [] ++ l.take L ++ [x] ++ l.drop L = insAt l L x := by unfold insAt; simp
          have HFIN := Lib.hid (And.intro (hfin.trans HNEW.out.symm) (show ([] ++ l.take L ++ [x] ++ l.drop L).length ≤ n + (k + 1) by rw [hfin, insAt_len]; have := HSL.out; omega))
          have hj0 : (0 : Int) ≤ (L : Int) := by omega
          have hj3 : (L : Int) ≤ (sc : Int) := by omega
          have hj4 : (L : Int) ≤ (sc : Int) := by omega
          clear O4 B4 hw5 hfin
          have HDR0 := Lib.hid (show l.drop L = [] from List.drop_eq_nil_of_le (by rw [HSL.out]; exact Nat.le_refl _))
          have HDRL := Lib.hid (show (l.drop L).length = 0 by rw [HDR0.out]; rfl)
          by_cases hcn : sc = L
          · obtain rfl : L = sc := hcn.symm
            clear hcn
            go_wp2
            go_region_held3 (fun W => Below w5.heap.size w5 W) (((repeat (first | with_reducible exact Below.refl _ _ | with_reducible exact below_regrown _ _ _ | with_reducible refine bel_step0 (by assumption) ?_ | with_reducible refine bel_alloc0 ?_ _ | with_reducible refine bel_regrown0 ?_ _ _ | with_reducible refine bel_regrown ?_ (by first | omega | (simp; done) | (simp; omega)) _ _ | with_reducible refine below_drewN ?_ _ | with_reducible refine Below.drew ?_ | with_reducible refine Below.alloc ?_ (by first | omega | (simp; done) | (simp; omega)) _ | with_reducible refine Below.setCell ?_ (by first | omega | (simp; done) | (simp; omega)) _ | with_reducible refine bel_step (by assumption) (by first | omega | (simp; done) | (simp; omega)) ?_ | with_reducible refine bel_grown (by assumption) (by first | omega | (simp; done) | (simp; omega)) (by first | omega | (simp; done) | (simp; omega)) ?_)))) (first | ((refine step_appL _ (by rfl) (.tmp 61) (.tmp 64) (by rfl) w5 _ [] _ (by rfl) (by first | exact OL.emptyAt (by simp) (by simp) | exact OL.alloc (OL.emptyAt (by simp) (by simp)) _) (by (repeat (first | with_reducible exact Below.refl _ _ | with_reducible exact below_regrown _ _ _ | with_reducible refine bel_step0 (by assumption) ?_ | with_reducible refine bel_alloc0 ?_ _ | with_reducible refine bel_regrown0 ?_ _ _ | with_reducible refine bel_regrown ?_ (by first | omega | (simp; done) | (simp; omega)) _ _ | with_reducible refine below_drewN ?_ _ | with_reducible refine Below.drew ?_ | with_reducible refine Below.alloc ?_ (by first | omega | (simp; done) | (simp; omega)) _ | with_reducible refine Below.setCell ?_ (by first | omega | (simp; done) | (simp; omega)) _ | with_reducible refine bel_step (by assumption) (by first | omega | (simp; done) | (simp; omega)) ?_ | with_reducible refine bel_grown (by assumption) (by first | omega | (simp; done) | (simp; omega)) (by first | omega | (simp; done) | (simp; omega)) ?_))) _ _ _ HTKL.out (by rfl) (HTK.out.below (by (repeat (first | with_reducible exact Below.refl _ _ | with_reducible exact below_regrown _ _ _ | with_reducible refine bel_step0 (by assumption) ?_ | with_reducible refine bel_alloc0 ?_ _ | with_reducible refine bel_regrown0 ?_ _ _ | with_reducible refine bel_regrown ?_ (by first | omega | (simp; done) | (simp; omega)) _ _ | with_reducible refine below_drewN ?_ _ | with_reducible refine Below.drew ?_ | with_reducible refine Below.alloc ?_ (by first | omega | (simp; done) | (simp; omega)) _ | with_reducible refine Below.setCell ?_ (by first | omega | (simp; done) | (simp; omega)) _ | with_reducible refine bel_step (by assumption) (by first | omega | (simp; done) | (simp; omega)) ?_ | with_reducible refine bel_grown (by assumption) (by first | omega | (simp; done) | (simp; omega)) (by first | omega | (simp; done) | (simp; omega)) ?_)))) (by simp; omega) ?_; intro v2 w2 ho2 hb2 hq2 hs2; have HQ2 := Lib.hid hq2; clear hq2)) | ((refine step_appL _ (by rfl) (.tmp 65) (.tmp 70) (by rfl) w5 _ _ [x] (by rfl) (by first | exact ho2 | exact OL.alloc ho2 _) (by (repeat (first | with_reducible exact Below.refl _ _ | with_reducible exact below_regrown _ _ _ | with_reducible refine bel_step0 (by assumption) ?_ | with_reducible refine bel_alloc0 ?_ _ | with_reducible refine bel_regrown0 ?_ _ _ | with_reducible refine bel_regrown ?_ (by first | omega | (simp; done) | (simp; omega)) _ _ | with_reducible refine below_drewN ?_ _ | with_reducible refine Below.drew ?_ | with_reducible refine Below.alloc ?_ (by first | omega | (simp; done) | (simp; omega)) _ | with_reducible refine Below.setCell ?_ (by first | omega | (simp; done) | (simp; omega)) _ | with_reducible refine bel_step (by assumption) (by first | omega | (simp; done) | (simp; omega)) ?_ | with_reducible refine bel_grown (by assumption) (by first | omega | (simp; done) | (simp; omega)) (by first | omega | (simp; done) | (simp; omega)) ?_))) _ 1 1 (by rfl) (by rfl) (by first | exact ml_lit _ _ _ | exact ml_kept1 HQ2.out | exact ml_kept0 HQ2.out) (by rw [List.nil_append, HTKL.out]; omega) ?_; intro v3 w3 ho3 hb3 hq3 hs3; clear hq3 hs3)) | ((refine step_appL _ (by rfl) (.tmp 71) (.tmp 74) (by rfl) w5 _ _ _ (by rfl) ho3 (by (repeat (first | with_reducible exact Below.refl _ _ | with_reducible exact below_regrown _ _ _ | with_reducible refine bel_step0 (by assumption) ?_ | with_reducible refine bel_alloc0 ?_ _ | with_reducible refine bel_regrown0 ?_ _ _ | with_reducible refine bel_regrown ?_ (by first | omega | (simp; done) | (simp; omega)) _ _ | with_reducible refine below_drewN ?_ _ | with_reducible refine Below.drew ?_ | with_reducible refine Below.alloc ?_ (by first | omega | (simp; done) | (simp; omega)) _ | with_reducible refine Below.setCell ?_ (by first | omega | (simp; done) | (simp; omega)) _ | with_reducible refine bel_step (by assumption) (by first | omega | (simp; done) | (simp; omega)) ?_ | with_reducible refine bel_grown (by assumption) (by first | omega | (simp; done) | (simp; omega)) (by first | omega | (simp; done) | (simp; omega)) ?_))) _ _ _ HDRL.out (by rfl) ((ML.of_nil HDR0.out)) (by rw [List.length_append, List.nil_append, HTKL.out]; simp; omega) ?_; intro v4 w4 ho4 hb4 hq4 hs4; clear hq4 hs4)))
            all_goals
              go_wp2
              go_roundw
              case rel => exact ⟨k + 1, _, by omega, by go_num, OL.mono hwz ho4, HFIN.out.1, HFIN.out.2, bel_step0 hb4 B5.out⟩
              case measure => simp [intOf]; omega
          · have hex : ∃ gq, SA = some ⟨gq, 0, none⟩ := by
              rcases O5.out.2 with ⟨e, h0⟩ | ⟨gq, cap', cur, e, _⟩
              · injection e with _ e1 e2; rw [HSL.out] at h0; omega
              · injection e with e1 _ _; exact ⟨gq, e1⟩
            obtain ⟨gq, hSA⟩ := hex
            subst hSA
            go_wp2
            go_region_held3 (fun W => Below w5.heap.size w5 W) (((repeat (first | with_reducible exact Below.refl _ _ | with_reducible exact below_regrown _ _ _ | with_reducible refine bel_step0 (by assumption) ?_ | with_reducible refine bel_alloc0 ?_ _ | with_reducible refine bel_regrown0 ?_ _ _ | with_reducible refine bel_regrown ?_ (by first | omega | (simp; done) | (simp; omega)) _ _ | with_reducible refine below_drewN ?_ _ | with_reducible refine Below.drew ?_ | with_reducible refine Below.alloc ?_ (by first | omega | (simp; done) | (simp; omega)) _ | with_reducible refine Below.setCell ?_ (by first | omega | (simp; done) | (simp; omega)) _ | with_reducible refine bel_step (by assumption) (by first | omega | (simp; done) | (simp; omega)) ?_ | with_reducible refine bel_grown (by assumption) (by first | omega | (simp; done) | (simp; omega)) (by first | omega | (simp; done) | (simp; omega)) ?_)))) (first | ((refine step_appL _ (by rfl) (.tmp 61) (.tmp 64) (by rfl) w5 _ [] _ (by rfl) (by first | exact OL.emptyAt (by simp) (by simp) | exact OL.alloc (OL.emptyAt (by simp) (by simp)) _) (by (repeat (first | with_reducible exact Below.refl _ _ | with_reducible exact below_regrown _ _ _ | with_reducible refine bel_step0 (by assumption) ?_ | with_reducible refine bel_alloc0 ?_ _ | with_reducible refine bel_regrown0 ?_ _ _ | with_reducible refine bel_regrown ?_ (by first | omega | (simp; done) | (simp; omega)) _ _ | with_reducible refine below_drewN ?_ _ | with_reducible refine Below.drew ?_ | with_reducible refine Below.alloc ?_ (by first | omega | (simp; done) | (simp; omega)) _ | with_reducible refine Below.setCell ?_ (by first | omega | (simp; done) | (simp; omega)) _ | with_reducible refine bel_step (by assumption) (by first | omega | (simp; done) | (simp; omega)) ?_ | with_reducible refine bel_grown (by assumption) (by first | omega | (simp; done) | (simp; omega)) (by first | omega | (simp; done) | (simp; omega)) ?_))) _ _ _ HTKL.out (by rfl) (HTK.out.below (by (repeat (first | with_reducible exact Below.refl _ _ | with_reducible exact below_regrown _ _ _ | with_reducible refine bel_step0 (by assumption) ?_ | with_reducible refine bel_alloc0 ?_ _ | with_reducible refine bel_regrown0 ?_ _ _ | with_reducible refine bel_regrown ?_ (by first | omega | (simp; done) | (simp; omega)) _ _ | with_reducible refine below_drewN ?_ _ | with_reducible refine Below.drew ?_ | with_reducible refine Below.alloc ?_ (by first | omega | (simp; done) | (simp; omega)) _ | with_reducible refine Below.setCell ?_ (by first | omega | (simp; done) | (simp; omega)) _ | with_reducible refine bel_step (by assumption) (by first | omega | (simp; done) | (simp; omega)) ?_ | with_reducible refine bel_grown (by assumption) (by first | omega | (simp; done) | (simp; omega)) (by first | omega | (simp; done) | (simp; omega)) ?_)))) (by simp; omega) ?_; intro v2 w2 ho2 hb2 hq2 hs2; have HQ2 := Lib.hid hq2; clear hq2)) | ((refine step_appL _ (by rfl) (.tmp 65) (.tmp 70) (by rfl) w5 _ _ [x] (by rfl) (by first | exact ho2 | exact OL.alloc ho2 _) (by (repeat (first | with_reducible exact Below.refl _ _ | with_reducible exact below_regrown _ _ _ | with_reducible refine bel_step0 (by assumption) ?_ | with_reducible refine bel_alloc0 ?_ _ | with_reducible refine bel_regrown0 ?_ _ _ | with_reducible refine bel_regrown ?_ (by first | omega | (simp; done) | (simp; omega)) _ _ | with_reducible refine below_drewN ?_ _ | with_reducible refine Below.drew ?_ | with_reducible refine Below.alloc ?_ (by first | omega | (simp; done) | (simp; omega)) _ | with_reducible refine Below.setCell ?_ (by first | omega | (simp; done) | (simp; omega)) _ | with_reducible refine bel_step (by assumption) (by first | omega | (simp; done) | (simp; omega)) ?_ | with_reducible refine bel_grown (by assumption) (by first | omega | (simp; done) | (simp; omega)) (by first | omega | (simp; done) | (simp; omega)) ?_))) _ 1 1 (by rfl) (by rfl) (by first | exact ml_lit _ _ _ | exact ml_kept1 HQ2.out | exact ml_kept0 HQ2.out) (by rw [List.nil_append, HTKL.out]; omega) ?_; intro v3 w3 ho3 hb3 hq3 hs3; clear hq3 hs3)) | ((refine step_appL _ (by rfl) (.tmp 71) (.tmp 74) (by rfl) w5 _ _ _ (by rfl) ho3 (by (repeat (first | with_reducible exact Below.refl _ _ | with_reducible exact below_regrown _ _ _ | with_reducible refine bel_step0 (by assumption) ?_ | with_reducible refine bel_alloc0 ?_ _ | with_reducible refine bel_regrown0 ?_ _ _ | with_reducible refine bel_regrown ?_ (by first | omega | (simp; done) | (simp; omega)) _ _ | with_reducible refine below_drewN ?_ _ | with_reducible refine Below.drew ?_ | with_reducible refine Below.alloc ?_ (by first | omega | (simp; done) | (simp; omega)) _ | with_reducible refine Below.setCell ?_ (by first | omega | (simp; done) | (simp; omega)) _ | with_reducible refine bel_step (by assumption) (by first | omega | (simp; done) | (simp; omega)) ?_ | with_reducible refine bel_grown (by assumption) (by first | omega | (simp; done) | (simp; omega)) (by first | omega | (simp; done) | (simp; omega)) ?_))) _ _ _ HDRL.out (by rfl) ((ML.of_nil HDR0.out)) (by rw [List.length_append, List.nil_append, HTKL.out]; simp; omega) ?_; intro v4 w4 ho4 hb4 hq4 hs4; clear hq4 hs4)))
            all_goals
              go_wp2
              go_roundw
              case rel => exact ⟨k + 1, _, by omega, by go_num, OL.mono hwz ho4, HFIN.out.1, HFIN.out.2, bel_step0 hb4 B5.out⟩
              case measure => simp [intOf]; omega
    · obtain rfl : k = m := by omega
      have hmem : ∀ j, j < l.length → (atK l j).why.size ≤ 9223372036854775807 := fun j hj => by
        have h1 : atK l j ∈ l := atK_mem hj
        generalize atK l j = z at h1 ⊢
        rw [hl, mem_mrgL eqK_iff] at h1
        simp only [seg, List.mem_map, List.mem_range, Nat.zero_add] at h1
        rcases h1 with ⟨i, hi, e⟩ | ⟨i, hi, e⟩
        · rw [← e]; exact HS.out.1 i hi
        · rw [← e]; exact HS.out.2 i hi
      have hq : l = mgM n R k S := hl
      have HQ := Lib.hid (And.intro hq (And.intro ho (And.intro hmem hB)))
      clear hl hq ho hmem hB
      go_wp2_with fail
      refine (C_l22Good _ _ _ _ HQ.out.2.1.lks HQ.out.2.2.1).mono ?_; rintro e w6 ⟨rfl, hb6⟩
      have B6 := bel_step0 hb6 HQ.out.2.2.2
      have hz6 := B6.size
      cases hz : accB l.length (atK l)
      · have E0 := Lib.hid (mgL_no3 (n := n) (R := R) (m := k) (S := S) (by rw [← HQ.out.1]; exact hz))
        go_wp2_with fail
        go_ret2
        rw [E0.out.1, E0.out.2]
        exact ⟨_, rfl, OL.emptyAt rfl hz6, by (repeat (first | with_reducible exact Below.refl _ _ | with_reducible exact below_regrown _ _ _ | with_reducible refine bel_step0 (by assumption) ?_ | with_reducible refine bel_alloc0 ?_ _ | with_reducible refine bel_regrown0 ?_ _ _ | with_reducible refine bel_regrown ?_ (by first | omega | (simp; done) | (simp; omega)) _ _ | with_reducible refine below_drewN ?_ _ | with_reducible refine Below.drew ?_ | with_reducible refine Below.alloc ?_ (by first | omega | (simp; done) | (simp; omega)) _ | with_reducible refine Below.setCell ?_ (by first | omega | (simp; done) | (simp; omega)) _ | with_reducible refine bel_step (by assumption) (by first | omega | (simp; done) | (simp; omega)) ?_ | with_reducible refine bel_grown (by assumption) (by first | omega | (simp; done) | (simp; omega)) (by first | omega | (simp; done) | (simp; omega)) ?_))⟩
      · have E0 := Lib.hid (mgL_yes HA.out.1 HA.out.2 (by rw [← HQ.out.1]; exact hz))
        go_wp2_with fail
        go_ret2
        rw [E0.out.1, E0.out.2, ← HQ.out.1]
        exact ⟨_, rfl, HQ.out.2.1.below hb6, B6⟩
end Go.Proofs.YtmhelhjjadoiaaaDoor
