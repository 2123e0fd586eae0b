/- MergeAccounts: the program. No condition but those stated. -/
import Derived.Test.YtmhelhjjadoiaaaDoorMgG
namespace Go.Proofs.YtmhelhjjadoiaaaDoor
set_option linter.unusedVariables false
set_option linter.unusedSimpArgs false
open Go.RowKit Go.Sort
instance : Inhabited Lk := ⟨zeroK⟩
theorem eqK_iff (x y : Lk) : eqK x y = true ↔ x = y := by
  constructor
  · intro h
    unfold eqK at h
    simp only [Bool.and_eq_true, beq_iff_eq] at h
    obtain ⟨h1, h2, h3, h4, h5⟩ := h
    obtain ⟨x0, x1, x2, x3, x4⟩ := x
    obtain ⟨y0, y1, y2, y3, y4⟩ := y
    simp only at h1 h2 h3 h4 h5
    rw [ByteArray.toList_eq, ByteArray.toList_eq] at h5
    obtain ⟨⟨x4⟩⟩ := x4
    obtain ⟨⟨y4⟩⟩ := y4
    simp only at h5
    subst h1 h2 h3 h4 h5
    rfl
  · rintro rfl
    unfold eqK
    simp
theorem RK.congr {w : World} {A : Option Addr} {n : Nat} {R S : Nat → Lk} (h : RK w A n R) (e : ∀ j, j < n → R j = S j) : RK w A n S := fun h0 => by
  obtain ⟨b, off, e1, hl, hc⟩ := h h0
  exact ⟨b, off, e1, hl, fun j hj => by rw [← e j hj]; exact hc j hj⟩
/-- The merged account. -/
def mgM (n : Nat) (R : Nat → Lk) (m : Nat) (S : Nat → Lk) : List Lk := mrgL Lk.tick eqK (seg R 0 n) (seg S 0 m)
def mgOk (n : Nat) (R : Nat → Lk) (m : Nat) (S : Nat → Lk) : Bool := accB n R && (accB m S && accB (mgM n R m S).length (atK (mgM n R m S)))
def mgL (n : Nat) (R : Nat → Lk) (m : Nat) (S : Nat → Lk) : List Lk := if mgOk n R m S then mgM n R m S else []
theorem accB_at {n : Nat} {R : Nat → Lk} (h : accB n R = true) : n ≤ 15 ∧ ∀ j, j < n → acc1 R j = true := by
  unfold accB at h
  simp only [Bool.and_eq_true, decide_eq_true_eq] at h
  exact ⟨by omega, fun j hj => allB_iff.1 h.1 j hj⟩
theorem accB_rise {n : Nat} {R : Nat → Lk} (h : accB n R = true) : ∀ i j, i < j → j < n → (R i).tick < (R j).tick := by
  have h1 := (accB_at h).2
  have step : ∀ j, j + 1 < n → (R j).tick < (R (j + 1)).tick := fun j hj => by
    have := h1 (j + 1) hj
    unfold acc1 at this
    simp only [Bool.and_eq_true, Bool.or_eq_true, decide_eq_true_eq, Nat.add_sub_cancel] at this
    rcases this.2 with e | e
    · omega
    · exact e
  intro i j hij
  induction j with
  | zero => omega
  | succ j ih =>
    intro hj
    have s := step j hj
    by_cases e : i = j
    · subst e; exact s
    · have := ih (by omega) (by omega)
      omega
theorem accB_congr {n : Nat} {R S : Nat → Lk} (e : ∀ j, j < n → R j = S j) : accB n R = accB n S := by
  unfold accB
  congr 1
  exact allB_congr fun j hj => by
    unfold acc1
    rw [e j hj]
    by_cases h0 : j = 0
    · subst h0; rfl
    · rw [e (j - 1) (by omega)]
theorem str_seg {n : Nat} {R : Nat → Lk} (h : accB n R = true) : Str Lk.tick (seg R 0 n) := by
  unfold Str seg
  rw [List.pairwise_map]
  refine List.Pairwise.imp_of_mem ?_ (List.pairwise_lt_range (n := n))
  intro a b ha hb hab
  simp only [Nat.zero_add]
  exact accB_rise h a b hab (List.mem_range.1 hb)
theorem str_atK {l : List Lk} (h : accB l.length (atK l) = true) : Str Lk.tick l := by
  have := str_seg h
  rw [seg_atK] at this
  exact this
theorem merged_same {n : Nat} {R : Nat → Lk} {m : Nat} {S G : Nat → Lk} {k : Nat} (hR : accB n R = true) (hs : SrtF Lk.tick G 0 k) (hp : (seg G 0 k).Perm (seg R 0 n ++ seg S 0 m)) :
    ddU eqK G k = mgM n R m S ∨ (accB (ddU eqK G k).length (atK (ddU eqK G k)) = false ∧ accB (mgM n R m S).length (atK (mgM n R m S)) = false) := by
  have hm : ∀ y, (∃ j, j < k ∧ G j = y) ↔ y ∈ seg R 0 n ∨ y ∈ seg S 0 m := fun y => by
    rw [← List.mem_append, ← hp.mem_iff]
    simp [seg]
  rcases mrg_same (key := Lk.tick) (eqb := eqK) eqK_iff (str_seg hR) hs hm with h | ⟨h1, h2⟩
  · exact .inl h
  · refine .inr ⟨?_, ?_⟩
    · cases e : accB (ddU eqK G k).length (atK (ddU eqK G k))
      · rfl
      · exact absurd (str_atK e) h1
    · cases e : accB (mgM n R m S).length (atK (mgM n R m S))
      · rfl
      · exact absurd (str_atK e) h2
theorem C_CompactK (base : Nat) (v : Value) (n : Nat) (G : Nat → Lk) (w : World) (h : OL base w v (seg G 0 n)) (hn : n ≤ 1048576) :
    Calls Tryd.prog 78 #[v] w fun e w' => ∃ v', e = .returned v' ∧ OL base w' v' (ddU eqK G n) ∧ w.grownBy w' v.ownBlock := by
  by_cases h2 : 2 ≤ n
  · have hl : (seg G 0 n).length = n := seg_len G 0 n
    rcases h.2 with ⟨rfl, h0⟩ | ⟨g, cap, cur, e, _⟩
    · omega
    · rw [hl] at e
      subst e
      have hk : KF base w g n cap G := (OL.kf hl h).congr fun i hi => atK_seg hi
      exact C_Compact2 base g n cap G w hk hn h2
  · have hd : ddU eqK G n = seg G 0 n := ddU_all fun j h1 h3 => absurd h3 (by omega)
    obtain ⟨A, cap, rfl⟩ := h.form
    rw [seg_len] at h ⊢
    have HO := Lib.hid h
    have h3 : (n : Int) < 2 := by omega
    rw [hd]
    clear hd h
    go_enter Tryd.func78, Tryd.ntmps78
    go_wp2
    go_ret
    exact ⟨_, rfl, HO.out, World.grownBy.refl _ _⟩
theorem mgL_no1 {n : Nat} {R : Nat → Lk} {m : Nat} {S : Nat → Lk} (h : accB n R = false) : mgOk n R m S = false ∧ mgL n R m S = [] := by
  have : mgOk n R m S = false := by unfold mgOk; rw [h]; rfl
  exact ⟨this, by unfold mgL; rw [this]; rfl⟩
theorem mgL_no2 {n : Nat} {R : Nat → Lk} {m : Nat} {S : Nat → Lk} (h : accB m S = false) : mgOk n R m S = false ∧ mgL n R m S = [] := by
  have : mgOk n R m S = false := by unfold mgOk; rw [h]; simp
  exact ⟨this, by unfold mgL; rw [this]; rfl⟩
theorem mgL_no3 {n : Nat} {R : Nat → Lk} {m : Nat} {S : Nat → Lk} (h : accB (mgM n R m S).length (atK (mgM n R m S)) = false) : mgOk n R m S = false ∧ mgL n R m S = [] := by
  have : mgOk n R m S = false := by unfold mgOk; rw [h]; simp
  exact ⟨this, by unfold mgL; rw [this]; rfl⟩
theorem mgL_yes {n : Nat} {R : Nat → Lk} {m : Nat} {S : Nat → Lk} (h1 : accB n R = true) (h2 : accB m S = true) (h : accB (mgM n R m S).length (atK (mgM n R m S)) = true) : mgOk n R m S = true ∧ mgL n R m S = mgM n R m S := by
  have : mgOk n R m S = true := by unfold mgOk; rw [h1, h2, h]; rfl
  exact ⟨this, by unfold mgL; rw [this]; rfl⟩
set_option maxRecDepth 100000 in
set_option maxHeartbeats 8000000 in
theorem C_MergeI (v u : Value) (n m : Nat) (R S : Nat → Lk) (w : World) (h : LKs w v n R) (k : LKs w u m S) (hs : ∀ j, j < n → (R j).why.size ≤ 9223372036854775807) (ks : ∀ j, j < m → (S j).why.size ≤ 9223372036854775807) :
    Calls Tryd.prog 47 #[v, u] w fun e w' => ∃ v', e = .returned (.tuple #[v', .bool (mgOk n R m S)]) ∧ OL w.heap.size w' v' (mgL n R m S) ∧ Below w.heap.size w w' := by
  have HH := Lib.hid (And.intro h k)
  have HS := Lib.hid (And.intro hs ks)
  obtain ⟨A, ca, rfl, hA, hca, hma⟩ := h
  obtain ⟨B, cb, rfl, hB, hcb, hmb⟩ := k
  have HR := Lib.hid (And.intro hA hB)
  clear hA hB hs ks
  cases hd : accB n R
  · have e0 := mgL_no1 (m := m) (S := S) hd
    rw [e0.1, e0.2]; clear e0
    go_enter Tryd.func47, Tryd.ntmps47
    go_wp2_with fail
    refine (C_IsAccount _ _ _ _ HH.out.1 HS.out.1).mono ?_; rintro e w1 ⟨rfl, hb1⟩; rw [hd]
    go_wp2_with fail
    go_ret2
    exact ⟨_, rfl, OL.nil _ _, hb1⟩
  cases hd2 : accB m S
  · have e0 := mgL_no2 (n := n) (R := R) hd2
    rw [e0.1, e0.2]; clear e0
    go_enter Tryd.func47, Tryd.ntmps47
    go_wp2_with fail
    refine (C_IsAccount _ _ _ _ HH.out.1 HS.out.1).mono ?_; rintro e w1 ⟨rfl, hb1⟩; rw [hd]
    go_wp2_with fail
    refine (C_IsAccount _ _ _ _ (HH.out.2.below hb1) HS.out.2).mono ?_; rintro e w2 ⟨rfl, hb2⟩; rw [hd2]
    go_wp2_with fail
    go_ret2
    exact ⟨_, rfl, OL.nil _ _, bel_step0 hb2 hb1⟩
  have hn := (accB_at hd).1
  have hm := (accB_at hd2).1
  obtain ⟨la, hla⟩ : ∃ la, seg R 0 n = la := ⟨_, rfl⟩
  obtain ⟨lb, hlb⟩ : ∃ lb, seg S 0 m = lb := ⟨_, rfl⟩
  have hna : la.length = n := by rw [← hla, seg_len]
  have hmb2 : lb.length = m := by rw [← hlb, seg_len]
  have HL := Lib.hid (And.intro hla hlb)
  have HR2 : Hid (RK w A la.length (atK la) ∧ RK w B lb.length (atK lb)) := Lib.hid ⟨by rw [hna, ← hla]; exact HR.out.1.congr fun j hj => (atK_seg hj).symm, by rw [hmb2, ← hlb]; exact HR.out.2.congr fun j hj => (atK_seg hj).symm⟩
  clear hla hlb
  go_enter Tryd.func47, Tryd.ntmps47
  go_wp2_with fail
  refine (C_IsAccount _ _ _ _ HH.out.1 HS.out.1).mono ?_; rintro e w1 ⟨rfl, B1⟩; rw [hd]
  go_wp2_with fail
  refine (C_IsAccount _ _ _ _ (HH.out.2.below B1) HS.out.2).mono ?_; rintro e w2 ⟨rfl, hb2⟩; rw [hd2]
  replace B1 := bel_step0 hb2 B1
  clear hb2
  go_wp2_with fail
  have hbs : w.heap.size ≤ w2.heap.size := B1.size
  have B2 : Below w.heap.size w (w2.alloc (.cells #[.slice A n ca, .slice B m cb] 32)) := by (repeat (first | with_reducible exact Below.refl _ _ | with_reducible exact below_regrown _ _ _ | with_reducible refine bel_step0 (by assumption) ?_ | with_reducible refine bel_alloc0 ?_ _ | with_reducible refine bel_regrown0 ?_ _ _ | with_reducible refine bel_regrown ?_ (by first | omega | (simp; done) | (simp; omega)) _ _ | with_reducible refine below_drewN ?_ _ | with_reducible refine Below.drew ?_ | with_reducible refine Below.alloc ?_ (by first | omega | (simp; done) | (simp; omega)) _ | with_reducible refine Below.setCell ?_ (by first | omega | (simp; done) | (simp; omega)) _ | with_reducible refine bel_step (by assumption) (by first | omega | (simp; done) | (simp; omega)) ?_ | with_reducible refine bel_grown (by assumption) (by first | omega | (simp; done) | (simp; omega)) (by first | omega | (simp; done) | (simp; omega)) ?_))
  refine (C_ConcatK w.heap.size w2.heap.size A B ca cb n m la lb _ (by simp; omega) hna hmb2 (by omega) (by omega) (HR2.out.1.below B2) (HR2.out.2.below B2) (cell_new _ _ _ _ _ rfl) (cell_new _ _ _ _ _ rfl) 2).mono ?_; rintro e w3 ⟨v3, rfl, ho3, hb3⟩
  have B3 := bel_step0 hb3 B2
  have hlen : (la ++ lb).length = n + m := by rw [List.length_append, hna, hmb2]
  clear B1 B2 hb3
  go_wp2_with fail
  refine (C_SortStableK w.heap.size v3 (la ++ lb) _ ho3 (by omega)).mono ?_; rintro e w4 ⟨rfl, G, ho4, hs4, hp4, hg4⟩
  have B4 := B3.trans ((Below.refl _ w3).grown hg4 B3.size (fun k hk => (OL.lt ho3 k hk).1))
  rw [hlen] at ho4 hs4 hp4
  clear ho3 hg4 B3
  go_wp2_with fail
  refine (C_CompactK w.heap.size v3 (n + m) G _ ho4 (by omega)).mono ?_; rintro e w5 ⟨v5, rfl, ho5, hg5⟩
  have B5 := B4.trans ((Below.refl _ w4).grown hg5 B4.size (fun k hk => (OL.lt ho4 k hk).1))
  have hms := merged_same (R := R) (m := m) (S := S) hd hs4 (by rw [HL.out.1, HL.out.2]; exact hp4)
  have hmem : ∀ j, j < (ddU eqK G (n + m)).length → (atK (ddU eqK G (n + m)) j).why.size ≤ 9223372036854775807 := fun j hj => by
    have h1 := (mem_ddU (eqb := eqK) eqK_iff (n + m)).1 (atK_mem hj)
    obtain ⟨q, hq, he⟩ := h1
    have h2 : G q ∈ seg G 0 (n + m) := by simp only [seg, List.mem_map, List.mem_range]; exact ⟨q, hq, by rw [Nat.zero_add]⟩
    rw [hp4.mem_iff, ← HL.out.1, ← HL.out.2, List.mem_append] at h2
    rw [← he]
    simp only [seg, List.mem_map, List.mem_range, Nat.zero_add] at h2
    rcases h2 with ⟨i, hi, e⟩ | ⟨i, hi, e⟩
    · rw [← e]; exact HS.out.1 i hi
    · rw [← e]; exact HS.out.2 i hi
  obtain ⟨D, hD⟩ : ∃ D, ddU eqK G (n + m) = D := ⟨_, rfl⟩
  rw [hD] at hms hmem ho5
  have H5 := Lib.hid (And.intro ho5 (And.intro hms (And.intro hmem B5)))
  have HA := Lib.hid (And.intro hd hd2)
  clear ho4 hs4 hp4 hg5 B4 hms hmem ho5 hD hd hd2
  go_wp2_with fail
  refine (C_IsAccount _ _ _ _ H5.out.1.lks H5.out.2.2.1).mono ?_; rintro e w6 ⟨rfl, hb6⟩
  have B6 := bel_step0 hb6 H5.out.2.2.2
  cases hz : accB D.length (atK D)
  · have hq : accB (mgM n R m S).length (atK (mgM n R m S)) = false := by
      rcases H5.out.2.1 with e | ⟨_, e⟩
      · rw [← e]; exact hz
      · exact e
    have e0 := mgL_no3 hq
    have E0 := Lib.hid e0; clear e0 hq
    go_wp2_with fail
    go_ret2
    rw [E0.out.1, E0.out.2]
    exact ⟨_, rfl, OL.nil _ _, B6⟩
  · have hq : D = mgM n R m S := by
      rcases H5.out.2.1 with e | ⟨e, _⟩
      · exact e
      · rw [hz] at e; cases e
    have e0 := mgL_yes HA.out.1 HA.out.2 (by rw [← hq]; exact hz)
    have E0 := Lib.hid (And.intro e0 hq); clear e0 hq
    go_wp2_with fail
    go_ret2
    rw [E0.out.1.1, E0.out.1.2, ← E0.out.2]
    exact ⟨_, rfl, H5.out.1.below hb6, B6⟩
end Go.Proofs.YtmhelhjjadoiaaaDoor
