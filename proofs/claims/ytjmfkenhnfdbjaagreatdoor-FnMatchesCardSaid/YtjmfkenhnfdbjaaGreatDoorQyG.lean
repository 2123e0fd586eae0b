/- The parser's test. No condition but those stated. -/
import Derived.Test.YtjmfkenhnfdbjaaGreatDoorQyF
import Derived.Deep.CutBlock
import Derived.Deep.DeepCutAuto
namespace Go.Proofs.YtjmfkenhnfdbjaaGreatDoor
set_option linter.unusedVariables false
set_option linter.unusedSimpArgs false
open Go.RowKit Go.Sort
def dB (s : ByteArray) (i : Nat) : Bool := decide (i < s.size) && (decide (48 ≤ bN s i) && decide (bN s i ≤ 57))
/-- Where digits end. -/
def digE (s : ByteArray) : Nat → Nat → Nat
  | 0, a => a
  | k + 1, a => if dB s a then digE s k (a + 1) else a
theorem digE_of {s : ByteArray} : ∀ (k a j : Nat), a ≤ j → j - a ≤ k → (∀ i, a ≤ i → i < j → dB s i = true) → dB s j = false → digE s k a = j := by
  intro k
  induction k with
  | zero => intro a j h1 h2 _ _; simp only [digE]; omega
  | succ k ih =>
    intro a j h1 h2 h3 h4
    simp only [digE]
    by_cases e : a < j
    · rw [if_pos (h3 a (Nat.le_refl _) e)]
      exact ih (a + 1) j (by omega) (by omega) (fun i hi => h3 i (by omega)) h4
    · obtain rfl : a = j := by omega
      rw [h4]; rfl
/-- The number at a place, and where it ends. -/
def numA (s : ByteArray) (a : Nat) : Option (Int × Nat) := match numO (s.extract a (digE s s.size a)) with
  | none => none
  | some u => some ((u : Int), digE s s.size a)
theorem dB_iff {s : ByteArray} {i : Nat} : dB s i = true ↔ i < s.size ∧ 48 ≤ bN s i ∧ bN s i ≤ 57 := by
  unfold dB
  rw [Bool.and_eq_true, Bool.and_eq_true, decide_eq_true_eq, decide_eq_true_eq, decide_eq_true_eq]
theorem extract_list (s : ByteArray) (a j : Nat) : (s.extract a j).data.toList = (s.data.toList.drop a).take (j - a) := by
  rw [ByteArray.data_extract, Array.toList_extract, List.extract_eq_take_drop]
theorem dig_extract {s : ByteArray} {a j : Nat} (hj : j ≤ s.size) (h : ∀ i, a ≤ i → i < j → dB s i = true) : DigT (s.extract a j) := by
  intro c hc
  rw [extract_list] at hc
  obtain ⟨q, hq, e⟩ := List.mem_iff_getElem.1 hc
  rw [List.getElem_take, List.getElem_drop] at e
  rw [List.length_take, List.length_drop] at hq
  have h1 := (dB_iff.1 (h (a + q) (by omega) (by omega)))
  obtain ⟨h2, h3, h4⟩ := h1
  rw [bN_at h2] at h3 h4
  rw [← e]
  exact ⟨h3, h4⟩
theorem C_isId (n : Int) (w : World) : Calls Tryz.prog 44 #[.int .i64 n] w fun e w' => e = .returned (.bool (within n 1 99)) ∧ w = w' := by
  go_enter Tryz.func44, Tryz.ntmps44
  go_wp2_with fail
  refine (C_within _ _ _ _).mono ?_; rintro e w' ⟨rfl, rfl⟩
  go_wp2
  go_ret
  exact ⟨rfl, rfl⟩
theorem C_isRecordId (n : Int) (w : World) : Calls Tryz.prog 119 #[.int .i64 n] w fun e w' => e = .returned (.bool (within n 1 999)) ∧ w = w' := by
  go_enter Tryz.func119, Tryz.ntmps119
  go_wp2_with fail
  refine (C_within _ _ _ _).mono ?_; rintro e w' ⟨rfl, rfl⟩
  go_wp2
  go_ret
  exact ⟨rfl, rfl⟩
def cQ (c n : Int) (ps : Value) (i : Nat) : Value := if i = 0 then .int .u8 c else if i = 1 then .int .i64 n else ps
/-- A query in block r. -/
def RQ (w : World) (r : Nat) (c n : Int) (ps : Value) : Prop := w.rowIs r 61 3 (cQ c n ps)
theorem RQ.set {w : World} {r : Nat} {c n : Int} {ps : Value} (h : RQ w r c n ps) (c' n' : Int) (ps' : Value) : RQ (((w.setCell ⟨r, 0, none⟩ (.int .u8 c')).setCell ⟨r, 1, none⟩ (.int .i64 n')).setCell ⟨r, 2, none⟩ ps') r c' n' ps' :=
  World.rowIs.congr (World.rowIs.set (World.rowIs.set (World.rowIs.set h 0 _) 1 _) 2 _) fun i hi => by
    match i, hi with
    | 0, _ => rfl
    | 1, _ => rfl
    | 2, _ => rfl
theorem RQ.cells {w : World} {r : Nat} {c n : Int} {ps : Value} (h : RQ w r c n ps) : w.cell? ⟨r, 0, none⟩ = some (.int .u8 c) ∧ w.cell? ⟨r, 1, none⟩ = some (.int .i64 n) ∧ w.cell? ⟨r, 2, none⟩ = some ps ∧ (∀ i, w.frozen? ⟨r, i, none⟩ = false) :=
  ⟨World.rowIs.cell h (i := 0) (by omega), World.rowIs.cell h (i := 1) (by omega), World.rowIs.cell h (i := 2) (by omega), fun i => World.rowIs.frozen h i⟩
theorem RQ.lt {w : World} {r : Nat} {c n : Int} {ps : Value} (h : RQ w r c n ps) : r < w.heap.size := World.rowIs.lt h
theorem RQ.below {w w' : World} {r : Nat} {c n : Int} {ps : Value} (hb : Below w.heap.size w w') (h : RQ w r c n ps) : RQ w' r c n ps := World.rowIs.of_block h (hb.block r h.lt)
theorem RQ.new (w : World) : RQ (w.alloc (.cells #[.int .u8 0, .int .i64 0, .slice none 0 0] 61)) w.heap.size 0 0 (.slice none 0 0) :=
  World.rowIs_alloc w _ 61 _ (fun i hi => by
    match i, hi with
    | 0, _ => rfl
    | 1, _ => rfl
    | 2, _ => rfl
    | n + 3, h => exact absurd h (by simp))
theorem RQ.chg {w w' : World} {r lo hi : Nat} {c n : Int} {ps : Value} (h : RQ w r c n ps) (hc : Chg lo hi w w') (hr : r < lo ∨ hi ≤ r) : RQ w' r c n ps := World.rowIs.of_block h (hc.block r h.lt hr)
def atP (P : Nat) (w : World) : Nat := match w.cell? ⟨P, 1, none⟩ with
  | some (.int _ n) => n.toNat
  | _ => 0
theorem PS.at_ {w : World} {P : Nat} {s : ByteArray} {a : Nat} {bad : Bool} {op mo : Int} (h : PS w P s a bad op mo) : atP P w = a := by unfold atP; rw [h.c1]; simp
/-- What the test's walk keeps. -/
structure TW (P r : Nat) (s : ByteArray) (a : Nat) (bad : Bool) (op mo : Int) (w W : World) : Prop where
  ps : PS W P s a bad op mo
  rq : RQ W r 0 0 (.slice none 0 0)
  ch : Chg P (P + 1) w W
  hr : w.heap.size ≤ r
  hp : P < w.heap.size
theorem TW.below {P r : Nat} {s : ByteArray} {a : Nat} {bad : Bool} {op mo : Int} {w W W' : World} (hb : Below W.heap.size W W') (h : TW P r s a bad op mo w W) : TW P r s a bad op mo w W' :=
  ⟨h.ps.below hb, h.rq.below hb, h.ch.trans (Chg.of_below hb), h.hr, h.hp⟩
theorem TW.set1 {P r : Nat} {s : ByteArray} {a : Nat} {bad : Bool} {op mo : Int} {w W : World} (h : TW P r s a bad op mo w W) (b : Nat) : TW P r s b bad op mo w (W.setCell ⟨P, 1, none⟩ (.int .i64 b)) :=
  ⟨h.ps.set1 b, World.rowIs.setOther h.rq (a := ⟨P, 1, none⟩) (by simp; have := h.hr; have := h.hp; omega) _, h.ch.setCell (p := ⟨P, 1, none⟩) (Nat.le_refl _) (Nat.lt_succ_self _) _, h.hr, h.hp⟩
theorem TW.set2 {P r : Nat} {s : ByteArray} {a : Nat} {bad : Bool} {op mo : Int} {w W : World} (h : TW P r s a bad op mo w W) (b : Bool) : TW P r s a b op mo w (W.setCell ⟨P, 2, none⟩ (.bool b)) :=
  ⟨h.ps.set2 b, World.rowIs.setOther h.rq (a := ⟨P, 2, none⟩) (by simp; have := h.hr; have := h.hp; omega) _, h.ch.setCell (p := ⟨P, 2, none⟩) (Nat.le_refl _) (Nat.lt_succ_self _) _, h.hr, h.hp⟩
theorem TW.fin {P r : Nat} {s : ByteArray} {a : Nat} {bad : Bool} {op mo : Int} {w W : World} (h : TW P r s a bad op mo w W) (c n : Int) (ps : Value) :
    PS (((W.setCell ⟨r, 0, none⟩ (.int .u8 c)).setCell ⟨r, 1, none⟩ (.int .i64 n)).setCell ⟨r, 2, none⟩ ps) P s a bad op mo ∧ Chg P (P + 1) w (((W.setCell ⟨r, 0, none⟩ (.int .u8 c)).setCell ⟨r, 1, none⟩ (.int .i64 n)).setCell ⟨r, 2, none⟩ ps) := by
  have h1 := h.hr
  have h2 := h.hp
  exact ⟨World.rowIs.setOther (World.rowIs.setOther (World.rowIs.setOther h.ps (a := ⟨r, 0, none⟩) (by simp; omega) _) (a := ⟨r, 1, none⟩) (by simp; omega) _) (a := ⟨r, 2, none⟩) (by simp; omega) _,
    ((h.ch.setFresh (p := ⟨r, 0, none⟩) h1 _).setFresh (p := ⟨r, 1, none⟩) h1 _).setFresh (p := ⟨r, 2, none⟩) h1 _⟩
/-- What the test finds, in one line. -/
theorem tst_eq {s : ByteArray} {a j : Nat} (ha : a < s.size) (hj1 : a + 1 ≤ j) (hj2 : j ≤ s.size) (hd : ∀ i, a + 1 ≤ i → i < j → dB s i = true) (hn : dB s j = false) :
    tstQ s.size (bN s) (numA s) a = if (numO (s.extract (a + 1) j)).isSome && okT (bN s a) (numV (s.extract (a + 1) j)) then some ⟨.test (bN s a) (numV (s.extract (a + 1) j)), 0, j⟩ else none := by
  have he : digE s s.size (a + 1) = j := digE_of s.size (a + 1) j hj1 (by omega) hd hn
  unfold tstQ numA numV
  rw [if_pos ha, he]
  cases numO (s.extract (a + 1) j) with
  | none => rfl
  | some u => simp
set_option maxRecDepth 100000 in
set_option maxHeartbeats 8000000 in
theorem C_test (P : Nat) (s : ByteArray) (a : Nat) (op mo : Int) (w : World) (h : PS w P s a false op mo) (hs : s.size ≤ 1048576) (ha : a ≤ s.size) (hk : PkB P w) :
    Calls Tryz.prog 110 #[.pointer (some ⟨P, 0, none⟩)] w fun e w' => Chg P (P + 1) w w' ∧
      ((∃ c n a', tstQ s.size (bN s) (numA s) a = some ⟨.test c n, 0, a'⟩ ∧ e = .returned (.agg #[.int .u8 (c : Int), .int .i64 n, .slice none 0 0]) ∧ PS w' P s a' false op mo) ∨
       (∃ c n a', tstQ s.size (bN s) (numA s) a = none ∧ (a ≤ a' ∧ a' ≤ s.size) ∧ e = .returned (.agg #[.int .u8 c, .int .i64 n, .slice none 0 0]) ∧ PS w' P s a' true op mo)) := by
  obtain ⟨r, hr⟩ : ∃ r, r = w.heap.size := ⟨_, rfl⟩
  obtain ⟨w0, hw0⟩ : ∃ w0, w0 = w.alloc (.cells #[.int .u8 0, .int .i64 0, .slice none 0 0] 61) := ⟨_, rfl⟩
  have T0 : TW P r s a false op mo w w0 := by
    rw [hw0, hr]
    exact ⟨h.below ((Below.refl _ _).alloc (Nat.le_refl _) _), RQ.new w, Chg.of_below ((Below.refl _ _).alloc (Nat.le_refl _) _), Nat.le_refl _, h.lt⟩
  have HK := Lib.hid hk
  have HW := Lib.hid hw0.symm
  have HR := Lib.hid hr.symm
  clear hw0 hr h hk
  have T0 := Lib.hid T0
  have c0 := T0.out.ps.c0
  have c1 := T0.out.ps.c1
  have g0 := cell_regrown c0
  have g1 := cell_regrown c1
  have b0 : (0 : Int) ≤ (a : Int) := by omega
  clear c0 c1
  by_cases hlt : a < s.size
  · have hae : ((a : Int) == (s.size : Int)) = false := by rw [beq_eq_false_iff_ne]; omega
    have hlt2 : (a : Int) < (s.size : Int) := by omega
    go_enter Tryz.func110, Tryz.ntmps110
    go_upto_region 1 with fail
    rw [HW.out, HR.out]
    clear HW HR
    go_wp2
    (refine wp_region_quiet_below (by kernel_rfl) (by kernel_rfl) ?_; (repeat (go_big_quiet_step (fail))); refine wpQuiet_nil ?_; intro _ hw'; obtain ⟨⟨dq, osq⟩, hw''⟩ := hw'; subst hw'')
    clear g0 g1
    obtain ⟨w1, hw1⟩ : ∃ ww, ww = grow (redrawn w0 dq) osq := ⟨_, rfl⟩
    have T1 := Lib.hid (T0.out.below (show Below (w0).heap.size w0 w1 by rw [hw1]; exact below_regrown _ _ _))
    rw [← hw1]
    clear hw1
    have c0 := T1.out.ps.c0
    have c1 := T1.out.ps.c1
    have g0 := cell_regrown c0
    have g1 := cell_regrown c1
    clear c0 c1 T0
    go_wp2
    (refine wp_region_quiet_below (by kernel_rfl) (by kernel_rfl) ?_; (repeat (go_big_quiet_step (fail))); refine wpQuiet_nil ?_; intro _ hw'; obtain ⟨⟨dq, osq⟩, hw''⟩ := hw'; subst hw'')
    clear g0 g1
    obtain ⟨w2, hw1⟩ : ∃ ww, ww = grow (redrawn w1 dq) osq := ⟨_, rfl⟩
    have T2 := Lib.hid (T1.out.below (show Below (w1).heap.size w1 w2 by rw [hw1]; exact below_regrown _ _ _))
    rw [← hw1]
    clear hw1
    have c1 := T2.out.ps.c1
    have f1 := T2.out.ps.fz 1
    have T3 := Lib.hid (T2.out.set1 (a + 1))
    clear T1 hae
    go_upto_block 0 with fail
    go_cut [] (fun wx => ∃ j, a + 1 ≤ j ∧ j ≤ s.size ∧ (∀ i, a + 1 ≤ i → i < j → dB s i = true) ∧ dB s j = false ∧ TW P r s j false op mo w wx)
    case first =>
      go_wp2
      go_loopw [] (fun wr => ∃ j, a + 1 ≤ j ∧ j ≤ s.size ∧ (∀ i, a + 1 ≤ i → i < j → dB s i = true) ∧ TW P r s j false op mo w wr) (fun wr => s.size - atP P wr)
      case atStart => exact ⟨a + 1, Nat.le_refl _, by omega, fun i h1 h2 => absurd h2 (by omega), T3.out⟩
      case round =>
        clear T2 T3 c1 f1
        obtain ⟨j, hj1, hj2, hd, hT⟩ := hrel
        have c0 := hT.ps.c0
        have c1 := hT.ps.c1
        have g0 := cell_regrown c0
        have g1 := cell_regrown c1
        have hat := hT.ps.at_
        have HT := Lib.hid hT
        have HD := Lib.hid hd
        have HAT := Lib.hid hat
        have b1 : (0 : Int) ≤ (j : Int) := by omega
        clear c0 c1 hT hd hat
        cases hdb : dB s j
        · have HDB := Lib.hid hdb
          have hways : (j = s.size) ∨ (∃ h : j < s.size, decide ((48 : Int) ≤ (s[j].toNat : Int)) = false) ∨ (∃ h : j < s.size, (48 : Int) ≤ (s[j].toNat : Int) ∧ decide ((s[j].toNat : Int) ≤ 57) = false) := by
            by_cases e : j < s.size
            · have hb := bN_at e
              by_cases e1 : 48 ≤ s[j].toNat
              · by_cases e2 : s[j].toNat ≤ 57
                · rw [dB_iff.2 ⟨e, by omega, by omega⟩] at hdb; cases hdb
                · exact .inr (.inr ⟨e, by omega, decide_eq_false (by omega)⟩)
              · exact .inr (.inl ⟨e, decide_eq_false (by omega)⟩)
            · exact .inl (by omega)
          clear hdb
          rcases hways with rfl | ⟨e, e1⟩ | ⟨e, e1, e2⟩
          · go_wp2
            (refine wp_region_quiet_below (by kernel_rfl) (by kernel_rfl) ?_; (repeat (go_big_quiet_step (fail))); refine wpQuiet_nil ?_; intro _ hw'; obtain ⟨⟨dq, osq⟩, hw''⟩ := hw'; subst hw'')
            go_wp2
            go_meet
            exact ⟨_, hj1, hj2, HD.out, HDB.out, HT.out.below (below_regrown _ _ _)⟩
          · have e3 : (j : Int) < (s.size : Int) := by omega
            go_wp2
            (refine wp_region_quiet_below (by kernel_rfl) (by kernel_rfl) ?_; (repeat (go_big_quiet_step (fail))); refine wpQuiet_nil ?_; intro _ hw'; obtain ⟨⟨dq, osq⟩, hw''⟩ := hw'; subst hw'')
            go_wp2
            go_meet
            exact ⟨_, hj1, hj2, HD.out, HDB.out, HT.out.below (below_regrown _ _ _)⟩
          · have e3 : (j : Int) < (s.size : Int) := by omega
            go_wp2
            (refine wp_region_quiet_below (by kernel_rfl) (by kernel_rfl) ?_; (repeat (go_big_quiet_step (fail))); refine wpQuiet_nil ?_; intro _ hw'; obtain ⟨⟨dq, osq⟩, hw''⟩ := hw'; subst hw'')
            go_wp2
            go_meet
            exact ⟨_, hj1, hj2, HD.out, HDB.out, HT.out.below (below_regrown _ _ _)⟩
        · obtain ⟨e, e1, e2⟩ := dB_iff.1 hdb
          have HDB := Lib.hid hdb
          rw [bN_at e] at e1 e2
          have e3 : (j : Int) < (s.size : Int) := by omega
          have e4 : (48 : Int) ≤ (s[j].toNat : Int) := by omega
          have e5 : (s[j].toNat : Int) ≤ 57 := by omega
          clear hdb
          go_wp2
          (refine wp_region_quiet_below (by kernel_rfl) (by kernel_rfl) ?_; (repeat (go_big_quiet_step (fail))); refine wpQuiet_nil ?_; intro _ hw'; obtain ⟨⟨dq, osq⟩, hw''⟩ := hw'; subst hw'')
          clear g0 g1
          obtain ⟨w5, hw1⟩ : ∃ ww, ww = grow (redrawn wr dq) osq := ⟨_, rfl⟩
          have T5 := Lib.hid (HT.out.below (show Below (wr).heap.size wr w5 by rw [hw1]; exact below_regrown _ _ _))
          rw [← hw1]
          clear hw1
          have c1 := T5.out.ps.c1
          have f1 := T5.out.ps.fz 1
          have T6 := Lib.hid (T5.out.set1 (j + 1))
          go_wp2
          go_roundw
          case rel => exact ⟨j + 1, by omega, by omega, fun i h1 h2 => by
            by_cases e : i = j
            · subst e; exact HDB.out
            · exact HD.out i h1 (by omega), T6.out⟩
          case measure => have h6 : atP P (w5.setCell ⟨P, 1, none⟩ (.int .i64 ((j : Int) + 1))) = j + 1 := T6.out.ps.at_; rw [h6, HAT.out]; omega
    case rest =>
      rename World => wx
      obtain ⟨j, hj1, hj2, hd, hdn, hT⟩ := hcut
      have HE := Lib.hid (tst_eq hlt hj1 hj2 hd hdn)
      have hdt := dig_extract hj2 hd
      have hsz : (s.extract (a + 1) j).size ≤ 1048576 := by rw [ByteArray.size_extract]; omega
      obtain ⟨t, ht⟩ : ∃ t, s.extract (a + 1) j = t := ⟨_, rfl⟩
      rw [ht] at hdt hsz HE
      have hpk := (HK.out.chg hT.ch).pk
      have hPI : ∀ d os, Calls Tryz.prog 118 #[.string t] (grow (redrawn wx d) os) fun e w'' => e = .returned (.tuple #[.int .i64 (numV t), .bool (numO t).isSome]) ∧ ∃ p : Regrown, w'' = grow (redrawn wx p.d) p.os :=
        fun d os => Calls.regrown_of (C_ParseInt t hdt hsz _ (hpk.below (below_regrown _ _ _)))
      obtain ⟨okN, hokN⟩ : ∃ b, (numO t).isSome = b := ⟨_, rfl⟩
      obtain ⟨nv, hnv⟩ : ∃ b, numV t = b := ⟨_, rfl⟩
      rw [hokN, hnv] at hPI HE
      obtain ⟨c, hc⟩ : ∃ c, bN s a = c := ⟨_, rfl⟩
      have hca : s[a].toNat = c := by rw [← bN_at hlt]; exact hc
      rw [hc] at HE
      have c0 := hT.ps.c0
      have c1 := hT.ps.c1
      have g0 := cell_regrown c0
      have g1 := cell_regrown c1
      have HT := Lib.hid hT
      have b1 : (0 : Int) ≤ (a : Int) + 1 := by omega
      have b2 : (a : Int) + 1 ≤ (j : Int) := by omega
      have b3 : (j : Int) ≤ (s.size : Int) := by omega
      have b4 : ((a : Int) + 1).toNat = a + 1 := by omega
      have HP := Lib.hid (hPI)
      clear hd hdn hT hdt hokN hnv hpk c0 c1 hc
      go_wp2
      (refine wp_region_quiet_below (by kernel_rfl) (by kernel_rfl) ?_; (repeat (go_big_quiet_step (exact hPI _ _))); refine wpQuiet_nil ?_; intro _ hw'; obtain ⟨⟨dq, osq⟩, hw''⟩ := hw'; subst hw'')
      clear g0 g1 hPI HP
      obtain ⟨w1, hw1⟩ : ∃ ww, ww = grow (redrawn wx dq) osq := ⟨_, rfl⟩
      have T1 := Lib.hid (HT.out.below (show Below wx.heap.size wx w1 by rw [hw1]; exact below_regrown _ _ _))
      rw [← hw1]
      have d2 := T1.out.ps.c2
      have f2 := T1.out.ps.fz 2
      obtain ⟨x0, x1, x2, fx⟩ := T1.out.rq.cells
      have v0 := fx 0; have v1 := fx 1; have v2 := fx 2
      have hne : ¬ r = P := by have := T1.out.hr; have := T1.out.hp; omega
      have hne2 : ¬ P = r := fun h => hne h.symm
      have HJ := Lib.hid (And.intro hj1 hj2)
      clear fx hw1 HT ht hsz b1 b2 b3 b4 hj1 hj2 ha HK
      cases okN
      · have HN := Lib.hid (show tstQ s.size (bN s) (numA s) a = none by rw [HE.out]; rfl)
        clear HE
        have HF := Lib.hid ((T1.out.set2 true).fin (c : Int) nv (.slice none 0 0))
        clear T1
        go_wp2
        all_goals
          go_light; refine bodyPost_ret (by simp (maxDischargeDepth := 3) [results, Tryz.results110, go_sem, *]; try rfl) rfl ?_
          exact ⟨HF.out.2, .inr ⟨_, _, j, HN.out, ⟨Nat.le_trans (Nat.le_succ a) HJ.out.1, HJ.out.2⟩, rfl, HF.out.1⟩⟩
      · have hE := HE.out
        clear HE
        by_cases e115 : c = 115
        · subst e115
          have hq : okT 115 nv = within nv 1 99 := by unfold okT; simp
          obtain ⟨bb, hbb⟩ : ∃ bb, within nv 1 99 = bb := ⟨_, rfl⟩
          rw [hbb] at hq
          rw [hq] at hE
          have HBB := Lib.hid hbb
          have HE2 := Lib.hid hE
          clear hq hbb hE
          go_wp2_with (first | (go_at_call 44; refine (C_isId _ _).mono ?_; rintro e w2 ⟨rfl, rfl⟩; rw [HBB.out]))
          all_goals
            cases bb
            · have HF := Lib.hid ((T1.out.set2 true).fin 115 nv (.slice none 0 0))
              clear T1
              go_wp2
              go_light; refine bodyPost_ret (by simp (maxDischargeDepth := 3) [results, Tryz.results110, go_sem, *]; try rfl) rfl ?_
              exact ⟨HF.out.2, .inr ⟨_, _, j, HE2.out, ⟨Nat.le_trans (Nat.le_succ a) HJ.out.1, HJ.out.2⟩, rfl, HF.out.1⟩⟩
            · have HF := Lib.hid ((T1.out.set2 false).fin 115 nv (.slice none 0 0))
              clear T1
              go_wp2
              go_light; refine bodyPost_ret (by simp (maxDischargeDepth := 3) [results, Tryz.results110, go_sem, *]; try rfl) rfl ?_
              exact ⟨HF.out.2, .inl ⟨115, nv, j, HE2.out, rfl, HF.out.1⟩⟩
        by_cases e105 : c = 105
        · subst e105
          have hq : okT 105 nv = within nv 1 999 := by unfold okT; simp
          obtain ⟨bb, hbb⟩ : ∃ bb, within nv 1 999 = bb := ⟨_, rfl⟩
          rw [hbb] at hq
          rw [hq] at hE
          have HBB := Lib.hid hbb
          have HE2 := Lib.hid hE
          clear hq hbb hE
          go_wp2_with (first | (go_at_call 119; refine (C_isRecordId _ _).mono ?_; rintro e w2 ⟨rfl, rfl⟩; rw [HBB.out]))
          all_goals
            cases bb
            · have HF := Lib.hid ((T1.out.set2 true).fin 105 nv (.slice none 0 0))
              clear T1
              go_wp2
              go_light; refine bodyPost_ret (by simp (maxDischargeDepth := 3) [results, Tryz.results110, go_sem, *]; try rfl) rfl ?_
              exact ⟨HF.out.2, .inr ⟨_, _, j, HE2.out, ⟨Nat.le_trans (Nat.le_succ a) HJ.out.1, HJ.out.2⟩, rfl, HF.out.1⟩⟩
            · have HF := Lib.hid ((T1.out.set2 false).fin 105 nv (.slice none 0 0))
              clear T1
              go_wp2
              go_light; refine bodyPost_ret (by simp (maxDischargeDepth := 3) [results, Tryz.results110, go_sem, *]; try rfl) rfl ?_
              exact ⟨HF.out.2, .inl ⟨105, nv, j, HE2.out, rfl, HF.out.1⟩⟩
        by_cases e101 : c = 101
        · subst e101
          have hq : okT 101 nv = within nv 1 9 := by unfold okT; simp
          obtain ⟨bb, hbb⟩ : ∃ bb, within nv 1 9 = bb := ⟨_, rfl⟩
          rw [hbb] at hq
          rw [hq] at hE
          have HBB := Lib.hid hbb
          have HE2 := Lib.hid hE
          clear hq hbb hE
          go_wp2_with (first | (go_at_call 43; refine (C_within _ _ _ _).mono ?_; rintro e w2 ⟨rfl, rfl⟩; rw [HBB.out]))
          all_goals
            cases bb
            · have HF := Lib.hid ((T1.out.set2 true).fin 101 nv (.slice none 0 0))
              clear T1
              go_wp2
              go_light; refine bodyPost_ret (by simp (maxDischargeDepth := 3) [results, Tryz.results110, go_sem, *]; try rfl) rfl ?_
              exact ⟨HF.out.2, .inr ⟨_, _, j, HE2.out, ⟨Nat.le_trans (Nat.le_succ a) HJ.out.1, HJ.out.2⟩, rfl, HF.out.1⟩⟩
            · have HF := Lib.hid ((T1.out.set2 false).fin 101 nv (.slice none 0 0))
              clear T1
              go_wp2
              go_light; refine bodyPost_ret (by simp (maxDischargeDepth := 3) [results, Tryz.results110, go_sem, *]; try rfl) rfl ?_
              exact ⟨HF.out.2, .inl ⟨101, nv, j, HE2.out, rfl, HF.out.1⟩⟩
        by_cases e97 : c = 97
        · subst e97
          have hq : okT 97 nv = within nv 0 20000 := by unfold okT; simp
          obtain ⟨bb, hbb⟩ : ∃ bb, within nv 0 20000 = bb := ⟨_, rfl⟩
          rw [hbb] at hq
          rw [hq] at hE
          have HBB := Lib.hid hbb
          have HE2 := Lib.hid hE
          clear hq hbb hE
          go_wp2_with (first | (go_at_call 45; refine (C_isDay _ _).mono ?_; rintro e w2 ⟨rfl, rfl⟩; rw [HBB.out]))
          all_goals
            cases bb
            · have HF := Lib.hid ((T1.out.set2 true).fin 97 nv (.slice none 0 0))
              clear T1
              go_wp2
              go_light; refine bodyPost_ret (by simp (maxDischargeDepth := 3) [results, Tryz.results110, go_sem, *]; try rfl) rfl ?_
              exact ⟨HF.out.2, .inr ⟨_, _, j, HE2.out, ⟨Nat.le_trans (Nat.le_succ a) HJ.out.1, HJ.out.2⟩, rfl, HF.out.1⟩⟩
            · have HF := Lib.hid ((T1.out.set2 false).fin 97 nv (.slice none 0 0))
              clear T1
              go_wp2
              go_light; refine bodyPost_ret (by simp (maxDischargeDepth := 3) [results, Tryz.results110, go_sem, *]; try rfl) rfl ?_
              exact ⟨HF.out.2, .inl ⟨97, nv, j, HE2.out, rfl, HF.out.1⟩⟩
        have hq : okT c nv = false := by unfold okT; simp [e115, e105, e101, e97]
        rw [hq] at hE
        have HE2 := Lib.hid hE
        have n1 : ((c : Int) == 115) = false := by rw [beq_eq_false_iff_ne]; omega
        have n2 : ((c : Int) == 105) = false := by rw [beq_eq_false_iff_ne]; omega
        have n3 : ((c : Int) == 101) = false := by rw [beq_eq_false_iff_ne]; omega
        have n4 : ((c : Int) == 97) = false := by rw [beq_eq_false_iff_ne]; omega
        have HF := Lib.hid ((T1.out.set2 true).fin (c : Int) nv (.slice none 0 0))
        clear T1 hE hq e115 e105 e101 e97
        go_wp2
        go_light; refine bodyPost_ret (by simp (maxDischargeDepth := 3) [results, Tryz.results110, go_sem, *]; try rfl) rfl ?_
        exact ⟨HF.out.2, .inr ⟨_, _, j, HE2.out, ⟨Nat.le_trans (Nat.le_succ a) HJ.out.1, HJ.out.2⟩, rfl, HF.out.1⟩⟩
  · have hae : ((a : Int) == (s.size : Int)) = true := by rw [beq_iff_eq]; omega
    have hn : tstQ s.size (bN s) (numA s) a = none := by unfold tstQ; rw [if_neg hlt]
    have HN := Lib.hid hn
    clear hn
    go_enter Tryz.func110, Tryz.ntmps110
    go_upto_region 1 with fail
    rw [HW.out, HR.out]
    clear HW HR
    go_wp2
    (refine wp_region_quiet_below (by kernel_rfl) (by kernel_rfl) ?_; (repeat (go_big_quiet_step (fail))); refine wpQuiet_nil ?_; intro _ hw'; obtain ⟨⟨dq, osq⟩, hw''⟩ := hw'; subst hw'')
    clear g0 g1
    obtain ⟨w1, hw1⟩ : ∃ ww, ww = grow (redrawn w0 dq) osq := ⟨_, rfl⟩
    have T1 := Lib.hid (T0.out.below (show Below (w0).heap.size w0 w1 by rw [hw1]; exact below_regrown _ _ _))
    rw [← hw1]
    clear hw1
    have d2 := T1.out.ps.c2
    have f2 := T1.out.ps.fz 2
    obtain ⟨x0, x1, x2, fx⟩ := T1.out.rq.cells
    have v0 := fx 0; have v1 := fx 1; have v2 := fx 2
    have hne : ¬ r = P := by have := T1.out.hr; have := T1.out.hp; omega
    have hne2 : ¬ P = r := fun h => hne h.symm
    clear fx
    go_wp2
    go_light; refine bodyPost_ret (by simp (maxDischargeDepth := 3) [results, Tryz.results110, go_sem, *]; try rfl) rfl ?_
    have hF := (T1.out.set2 true).fin 0 0 (.slice none 0 0)
    exact ⟨hF.2, .inr ⟨0, 0, a, HN.out, ⟨Nat.le_refl _, ha⟩, rfl, hF.1⟩⟩
end Go.Proofs.YtjmfkenhnfdbjaaGreatDoor
