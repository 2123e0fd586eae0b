/- Reading a query. No condition but those stated. -/
import Derived.Test.YtjmfkenhnfdbjaaGreatDoorQyL
namespace Go.Proofs.YtjmfkenhnfdbjaaGreatDoor
set_option linter.unusedVariables false
set_option linter.unusedSimpArgs false
open Go.RowKit Go.Sort
/-- The query that a text is. -/
def readQ (s : ByteArray) : Option Out := if within s.size 1 60 then parseQ s.size (bN s) (numA s) else none
def goodQ (s : ByteArray) : Bool := (readQ s).isSome
theorem good_len {s : ByteArray} (h : goodQ s = true) : 1 ≤ s.size ∧ s.size ≤ 60 := by
  unfold goodQ readQ at h
  split at h
  · rename_i hw
    unfold within at hw
    rw [Bool.and_eq_true, decide_eq_true_eq, decide_eq_true_eq] at hw
    omega
  · cases h
/-- What the reading of a query returns. -/
def RdRes (s : ByteArray) (w w' : World) (x : Tq) (mo : Int) : Prop :=
  Below w.heap.size w w' ∧ ∀ o, readQ s = some o → mo = o.d ∧ TR w' (fun g => w.heap.size ≤ g) o.q x
theorem PS.new (w : World) (s : ByteArray) : PS (w.alloc (.cells #[.string s, .int .i64 0, .bool false, .int .i64 0, .int .i64 0] 89)) w.heap.size s 0 false 0 0 :=
  World.rowIs_alloc w _ 89 _ (fun i hi => by
    match i, hi with
    | 0, _ => rfl
    | 1, _ => rfl
    | 2, _ => rfl
    | 3, _ => rfl
    | 4, _ => rfl
    | n + 5, h => exact absurd h (by simp))
theorem good_of {s : ByteArray} (hw : within (s.size : Int) 1 60 = true) {ok : Bool} (hh : ∀ o, pQue s.size (bN s) (numA s) (s.size + 1) 0 = some o → ok = decide (o.e = s.size))
    (hn : pQue s.size (bN s) (numA s) (s.size + 1) 0 = none → ok = false) : goodQ s = ok := by
  unfold goodQ readQ parseQ
  rw [if_pos hw]
  cases h : pQue s.size (bN s) (numA s) (s.size + 1) 0 with
  | none => rw [hn h]; rfl
  | some o =>
    rw [hh o h]
    show (if o.e = s.size then some o else none).isSome = _
    by_cases e : o.e = s.size
    · rw [if_pos e, decide_eq_true e]; rfl
    · rw [if_neg e, decide_eq_false e]; rfl
theorem RdRes.fin {s : ByteArray} {w w2 w3 : World} {P r : Nat} {x : Tq} (hw : within (s.size : Int) 1 60 = true) (hr : r = w.heap.size) (hP : P = w.heap.size + 1) (hz2 : w2.heap.size = w.heap.size + 2) (b2 : Below w.heap.size w w2)
    (h : Res P s (pQue s.size (bN s) (numA s) (s.size + 1)) 0 0 0 w2 w3 x) (w4 : World) (hb4 : Below w3.heap.size w3 w4) (mo : Int)
    (hh : ∀ o, pQue s.size (bN s) (numA s) (s.size + 1) 0 = some o → mo = o.d) :
    RdRes s w ((((w4.setCell ⟨r, 0, none⟩ (.int .u8 x.c)).setCell ⟨r, 1, none⟩ (.int .i64 x.n)).setCell ⟨r, 2, none⟩ (.slice x.A x.m x.k)).drew) x mo := by
  obtain ⟨h1, h2⟩ := h
  have hb3 : Below w.heap.size w w4 := bel_step0 hb4 (bel_chg h1 (by omega) b2)
  have hbS : Below w.heap.size w (((w4.setCell ⟨r, 0, none⟩ (.int .u8 x.c)).setCell ⟨r, 1, none⟩ (.int .i64 x.n)).setCell ⟨r, 2, none⟩ (.slice x.A x.m x.k)).drew :=
    (((hb3.setCell (by simp; omega) _).setCell (by simp; omega) _).setCell (by simp; omega) _).drew
  rcases h2 with ⟨o, h3, h4, h5, h6⟩ | ⟨h3, h4⟩
  · have hg : readQ s = if o.e = s.size then some o else none := by unfold readQ parseQ; rw [if_pos hw, h3]
    refine ⟨hbS, fun o' ho' => ?_⟩
    rw [hg] at ho'
    split at ho'
    · injection ho' with ho'
      subst ho'
      exact ⟨hh o h3, TR.frame (fun g hg hl => (Below.refl _ _).drew.block g hl) (Below.refl 0 _).drew.size _ _ (tr_set3 (TR.frame (fun g hg hl => hb4.block g hl) hb4.size _ _ h4) (fun g hg => ⟨by omega, by omega⟩) _ _ _)⟩
    · cases ho'
  · have hg : readQ s = none := by unfold readQ parseQ; rw [if_pos hw, h3]
    exact ⟨hbS, fun o' ho' => by rw [hg] at ho'; cases ho'⟩
set_option maxRecDepth 100000 in
set_option maxHeartbeats 8000000 in
theorem C_readQuery (s : ByteArray) (hs : s.size ≤ 1048576) (w : World) (hk : Pk w) :
    Calls Tryz.prog 36 #[.string s] w fun e w' => ∃ (x : Tq) (mo : Int), e = .returned (.tuple #[.agg #[.int .u8 (x).c, .int .i64 (x).n, .slice (x).A (x).m (x).k], .int .i64 mo, .bool (goodQ s)]) ∧ RdRes s w w' x mo := by
  obtain ⟨G, hG⟩ : ∃ G, goodQ s = G := ⟨_, rfl⟩
  rw [hG]
  have HG := Lib.hid hG
  clear hG
  obtain ⟨r, hr⟩ : ∃ r, r = w.heap.size := ⟨_, rfl⟩
  obtain ⟨w1, hw1⟩ : ∃ ww, ww = w.alloc (.cells #[.int .u8 0, .int .i64 0, .slice none 0 0] 61) := ⟨_, rfl⟩
  have R1 : RQ w1 r 0 0 (.slice none 0 0) := by rw [hw1, hr]; exact RQ.new w
  have B1 : Below w.heap.size w w1 := by rw [hw1]; exact (Below.refl _ _).alloc (Nat.le_refl _) _
  have Z1 : w1.heap.size = w.heap.size + 1 := by rw [hw1]; simp
  have HW := Lib.hid hw1.symm
  have HR := Lib.hid hr
  have HK := Lib.hid hk
  obtain ⟨y0, y1, y2, fy⟩ := R1.cells
  have v0 := fy 0; have v1 := fy 1; have v2 := fy 2
  clear hw1 hr hk fy
  cases hw : within (s.size : Int) 1 60
  · have HNO := Lib.hid (show goodQ s = false ∧ readQ s = none by unfold goodQ readQ; rw [hw]; exact ⟨rfl, rfl⟩)
    go_enter Tryz.func36, Tryz.ntmps36
    go_upto_region 1 with fail
    rw [HW.out, ← HR.out]
    go_wp2_with fail
    refine (C_within _ _ _ _).mono ?_; rintro e w' ⟨rfl, rfl⟩
    rw [hw]
    go_wp2
    go_light; refine bodyPost_ret (by simp (maxDischargeDepth := 3) [results, Tryz.results36, go_sem, *]; try rfl) rfl ?_
    rw [← HG.out, HNO.out.1]
    refine ⟨⟨0, 0, none, 0, 0⟩, 0, rfl, ?_, fun o ho => by rw [HNO.out.2] at ho; cases ho⟩
    exact ((B1.setCell (by rw [HR.out]; exact Nat.le_refl _) _).setCell (by rw [HR.out]; exact Nat.le_refl _) _).setCell (by rw [HR.out]; exact Nat.le_refl _) _
  · go_enter Tryz.func36, Tryz.ntmps36
    go_upto_region 1 with fail
    rw [HW.out, ← HR.out]
    go_wp2_with fail
    refine (C_within _ _ _ _).mono ?_; rintro e w' ⟨rfl, rfl⟩
    rw [hw]
    obtain ⟨P, hP⟩ : ∃ P, P = w1.heap.size := ⟨_, rfl⟩
    obtain ⟨w2, hw2⟩ : ∃ ww, ww = w1.alloc (.cells #[.string s, .int .i64 0, .bool false, .int .i64 0, .int .i64 0] 89) := ⟨_, rfl⟩
    have H2 := Lib.hid hw2.symm
    have HP := Lib.hid (hP.trans Z1)
    have B2 : Below w.heap.size w w2 := by rw [hw2]; exact B1.alloc (by omega) _
    have B12 : Below w1.heap.size w1 w2 := by rw [hw2]; exact (Below.refl _ _).alloc (Nat.le_refl _) _
    have Z2 : w2.heap.size = w.heap.size + 2 := by rw [hw2]; simp; omega
    have PS2 : PS w2 P s 0 false 0 0 := by rw [hw2, hP]; exact PS.new w1 s
    have PK2 : PkB P w2 := ⟨w, HK.out, by rw [HP.out]; omega, B2⟩
    have HPRE := Lib.hid (Pre.mk PS2 PK2 (Int.le_refl _) (Int.le_refl _) (Int.le_refl _) (by omega) (Nat.zero_le _))
    have R2 := Lib.hid (R1.below B12)
    have HW0 := Lib.hid hw
    clear hP hw2 PS2 PK2 B12 B1 R1 y0 y1 y2 v0 v1 v2 hw
    go_upto_region 4 with fail
    rw [H2.out, ← HP.out]
    clear H2 HW
    go_wp2_with fail
    refine (C_queryP P s (numA s) (s.size + 1) hs 0 0 0 (fun a op mo w hK h => C_term P s (numA s) (s.size + 1) hs a op mo (fun a op mo w hK h => C_factor P s hs (s.size + 1) a op mo w hK h) w hK h) w2 (by omega) HPRE.out).mono ?_; rintro e' w3 ⟨x, rfl, hres⟩
    have hch := hres.1
    have hz3 := hch.size
    have R3 := Lib.hid ((R2.out.chg hch (.inl (by rw [HR.out, HP.out]; omega))).allocQ (.cells #[.int .u8 (x).c, .int .i64 (x).n, .slice (x).A (x).m (x).k] 61))
    have HPW := Lib.hid B2
    have hPn : P = w.heap.size + 1 := HP.out
    have HPn := Lib.hid hPn
    have B34 : Below w3.heap.size w3 (w3.alloc (.cells #[.int .u8 (x).c, .int .i64 (x).n, .slice (x).A (x).m (x).k] 61)) := (Below.refl _ _).alloc (Nat.le_refl _) _
    have HB34 := Lib.hid B34
    have F := Lib.hid (fun w4 h4 mo hh => RdRes.fin HW0.out HR.out hPn Z2 B2 hres w4 h4 mo hh)
    have hps := hres.2
    obtain ⟨y0, y1, y2, fy⟩ := R3.out.cells
    have v0 := fy 0; have v1 := fy 1; have v2 := fy 2
    clear hres hch R2 HPRE B2 fy hPn
    obtain ⟨bad, e, mo', hp, hsh⟩ : ∃ (bad : Bool) (e : Nat) (mo' : Int), PS w3 P s e bad 0 mo' ∧ (∀ o, pQue s.size (bN s) (numA s) (s.size + 1) 0 = some o → bad = false ∧ mo' = o.d ∧ e = o.e) ∧ (pQue s.size (bN s) (numA s) (s.size + 1) 0 = none → bad = true) := by
      rcases hps with ⟨o, ho, _, hp, _⟩ | ⟨hno, a', mo', _, _, _, _, hp⟩
      · refine ⟨_, _, _, hp, fun o' h => ?_, fun h => ?_⟩
        · rw [ho] at h; injection h with h; subst h; exact ⟨rfl, by omega, rfl⟩
        · rw [ho] at h; cases h
      · exact ⟨_, _, _, hp, fun o' h => (by rw [hno] at h; cases h), fun _ => rfl⟩
    have hp4 := hp.below B34
    have z1 := hp4.c1
    have z2 := hp4.c2
    have z4 := hp4.c4
    have HSH := Lib.hid hsh
    clear hps hp hp4 hsh B34
    obtain ⟨hb, hhb⟩ : ∃ b, ((e : Int) == (s.size : Int)) = b := ⟨_, rfl⟩
    have HHB := Lib.hid hhb
    go_upto_region 5 with fail
    obtain ⟨w4, hw4⟩ : ∃ ww, ww = w3.alloc (.cells #[.int .u8 (x).c, .int .i64 (x).n, .slice (x).A (x).m (x).k] 61) := ⟨_, rfl⟩
    have q0 := show w4.cell? ⟨w3.heap.size, 0, none⟩ = some (.int .u8 x.c) by rw [hw4]; exact cell_new _ _ _ _ _ rfl
    have q1 := show w4.cell? ⟨w3.heap.size, 1, none⟩ = some (.int .i64 x.n) by rw [hw4]; exact cell_new _ _ _ _ _ rfl
    have q2 := show w4.cell? ⟨w3.heap.size, 2, none⟩ = some (.slice x.A x.m x.k) by rw [hw4]; exact cell_new _ _ _ _ _ rfl
    rw [← hw4] at z1 z2 z4 y0 y1 y2 v0 v1 v2 ⊢
    have HB4 := Lib.hid (show Below w3.heap.size w3 w4 by rw [hw4]; exact HB34.out)
    clear HB34 hw4
    have hPr : ¬ P = r := by rw [HP.out, HR.out]; omega
    have hrP : ¬ r = P := fun h => hPr h.symm
    have HGD := Lib.hid (good_of HW0.out (ok := !bad && hb) (fun o ho => by
      obtain ⟨k1, k2, k3⟩ := HSH.out.1 o ho
      rw [k1, ← HHB.out, k3, Bool.not_false, Bool.true_and]
      by_cases h : o.e = s.size
      · rw [decide_eq_true h, h, beq_self_eq_true]
      · rw [decide_eq_false h, beq_eq_false_iff_ne]; omega) (fun h => by rw [HSH.out.2 h]; rfl))
    have HFF := Lib.hid (F.out w4 HB4.out mo' fun o ho => (HSH.out.1 o ho).2.1)
    clear HSH HHB F HB4
    cases bad
    · cases hb
      all_goals
        go_region
        all_goals
          go_wp2
          go_light; refine bodyPost_ret (by simp (maxDischargeDepth := 3) [results, Tryz.results36, go_sem, *]; try rfl) rfl ?_
          rw [← HG.out, HGD.out]
          exact ⟨x, mo', rfl, HFF.out⟩
    · go_region
      all_goals
        go_wp2
        go_light; refine bodyPost_ret (by simp (maxDischargeDepth := 3) [results, Tryz.results36, go_sem, *]; try rfl) rfl ?_
        rw [← HG.out, HGD.out]
        exact ⟨x, mo', rfl, HFF.out⟩
end Go.Proofs.YtjmfkenhnfdbjaaGreatDoor
