/- StepFor: the program. No condition but those stated. -/
import Derived.Test.YtnhkejbgcjebmaaDoorClueM
import Derived.StillTailTactics
import Derived.IntWalk
namespace Go.Proofs.YtnhkejbgcjebmaaDoor
set_option linter.unusedVariables false
set_option linter.unusedSimpArgs false
open Go.RowKit Go.Sort Go.WideMaps Go.Maps
/-- The rounds that the step in the cell leaves. -/
def stepOf (v : Value) (w : World) : Nat := match v with | .pointer (some a) => (match w.cell? a with | some (.int _ x) => (20 - x).toNat | _ => 0) | _ => 0
theorem stepOf_at {w : World} {a : Addr} {x : Int} (h : w.cell? a = some (.int .i64 x)) : stepOf (.pointer (some a)) w = (20 - x).toNat := by unfold stepOf; simp only [h]
theorem putI {w : World} {B m : Nat} {c : Lit → Int} (h : CM 3 w B m c) {y z : Int} (hy : I64 y) (hz : I64 z) (hm : m < maxLen) :
    ∃ w', (Instr.mapUpdate 76 (.map (some B)) (.int .i64 y) (.int .i64 z)).run Tryd.prog w = .ok () w' ∧ CM 3 w' B (m + 1) (updC c (kI y) z) ∧ w.grownBy w' (some B) := by
  obtain ⟨D, h1, h2⟩ := h
  have hD : IsMap D := by obtain ⟨es, _, _, _, _, e⟩ := h1; exact ⟨_, e⟩
  obtain ⟨w', hr, h3, h4⟩ := h1.update lawInt Tryd.underlying76 hm (key_int hy) (plainElem_int Tryd.underlying3 (i64_wf hz))
  refine ⟨w', hr, ⟨_, h3, fun k => ?_⟩, h4⟩
  by_cases e : k = kI y
  · subst e; rw [atKey_put_same hD (keyI_lit y), updC_same]
  · rw [atKey_put_other e, updC_other e, h2]
theorem SX.put {Bc Bs Bk B m m' : Nat} {w w' : World} {c d : Lit → Int} {s k : Int} (h : SX Bc Bs Bk B w m c s k) (hc : CM 3 w' B m' d) (hg : w.grownBy w' (some B)) (h1 : Bc ≠ B) (h2 : Bs ≠ B) (h3 : Bk ≠ B) : SX Bc Bs Bk B w' m' d s k :=
  ⟨(World.cell?_of_block (w := w) (a := ⟨Bc, 0, none⟩) (hg.block Bc h.lc (by intro e; injection e with e; exact h1 e))).trans h.cc,
   (World.cell?_of_block (w := w) (a := ⟨Bs, 0, none⟩) (hg.block Bs h.ls (by intro e; injection e with e; exact h2 e))).trans h.sc,
   (World.cell?_of_block (w := w) (a := ⟨Bk, 0, none⟩) (hg.block Bk h.lk (by intro e; injection e with e; exact h3 e))).trans h.kc, hc,
   Nat.lt_of_lt_of_le h.lc hg.size, Nat.lt_of_lt_of_le h.ls hg.size, Nat.lt_of_lt_of_le h.lk hg.size⟩
/-- What the loop over the steps keeps: the cell g holds the step. -/
structure ST (w : World) (k : Int) (wr : World) (g i : Nat) : Prop where
  be : Below w.heap.size w wr
  lo : w.heap.size < g
  hi : g < wr.heap.size
  cg : wr.cell? ⟨g, 0, none⟩ = some (.int .i64 ((i : Int) + 1))
  ck : wr.cell? ⟨w.heap.size, 0, none⟩ = some (.int .i64 k)
theorem ST.start {w w1 : World} {k x : Int} (T : TypeId) (hb : Below w.heap.size w w1) (hl : w.heap.size + 1 ≤ w1.heap.size) (hk : w1.cell? ⟨w.heap.size, 0, none⟩ = some (.int .i64 k)) (i : Nat) (hx : x = (i : Int) + 1) : ST w k (w1.alloc (.cells #[.int .i64 x] T)) w1.heap.size i := by
  subst hx
  exact ⟨bel_alloc0 hb _, by omega, by simp, cell_new w1 _ T 0 _ rfl, cell_old _ (by show w.heap.size < _; omega) hk⟩
theorem ST.below {w wr w' : World} {k : Int} {g i : Nat} (h : ST w k wr g i) (hb : Below wr.heap.size wr w') : ST w k w' g i :=
  ⟨bel_step0 hb h.be, h.lo, Nat.lt_of_lt_of_le h.hi hb.size, (hb.cell (p := ⟨g, 0, none⟩) h.hi).trans h.cg, (hb.cell (p := ⟨w.heap.size, 0, none⟩) (Nat.lt_trans h.lo h.hi)).trans h.ck⟩
/-- What the loop that counts keeps: the block H is the map, the cell behind it names it. -/
structure SC (wr : World) (wv : World) (j : Nat) (c : Lit → Int) : Prop where
  be : Below wr.heap.size wr wv
  cm : CM 3 wv wr.heap.size j c
  cc : wv.cell? ⟨wr.heap.size + 1, 0, none⟩ = some (.map (some wr.heap.size))
  lt : wr.heap.size + 1 < wv.heap.size
theorem SC.start (wr : World) (T : TypeId) : SC wr ((wr.alloc (.map #[] 0)).alloc (.cells #[.map (some wr.heap.size)] T)) 0 (fun _ => 0) := by
  refine ⟨bel_alloc0 (bel_alloc0 (Below.refl _ _) _) _, (CM.made _ wr).below (by (repeat (first | with_reducible exact Below.refl _ _ | with_reducible exact below_regrown _ _ _ | with_reducible refine bel_step0 (by assumption) ?_ | with_reducible refine bel_alloc0 ?_ _ | with_reducible refine bel_regrown0 ?_ _ _ | with_reducible refine bel_regrown ?_ (by first | omega | (simp; done) | (simp; omega)) _ _ | with_reducible refine below_drewN ?_ _ | with_reducible refine Below.drew ?_ | with_reducible refine Below.alloc ?_ (by first | omega | (simp; done) | (simp; omega)) _ | with_reducible refine Below.setCell ?_ (by first | omega | (simp; done) | (simp; omega)) _ | with_reducible refine bel_step (by assumption) (by first | omega | (simp; done) | (simp; omega)) ?_ | with_reducible refine bel_grown (by assumption) (by first | omega | (simp; done) | (simp; omega)) (by first | omega | (simp; done) | (simp; omega)) ?_))), ?_, by simp⟩
  have := cell_new (wr.alloc (.map #[] 0)) #[.map (some wr.heap.size)] T 0 _ rfl
  simp only [World.size_alloc] at this
  exact this
theorem SC.below {wr wv w' : World} {j : Nat} {c : Lit → Int} (h : SC wr wv j c) (hb : Below wv.heap.size wv w') : SC wr w' j c :=
  ⟨bel_step0 hb h.be, h.cm.below hb, (hb.cell (p := ⟨wr.heap.size + 1, 0, none⟩) h.lt).trans h.cc, Nat.lt_of_lt_of_le h.lt hb.size⟩
theorem SC.put {wr wv w' : World} {j : Nat} {c d : Lit → Int} (h : SC wr wv j c) (hc : CM 3 w' wr.heap.size (j + 1) d) (hg : wv.grownBy w' (some wr.heap.size)) : SC wr w' (j + 1) d :=
  ⟨bel_grown hg (Nat.le_refl _) h.be.size h.be, hc, (World.cell?_of_block (w := wv) (a := ⟨wr.heap.size + 1, 0, none⟩) (hg.block (wr.heap.size + 1) h.lt (by intro e; injection e with e; omega))).trans h.cc, Nat.lt_of_lt_of_le h.lt hg.size⟩
theorem SC.sx {w wr wv : World} {k : Int} {g i j : Nat} {c : Lit → Int} (hS : ST w k wr g i) (h : SC wr wv j c) : SX (wr.heap.size + 1) g w.heap.size wr.heap.size wv j c ((i : Int) + 1) k :=
  have h2 := hS.below h.be
  ⟨h.cc, h2.cg, h2.ck, h.cm, h.lt, h2.hi, Nat.lt_trans h2.lo h2.hi⟩
set_option maxRecDepth 100000 in
set_option maxHeartbeats 4000000 in
theorem C_StepForI (v : Value) (n : Nat) (f : Nat → ByteArray) (k : Int) (w : World) (h : TI w v n f) (hs : ∀ j, j < n → (f j).size ≤ 9223372036854775807) :
    Calls Tryd.prog 32 #[v, .int .i64 k] w fun e w' => e = .returned (.tuple #[.int .i64 (if stepG n f k then stepI n f k else 0), .bool (stepG n f k && stepB n f k)]) ∧ Below w.heap.size w w' := by
  have HH := Lib.hid h
  have HS := Lib.hid hs
  obtain ⟨A, cap, rfl, hr, hc, hm⟩ := h
  have HR := Lib.hid hr
  clear hr hs
  obtain ⟨w0, hw0⟩ : ∃ w0, w0 = w.alloc (.cells #[.int .i64 k] 3) := ⟨_, rfl⟩
  have hb0 : Below w.heap.size w w0 := by rw [hw0]; (repeat (first | with_reducible exact Below.refl _ _ | with_reducible exact below_regrown _ _ _ | with_reducible refine bel_step0 (by assumption) ?_ | with_reducible refine bel_alloc0 ?_ _ | with_reducible refine bel_regrown0 ?_ _ _ | with_reducible refine bel_regrown ?_ (by first | omega | (simp; done) | (simp; omega)) _ _ | with_reducible refine below_drewN ?_ _ | with_reducible refine Below.drew ?_ | with_reducible refine Below.alloc ?_ (by first | omega | (simp; done) | (simp; omega)) _ | with_reducible refine Below.setCell ?_ (by first | omega | (simp; done) | (simp; omega)) _ | with_reducible refine bel_step (by assumption) (by first | omega | (simp; done) | (simp; omega)) ?_ | with_reducible refine bel_grown (by assumption) (by first | omega | (simp; done) | (simp; omega)) (by first | omega | (simp; done) | (simp; omega)) ?_))
  have l0 : w.heap.size + 1 ≤ w0.heap.size := by rw [hw0]; simp
  have q1 : w0.cell? ⟨w.heap.size, 0, none⟩ = some (.int .i64 k) := by rw [hw0]; exact cell_new _ _ _ _ _ rfl
  have HW0 := Lib.hid hw0.symm
  clear hw0
  cases hd : dictB n f
  · have hG : stepG n f k = false := by unfold stepG; rw [hd]; rfl
    rw [hG]
    go_enter Tryd.func32, Tryd.ntmps32
    go_wp2_with fail
    rw [HW0.out]
    refine (C_IsDictionary _ _ _ _ (HH.out.below hb0) HS.out).mono ?_; rintro e w1 ⟨rfl, hb1⟩; rw [hd]
    go_wp2_with fail
    go_ret2
    exact ⟨rfl, bel_step0 hb1 hb0⟩
  have hw : ∀ j, j < n → (f j).size ≤ 1048576 := fun j hj => by have := wordB_size (dictB_word hd hj); omega
  have hn := (dictB_len hd).2
  have HW := Lib.hid hw
  clear hw
  cases hk : within k 1 12
  · have hG : stepG n f k = false := by unfold stepG; rw [hd, hk]; rfl
    rw [hG]
    go_enter Tryd.func32, Tryd.ntmps32
    go_wp2_with fail
    rw [HW0.out]
    refine (C_IsDictionary _ _ _ _ (HH.out.below hb0) HS.out).mono ?_; rintro e w1 ⟨rfl, hb1⟩; rw [hd]
    have p1 := (hb1.cell (p := ⟨w.heap.size, 0, none⟩) (by show w.heap.size < _; omega)).trans q1
    go_wp2_with fail
    refine (C_isLeast _ _).mono ?_; rintro e w3 ⟨rfl, rfl⟩; rw [hk]
    go_wp2_with fail
    go_ret2
    exact ⟨rfl, bel_step0 hb1 hb0⟩
  have hG : stepG n f k = true := by unfold stepG; rw [hd, hk]; rfl
  rw [hG]
  clear hG
  have hmm := @run_makeMap Tryd.prog
  go_enter Tryd.func32, Tryd.ntmps32
  go_wp2_with fail
  rw [HW0.out]
  refine (C_IsDictionary _ _ _ _ (HH.out.below hb0) HS.out).mono ?_; rintro e w1 ⟨rfl, hb1⟩; rw [hd]
  have p1 := (hb1.cell (p := ⟨w.heap.size, 0, none⟩) (by show w.heap.size < _; omega)).trans q1
  have l1 : w.heap.size + 1 ≤ w1.heap.size := Nat.le_trans l0 hb1.size
  have hB1 := bel_step0 hb1 hb0
  go_wp2_with fail
  refine (C_isLeast _ _).mono ?_; rintro e w3 ⟨rfl, rfl⟩; rw [hk]
  clear hb1 hb0 q1
  go_wp2
  go_loopw [6] (fun p wr => ∃ g i : Nat, i ≤ 10 ∧ p = .pointer (some ⟨g, 0, none⟩) ∧ ST w k wr g i ∧ anyB i (okS n f k) = false) (fun p wr => stepOf p wr)
  case atStart => exact ⟨_, 0, by omega, rfl, ST.start _ hB1 l1 p1 0 rfl, rfl⟩
  case round =>
    obtain ⟨g, i, hi, rfl, hS, ha⟩ := hrel
    have HSX := Lib.hid hS
    have HA := Lib.hid ha
    have c1 := hS.cg
    have c2 := hS.ck
    have z1 := hS.lo
    have z2 := hS.hi
    clear ha hS hB1 p1
    by_cases hlt : i < 10
    · have hdec : decide ((i : Int) + 1 ≤ 10) = true := by simp; omega
      go_wp2
      clear hdec
      obtain ⟨wo, rfl⟩ : ∃ wo : World, wo = wr := ⟨_, rfl⟩
      go_loopw [25] (fun i' wv => ∃ j : Nat, j ≤ n ∧ i' = .int .i64 j ∧ SC wo wv j (cM f ((i : Int) + 1) j)) (fun i' _ => n - (intOf i').toNat)
      case atStart => exact ⟨0, Nat.zero_le _, rfl, SC.start _ _⟩
      case round =>
        obtain ⟨j, hj, rfl, hC⟩ := hrel
        have HC := Lib.hid hC
        have HW1 := Lib.hid (HSX.out.below hC.be)
        have d1 := (HW1.out).cg
        have d2 := (HW1.out).ck
        have d3 := hC.cc
        have z3 := hC.lt
        by_cases hlj : j < n
        · obtain ⟨b, off, rfl, hb, hcell⟩ := (HR.out.below HW1.out.be) (by omega)
          have hck := hcell j hlj
          have hzj := HW.out j hlj
          have HE := fun W => (C_paddedLength (f j) ((i : Int) + 1) W (by omega) (by omega) hzj).mono fun e w' hh => (⟨hh.1, hh.2.symm⟩ : _ ∧ w' = W)
          have HHE := Lib.hid HE
          clear hcell hC HE c1 c2 hmm
          go_upto_region 10 with fail
          have hbd := cM_at f ((i : Int) + 1) j (pF f ((i : Int) + 1) j)
          have hle := cP_le j f ((i : Int) + 1) (pF f ((i : Int) + 1) j)
          have hyy : I64 (cM f ((i : Int) + 1) j (kI (pF f ((i : Int) + 1) j)) + 1) := by rw [hbd]; unfold I64; omega
          have hky : I64 (pF f ((i : Int) + 1) j) := padN_i64 (by omega) (by omega) hzj
          obtain ⟨x, hx⟩ : ∃ x, pF f ((i : Int) + 1) j = x := ⟨_, rfl⟩
          obtain ⟨y, hy⟩ : ∃ y, cM f ((i : Int) + 1) j (kI x) = y := ⟨_, rfl⟩
          rw [hx] at hyy hky hbd hle
          rw [hy] at hyy hbd
          have hup : cM f ((i : Int) + 1) (j + 1) = updC (cM f ((i : Int) + 1) j) (kI x) (y + 1) := by
            show updC (cM f ((i : Int) + 1) j) (kI (pF f ((i : Int) + 1) j)) (cM f ((i : Int) + 1) j (kI (pF f ((i : Int) + 1) j)) + 1) = _
            rw [hx, hy]
          have HUP := Lib.hid hup
          have HX := Lib.hid hx
          have HY := Lib.hid hy
          have hrun := lookI (HC.out.cm.below (Below.refl _ _).drew) hky
          rw [hy] at hrun
          have hy0 : 0 ≤ y ∧ y ≤ 1048576 := by omega
          clear hup hx hy hbd hle
          obtain ⟨hy0, hy1⟩ := hy0
          have hwr : IntKind.i64.wrap (y + 1) = y + 1 := IntWalk.i64_in _ (by omega)
          go_still_tail 6, (by kernel_rfl)
          refine wpStill_step (fun K hK => ?_)
          go_simp
          refine ⟨_, (HHE.out _).mono fun e w' hh => ⟨hh.1.trans (by rw [show padN (f j).size ((i : Int) + 1) = x from HX.out]), hh.2⟩, hK _ ?_⟩
          clear hK K
          repeat still_step
          refine wpStill_nil ?_
          clear hwr hrun
          refine wp_putC _ rfl (.tmp 29) (.tmp 32) (.tmp 34) 76 3 rfl lawInt Tryd.underlying76 wo.heap.size j _ rfl (HC.out.cm.below (Below.refl _ _).drew) (by unfold maxLen; omega) _ _ (y + 1) rfl rfl (key_int hky) (keyI_lit _) hyy ?_
          intro w4 hc4 hg4
          have hC4 := (HC.out.below (Below.refl _ _).drew).put hc4 hg4
          have HC4 := Lib.hid hC4
          clear hc4 hg4 hC4
          go_wp2
          go_roundw
          case rel => exact ⟨j + 1, by omega, by go_num, by rw [HUP.out]; exact HC4.out⟩
          case measure => simp [intOf]; omega
        · obtain rfl : j = n := by omega
          clear c1 c2 hmm
          go_wp2_with fail
          refine (C_ContainsP _ _ _ _ _ _ _ _ _ _ _ _ (HH.out.below HW1.out.be) (HC.out.sx HSX.out) (by omega) (by omega) HW.out).mono ?_; rintro e w3 ⟨rfl, hb3⟩
          have ev : (anyB j fun q => decide (cM f ((i : Int) + 1) j (kI (padN (f q).size ((i : Int) + 1))) < k)) = !okS j f k i := by
            have := ok_any j j f k ((i : Int) + 1)
            unfold okS
            rw [← this]
            exact anyB_congr fun q _ => by rw [← cM_at]; rfl
          rw [ev]
          have HW3 := Lib.hid (HW1.out.below hb3)
          clear hb3 ev
          have r1 := HW3.out.cg
          have r2 := HW3.out.ck
          cases hok : okS j f k i
          · have hz3 : w.heap.size + 1 ≤ w3.heap.size := by have := HW3.out.lo; have := HW3.out.hi; omega
            have h4 := ST.start 3 HW3.out.be hz3 r2 (i + 1) (x := (i : Int) + 1 + 1) (by omega)
            have H4 := Lib.hid h4
            clear h4
            go_wp2_with fail
            refine ⟨⟨_, i + 1, by omega, rfl, H4.out, anyB_next HA.out hok⟩, ?_⟩
            rw [stepOf_at H4.out.cg, stepOf_at HSX.out.cg]
            omega
          · have hs := stepI_some hlt HA.out hok
            have HS2 := Lib.hid hs
            clear hs
            go_wp2_with fail
            go_ret2
            exact ⟨by rw [HS2.out.1, HS2.out.2]; rfl, HW3.out.be⟩
    · obtain rfl : i = 10 := by omega
      have hr := stepI_none HA.out
      have HRR := Lib.hid hr
      clear hr
      go_wp2
      go_ret2
      exact ⟨by rw [HRR.out.1, HRR.out.2]; rfl, HSX.out.be⟩
end Go.Proofs.YtnhkejbgcjebmaaDoor
