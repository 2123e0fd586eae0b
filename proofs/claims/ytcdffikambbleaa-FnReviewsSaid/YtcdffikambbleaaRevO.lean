/- Marks of lists of reviews. No condition but those stated. -/
import Derived.Test.YtcdffikambbleaaRevN
namespace Go.Proofs.Ytcdffikambbleaa
set_option linter.unusedVariables false
set_option linter.unusedSimpArgs false
open Go.RowKit Go.Sort
def mk (R : Nat → Rl) : Nat → Int
  | 0 => 1
  | j + 1 => mk R j + 2 + ((R j).vs.length : Int)
def mkd (R : Nat → Rl) (j : Nat) : Rv := ⟨mk R j, mk R j + 1, (R j).vs.length, fun i => mk R j + 1 + 1 + i⟩
theorem mk_le {R : Nat → Rl} {n : Nat} (h : ∀ j, j < n → (R j).vs.length ≤ 1048576) : ∀ k, k ≤ n → 1 ≤ mk R k ∧ mk R k ≤ 1 + k * 1048578 := by
  intro k
  induction k with
  | zero => intro _; simp [mk]
  | succ k ih =>
    intro hk
    have := ih (by omega)
    have := h k (by omega)
    simp only [mk]
    omega
theorem SI.chg_ne {w w' : World} {v : Value} {n : Nat} {f : Nat → Int} {lo hi : Nat} (hc : Chg lo hi w w') (hb : ∀ q, v.ownBlock = some q → q < lo ∨ hi ≤ q) (h : SI w v n f) : SI w' v n f := by
  obtain ⟨A, cap, rfl, hr, h2⟩ := h
  refine ⟨A, cap, rfl, fun h0 => ?_, h2⟩
  obtain ⟨b, off, rfl, hl, hcell⟩ := hr h0
  have hk := hc.block b hl (hb b rfl)
  exact ⟨b, off, rfl, Nat.lt_of_lt_of_le hl hc.size, fun j hj => (World.cell?_of_block (w := w) (a := ⟨b, off + j, none⟩) hk).trans (hcell j hj)⟩
theorem OI.wi1 {base : Nat} {w : World} {v : Value} {xs : List Int} (h : OI base w v xs) : ∃ lo hi, WI lo hi w v xs.length (ai xs) ∧ base ≤ lo ∧ ∀ q, lo ≤ q → q < hi → v.ownBlock = some q := by
  rcases h.2 with ⟨rfl, h0⟩ | ⟨g, cap, cur, rfl, hb, hh, hnc, hcm, hsz, htk⟩
  · exact ⟨base, base, ⟨none, 0, by rw [h0], fun h1 => absurd h1 (by omega), by omega, by omega⟩, Nat.le_refl _, fun q h1 h2 => absurd h1 (by omega)⟩
  · obtain ⟨A, c, e, hr, h2⟩ := h.wi
    refine ⟨g, g + 1, ⟨A, c, e, fun h0 => ?_, h2⟩, hb, fun q h1 h2 => by rw [show q = g by omega]; rfl⟩
    obtain ⟨b, off, e2, _, _, h5, h6⟩ := hr h0
    have : b = g := by rw [e2] at e; injection e with e; injection e with e; injection e with e; exact e.symm
    exact ⟨b, off, e2, by omega, by omega, h5, h6⟩
theorem mark_step (R : Nat → Rl) (S : Nat → Value) (k i : Nat) :
    (if i = k * 3 + 1 then Value.int .i64 (mk R k + 1) else if i = k * 3 then .int .i64 (mk R k) else if i / 3 < k then c3 (mkd R (i / 3)) (S (i / 3)) (i % 3) else c3 (R (i / 3)).rv (S (i / 3)) (i % 3)) =
    if i / 3 < k + 1 then c3 (mkd R (i / 3)) (S (i / 3)) (i % 3) else c3 (R (i / 3)).rv (S (i / 3)) (i % 3) := by
  by_cases e1 : i = k * 3 + 1
  · subst e1
    rw [if_pos rfl, if_pos (by omega), show (k * 3 + 1) / 3 = k by omega, show (k * 3 + 1) % 3 = 1 by omega]; rfl
  · rw [if_neg e1]
    by_cases e0 : i = k * 3
    · subst e0
      rw [if_pos rfl, if_pos (by omega), show (k * 3) / 3 = k by omega, show (k * 3) % 3 = 0 by omega]; rfl
    · rw [if_neg e0]
      by_cases e : i / 3 < k
      · rw [if_pos e, if_pos (by omega)]
      · rw [if_neg e]
        by_cases e2 : i / 3 = k
        · have hm : i % 3 = 2 := by omega
          rw [if_pos (by omega), hm]; rfl
        · rw [if_neg (by omega)]
theorem C_markOR (v : Value) (n : Nat) (R : Nat → Rl) (base : Nat) (w : World) (h : OR base w v n R) (hn : n ≤ 1048576) (hl : ∀ j, j < n → (R j).vs.length ≤ 1048576) (hbw : base ≤ w.heap.size) :
    Calls Try.prog 38 #[v, .int .i64 1] w fun e w' => e = .returned (.int .i64 (mk R n)) ∧ RRs w' v n (mkd R) ∧ Below base w w' := by
  obtain ⟨S, h1, h2, h3⟩ := h
  obtain ⟨A, cap, rfl, hc, hm, hA⟩ := h1.form
  have H1 := Lib.hid h1; clear h1
  have H2 := Lib.hid h2; clear h2
  have H3 := Lib.hid h3; clear h3
  have HA := Lib.hid hA; clear hA
  have HLE := Lib.hid (mk_le hl)
  have HLL := Lib.hid hl; clear hl
  go_enter Try.func38, Try.ntmps38
  go_wp2
  go_loopw [1, 5] (fun q i wr => ∃ k : Nat, k ≤ n ∧ i = .int .i64 k ∧ q = .int .i64 (mk R k) ∧ w.heap.size ≤ wr.heap.size ∧ Below base w wr ∧
    own3 base wr (.slice A n cap) n (fun i => if i / 3 < k then c3 (mkd R (i / 3)) (S (i / 3)) (i % 3) else c3 (R (i / 3)).rv (S (i / 3)) (i % 3)) ∧
    (∀ j, j < k → SI wr (S j) (mkd R j).n (mkd R j).f) ∧ ∀ j, k ≤ j → j < n → OI base wr (S j) (R j).vs) (fun _ i _ => n - (intOf i).toNat)
  case atStart => exact ⟨0, Nat.zero_le _, rfl, rfl, Nat.le_refl _, Below.refl _ _, H1.out.congr fun i hi => by simp, fun j hj => absurd hj (by omega), fun j _ hj => H2.out j hj⟩
  case round =>
    obtain ⟨k, hk, rfl, rfl, hz, hB, ho, hs, hi⟩ := hrel
    have HB := Lib.hid hB; clear hB
    have HO := Lib.hid ho
    have HS := Lib.hid hs; clear hs
    have HI := Lib.hid hi; clear hi
    obtain ⟨hm0, hm1⟩ := HLE.out k hk
    by_cases hlt : k < n
    · obtain ⟨g, rfl, hg0, hgl0⟩ := HA.out (by omega)
      have hgl := (ho.lt g rfl).2
      have e0 := ho.cell (i := k * 3) (by omega)
      have e1 := ho.cell (i := k * 3 + 1) (by omega)
      have e2 := ho.cell (i := k * 3 + 2) (by omega)
      rw [if_neg (by omega), show (k * 3) / 3 = k by omega, show (k * 3) % 3 = 0 by omega] at e0
      rw [if_neg (by omega), show (k * 3 + 1) / 3 = k by omega, show (k * 3 + 1) % 3 = 1 by omega] at e1
      rw [if_neg (by omega), show (k * 3 + 2) / 3 = k by omega, show (k * 3 + 2) % 3 = 2 by omega] at e2
      have hf0 := ho.frozen (k * 3)
      have hf1 := ho.frozen (k * 3 + 1)
      have hoi := HI.out k (Nat.le_refl _) hlt
      obtain ⟨SA, sc, hSk, _, hs1, hs2⟩ := hoi.wi
      have hc0 : wr.cell? ⟨g, k * 3, none⟩ = some (.int .i64 (R k).rid) := e0
      have hc1 : wr.cell? ⟨g, k * 3 + 1, none⟩ = some (.int .i64 (R k).due) := e1
      have hc2 : wr.cell? ⟨g, k * 3 + 2, none⟩ = some (.slice SA (R k).vs.length sc) := by rw [e2]; show some (S k) = _; rw [hSk]
      have hvl := HLL.out k hlt
      have hne := own_ne ho hoi rfl
      obtain ⟨L, hL⟩ : ∃ L, (R k).vs.length = L := ⟨_, rfl⟩
      rw [hL] at hc2 hSk hvl hs1
      have HL := Lib.hid hL; clear hL
      have HSK := Lib.hid hSk; clear hSk
      have HOI := Lib.hid hoi; clear hoi
      have HNE := Lib.hid hne; clear hne
      clear e0 e1 e2 ho
      have hkn : (k : Int) < (n : Int) := by omega
      have keep : ∀ s xs, OI base wr s xs → s.ownBlock ≠ some g → OI base ((wr.setCell ⟨g, k * 3, none⟩ (.int .i64 (mk R k))).setCell ⟨g, k * 3 + 1, none⟩ (.int .i64 (mk R k + 1))) s xs := fun s xs h hn =>
        h.of_block fun q hq => (Below.heap_setCell _ _ _ _ (fun e => hn (by rw [hq, e]))).trans (Below.heap_setCell _ _ _ _ (fun e => hn (by rw [hq, e])))
      obtain ⟨lo, hi, hwi, hlo, hrng⟩ := (keep _ _ HOI.out HNE.out).wi1
      rw [HSK.out, HL.out] at hwi
      have HWI := Lib.hid hwi
      have KEEP := Lib.hid keep
      have HRNG := Lib.hid hrng
      clear hwi keep hrng
      go_wp2_with fail
      refine (C_markIntS _ _ _ _ lo hi _ HWI.out (by omega) (by omega)).mono ?_
      rintro e w' ⟨rfl, hw', hch⟩
      have HW := Lib.hid hw'
      have HCH := Lib.hid hch
      clear hw' hch
      go_wp2
      go_roundw
      case rel =>
        have hch := HCH.out
        have hsz := hch.size
        simp only [World.size_setCell] at hsz
        have hgn : g < lo ∨ hi ≤ g := by
          rcases Nat.lt_or_ge g lo with h | h
          · exact .inl h
          · rcases Nat.lt_or_ge g hi with h' | h'
            · exact absurd (HRNG.out g h h') HNE.out
            · exact .inr h'
        have hrow : ∀ j, j < n → j ≠ k → ∀ q, (S j).ownBlock = some q → q < lo ∨ hi ≤ q := fun j hj hjk q hq => by
          rcases Nat.lt_or_ge q lo with h | h
          · exact .inl h
          · rcases Nat.lt_or_ge q hi with h' | h'
            · rcases H3.out j k hj hlt hjk with h0 | h0
              · rw [h0] at hq; cases hq
              · exact absurd (hq.trans (HRNG.out q h h').symm) h0
            · exact .inr h'
        have hgj : ∀ j, j < n → (S j).ownBlock ≠ some g := fun j hj => own_ne H1.out (H2.out j hj) rfl
        refine ⟨k + 1, by omega, by go_num, ?_, by omega, ?_, ?_, fun j hj => ?_, fun j hj1 hj2 => ?_⟩
        · simp only [mk, HL.out]; congr 1; omega
        · exact ((HB.out.setCell (p := ⟨g, k * 3, none⟩) hg0 _).setCell (p := ⟨g, k * 3 + 1, none⟩) hg0 _).trans (hch.below hlo (by simp; omega))
        · exact (((HO.out.set (k * 3) _).set (k * 3 + 1) _).of_block fun q hq => hch.block q (by injection hq with hq; subst hq; simpa using hgl) (by injection hq with hq; subst hq; exact hgn)).congr fun i _ => mark_step R S k i
        · by_cases e : j = k
          · subst e
            have := HW.out.si
            rw [← HSK.out, ← HL.out] at this
            exact this
          · have h1 := HS.out j (by omega)
            have h2 : SI ((wr.setCell ⟨g, k * 3, none⟩ (.int .i64 (mk R k))).setCell ⟨g, k * 3 + 1, none⟩ (.int .i64 (mk R k + 1))) (S j) (mkd R j).n (mkd R j).f :=
              h1.chg_ne (lo := g) (hi := g + 1) (((Chg.refl _ _ _).setCell (p := ⟨g, k * 3, none⟩) (Nat.le_refl _) (Nat.lt_succ_self g) _).setCell (p := ⟨g, k * 3 + 1, none⟩) (Nat.le_refl _) (Nat.lt_succ_self g) _) fun q hq => by
                have := hgj j (by omega)
                rw [hq] at this
                have : q ≠ g := fun e => this (by rw [e])
                omega
            exact h2.chg_ne hch (hrow j (by omega) e)
        · have h1 := KEEP.out _ _ (HI.out j (by omega) hj2) (hgj j hj2)
          exact h1.of_block fun q hq => hch.block q (World.ownsRow.lt h1 q hq).2 (hrow j hj2 (by omega) q hq)
      case measure => simp [intOf]; omega
    · clear ho
      go_wp2
      go_ret
      obtain rfl : k = n := by omega
      refine ⟨rfl, ?_, HB.out⟩
      exact own3.rrs (R := mkd R) (HO.out.congr fun i hi => by rw [if_pos (by omega)]) HS.out
theorem C_heldReviewS (v : Value) (n : Nat) (R : Nat → Rl) (w : World) (h : RRs w v n (mkd R)) (hn : n ≤ 1048576) (hl : ∀ j, j < n → (R j).vs.length ≤ 1048576) :
    Calls Try.prog 43 #[v, .int .i64 1] w fun e w' => e = .returned (.int .i64 (mk R n)) ∧ w = w' := by
  obtain ⟨A, cap, rfl, hr, hc, hm⟩ := h
  have HR := Lib.hid hr; clear hr
  have HLE := Lib.hid (mk_le hl)
  have HLL := Lib.hid hl; clear hl
  go_enter Try.func43, Try.ntmps43
  go_wp2
  go_loop [1, 5] (fun q i => ∃ k : Nat, k ≤ n ∧ i = .int .i64 k ∧ q = .int .i64 (mk R k)) (fun _ i => n - (intOf i).toNat)
  case atStart => exact ⟨0, Nat.zero_le _, rfl, rfl⟩
  case round =>
    obtain ⟨k, hk, rfl, rfl⟩ := hrel
    obtain ⟨hm0, hm1⟩ := HLE.out k hk
    by_cases hlt : k < n
    · obtain ⟨b, off, rfl, hb, hcell⟩ := HR.out (by omega)
      obtain ⟨sv, hsv, hck0, hck1, hck2⟩ := hcell k hlt
      have hsv0 := hsv
      obtain ⟨A1, c1, rfl, hsr1, hsc1, hsm1⟩ := hsv0
      clear hsr1 hcell
      have hvl := HLL.out k hlt
      have hd0 : (mkd R k).rid = mk R k := rfl
      have hd1 : (mkd R k).due = mk R k + 1 := rfl
      have hd2 : (mkd R k).n = (R k).vs.length := rfl
      rw [hd0] at hck0
      rw [hd1] at hck1
      rw [hd2] at hck2 hsc1
      have HSV := Lib.hid (show SI w (.slice A1 (R k).vs.length c1) (R k).vs.length (fun i => mk R k + 1 + 1 + i) from hsv)
      obtain ⟨L, hL⟩ : ∃ L, (R k).vs.length = L := ⟨_, rfl⟩
      rw [hL] at hck2 hsc1 hvl HSV
      have HL := Lib.hid hL
      clear hsv hL hd0 hd1 hd2
      go_wp2_with (go_at_call 40; refine (C_heldIntS _ _ _ _ HSV.out (by omega) (by omega)).mono ?_; rintro e w' ⟨rfl, rfl⟩)
      all_goals (go_round; (case rel => exact ⟨k + 1, by omega, by go_num, by simp only [mk, HL.out]; congr 1; omega⟩); (case measure => simp [intOf]; omega))
    · go_wp2
      go_ret
      obtain rfl : k = n := by omega
      exact ⟨rfl, rfl⟩
end Go.Proofs.Ytcdffikambbleaa
