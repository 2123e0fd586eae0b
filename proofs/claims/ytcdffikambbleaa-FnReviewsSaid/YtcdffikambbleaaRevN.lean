/- A vote that is cast, in the reference. No condition but those stated. -/
import Derived.Test.YtcdffikambbleaaRevM
namespace Go.Proofs.Ytcdffikambbleaa
set_option linter.unusedVariables false
set_option linter.unusedSimpArgs false
open Go.RowKit Go.Sort
def castTo (R : Nat → Rv) (r x : Int) (k j : Nat) : Rl := if j < k then castR R r x j else toL (R j)
theorem castTo_miss {R : Nat → Rv} {r x : Int} {k : Nat} (h : ((R k).rid == r) = false) (j : Nat) : castTo R r x k j = castTo R r x (k + 1) j := by
  unfold castTo
  by_cases e : j = k
  · subst e; rw [if_neg (by omega), if_pos (by omega), castR, h]; rfl
  · by_cases e2 : j < k
    · rw [if_pos e2, if_pos (by omega)]
    · rw [if_neg e2, if_neg (by omega)]
theorem castTo_hit {R : Nat → Rv} {r x : Int} {k : Nat} (h : ((R k).rid == r) = true) (j : Nat) :
    (if j = k then (⟨(castTo R r x k k).rid, (castTo R r x k k).due, (castTo R r x k k).vs ++ [x]⟩ : Rl) else castTo R r x k j) = castTo R r x (k + 1) j := by
  unfold castTo
  by_cases e : j = k
  · subst e; rw [if_pos rfl, if_neg (by omega), if_pos (by omega), castR, h]; rfl
  · rw [if_neg e]
    by_cases e2 : j < k
    · rw [if_pos e2, if_pos (by omega)]
    · rw [if_neg e2, if_neg (by omega)]
theorem C_CastVoteS (v : Value) (n : Nat) (R : Nat → Rv) (r x : Int) (w : World) (h : RRs w v n R) :
    Calls Try.prog 41 #[v, .int .i64 r, .int .i64 x] w fun e w' => ∃ v', e = .returned (.tuple #[v', .bool (castOk n R r x)]) ∧ OR w.heap.size w' v' (if castOk n R r x then n else 0) (castR R r x) ∧ Below w.heap.size w w' := by
  have hv := h
  obtain ⟨A0, cap0, rfl, hr, _, _⟩ := h
  clear hr
  have HV := Lib.hid hv; clear hv
  cases hok : okRs n R
  · have hco : castOk n R r x = false := by simp [castOk, hok]
    rw [hco]
    simp only [Bool.false_eq_true, if_false]
    clear hco
    go_enter Try.func41, Try.ntmps41
    go_wp2_with (go_at_call 77; refine (C_l23Good _ _ _ _ HV.out).mono ?_; rintro e w1 ⟨rfl, hb1⟩; simp only [hok])
    go_ret2
    have hbs := hb1.size
    exact ⟨_, rfl, (OR.empty (Nat.le_refl _) _).mono hbs, by (repeat (first | with_reducible exact Below.refl _ _ | with_reducible exact below_regrown _ _ _ | with_reducible refine bel_step0 (by assumption) ?_ | with_reducible refine bel_alloc0 ?_ _ | with_reducible refine bel_regrown0 ?_ _ _ | with_reducible refine bel_regrown ?_ (by first | omega | (simp; done) | (simp; omega)) _ _ | with_reducible refine below_drewN ?_ _ | with_reducible refine Below.drew ?_ | with_reducible refine Below.alloc ?_ (by first | omega | (simp; done) | (simp; omega)) _ | with_reducible refine Below.setCell ?_ (by first | omega | (simp; done) | (simp; omega)) _ | with_reducible refine bel_step (by assumption) (by first | omega | (simp; done) | (simp; omega)) ?_ | with_reducible refine bel_grown (by assumption) (by first | omega | (simp; done) | (simp; omega)) (by first | omega | (simp; done) | (simp; omega)) ?_))⟩
  have hn := okRs_le hok
  have hj := okRs_votes hok
  have HOK := Lib.hid hok
  obtain ⟨bo, hbo⟩ : ∃ b, castOk n R r x = b := ⟨_, rfl⟩
  rw [hbo]
  have HBO := Lib.hid hbo; clear hbo
  go_enter Try.func41, Try.ntmps41
  go_wp2_with (go_at_call 77; refine (C_l23Good _ _ _ _ HV.out).mono ?_; rintro e w1 ⟨rfl, hb1⟩; simp only [hok])
  refine (C_l23Own _ _ _ _ (HV.out.below hb1) (by omega) (fun j hj' => by have := hj j hj'; omega)).mono ?_
  rintro e w2 ⟨v2, rfl, ho2, hb2⟩
  have hB2 := bel_step0 hb2 hb1
  have HO2 := Lib.hid (ho2.mono hb1.size)
  obtain ⟨S0, h1, _, _⟩ := HO2.out
  obtain ⟨A, cap, rfl, hc, hm, hA⟩ := h1.form
  have HB2 := Lib.hid hB2
  have HA := Lib.hid hA
  clear h1 hA hB2 hb2 hb1 ho2 hok
  go_wp2
  go_loopw [9, 10] (fun q i wr => ∃ k : Nat, k ≤ n ∧ i = .int .i64 k ∧ q = .bool (anyB k (fun j => (R j).rid == r)) ∧ OR w.heap.size wr (.slice A n cap) n (castTo R r x k) ∧ Below w.heap.size w wr) (fun _ i _ => n - (intOf i).toNat)
  case atStart => exact ⟨0, Nat.zero_le _, rfl, rfl, HO2.out.congr fun j _ => by unfold castTo; rw [if_neg (by omega)], HB2.out⟩
  case round =>
    obtain ⟨k, hk, rfl, rfl, ho, hB⟩ := hrel
    have HO := Lib.hid ho
    have HB := Lib.hid hB
    have hwl := hB.size
    by_cases hlt : k < n
    · obtain ⟨g, rfl, hg0, _⟩ := HA.out (by omega)
      obtain ⟨S, h1, h2, h3⟩ := ho
      have hgl := (h1.lt g rfl).2
      have e0 := h1.cell (i := k * 3) (by omega)
      have e1 := h1.cell (i := k * 3 + 1) (by omega)
      have e2 := h1.cell (i := k * 3 + 2) (by omega)
      rw [show (k * 3) / 3 = k by omega, show (k * 3) % 3 = 0 by omega] at e0
      rw [show (k * 3 + 1) / 3 = k by omega, show (k * 3 + 1) % 3 = 1 by omega] at e1
      rw [show (k * 3 + 2) / 3 = k by omega, show (k * 3 + 2) % 3 = 2 by omega] at e2
      have hck : castTo R r x k k = toL (R k) := by unfold castTo; rw [if_neg (by omega)]
      have hc0 : wr.cell? ⟨g, k * 3, none⟩ = some (.int .i64 (R k).rid) := by rw [e0, hck]; rfl
      have hc1 : wr.cell? ⟨g, k * 3 + 1, none⟩ = some (.int .i64 (R k).due) := by rw [e1, hck]; rfl
      obtain ⟨SA, sc, hSk, _, hsc⟩ := (h2 k hlt).wi
      rw [hck] at hSk hsc
      have hc2 : wr.cell? ⟨g, k * 3 + 2, none⟩ = some (.slice SA (toL (R k)).vs.length sc) := by rw [e2]; show some (S k) = _; rw [hSk]
      have hoi : OI w.heap.size wr (.slice SA (toL (R k)).vs.length sc) (toL (R k)).vs := by have := h2 k hlt; rw [hSk, hck] at this; exact this
      have hvl : (toL (R k)).vs.length ≤ 1099511627776 := by show (lst _ _).length ≤ _; rw [lst_length]; have := hj k hlt; omega
      obtain ⟨L, hL⟩ : ∃ L, (toL (R k)).vs.length = L := ⟨_, rfl⟩
      rw [hL] at hc2 hoi hSk hvl hsc
      have hf0 := h1.frozen (k * 3)
      have hf1 := h1.frozen (k * 3 + 1)
      have hf2 := h1.frozen (k * 3 + 2)
      obtain ⟨hs1, hs2⟩ := hsc
      have HNE := Lib.hid (show (some g : Option Nat) ≠ (Value.slice SA L sc).ownBlock from fun e => own_ne h1 hoi rfl e.symm)
      have HA1 := Lib.hid (And.intro h1 (And.intro h2 h3))
      have HOI := Lib.hid hoi
      have HL := Lib.hid hL
      have HSK := Lib.hid hSk
      have HJ := Lib.hid hj
      have HC := Lib.hid (And.intro hc0 (And.intro hc1 (And.intro hc2 (And.intro hf0 (And.intro hf1 hf2)))))
      clear h1 h2 h3 hoi hL hSk e0 e1 e2 hck hj hB
      cases hm2 : (R k).rid == r
      · have HM := Lib.hid hm2
        go_wp2
        go_roundw
        case rel => exact ⟨k + 1, by omega, by go_num, by rw [anyB_succ, HM.out, Bool.or_false], (HO.out.below ((Below.refl _ _).alloc (Nat.le_refl _) _)).congr fun j _ => castTo_miss HM.out j, by have := HB.out; (repeat (first | with_reducible exact Below.refl _ _ | with_reducible exact below_regrown _ _ _ | with_reducible refine bel_step0 (by assumption) ?_ | with_reducible refine bel_alloc0 ?_ _ | with_reducible refine bel_regrown0 ?_ _ _ | with_reducible refine bel_regrown ?_ (by first | omega | (simp; done) | (simp; omega)) _ _ | with_reducible refine below_drewN ?_ _ | with_reducible refine Below.drew ?_ | with_reducible refine Below.alloc ?_ (by first | omega | (simp; done) | (simp; omega)) _ | with_reducible refine Below.setCell ?_ (by first | omega | (simp; done) | (simp; omega)) _ | with_reducible refine bel_step (by assumption) (by first | omega | (simp; done) | (simp; omega)) ?_ | with_reducible refine bel_grown (by assumption) (by first | omega | (simp; done) | (simp; omega)) (by first | omega | (simp; done) | (simp; omega)) ?_))⟩
        case measure => simp [intOf]; omega
      · have HM := Lib.hid hm2
        have HNB := Lib.hid (show (some wr.heap.size : Option Nat) ≠ (Value.slice SA L sc).ownBlock from fun e => by have := (World.ownsRow.lt HOI.out _ e.symm).2; omega)
        have hxa : ∀ i v, (#[Value.int .i64 (R k).rid, Value.int .i64 (R k).due, Value.slice SA L sc] : Array Value)[i]? = some v → ((wr.alloc (.cells #[.int .i64 (R k).rid, .int .i64 (R k).due, .slice SA L sc] 27)).alloc (.cells #[.int .i64 x] 3)).cell? ⟨wr.heap.size, i, none⟩ = some v := fun i v h => cell_old _ (by simp) (cell_new _ _ _ _ _ h)
        have HXA := Lib.hid hxa
        have hxf : ∀ i, ((wr.alloc (.cells #[.int .i64 (R k).rid, .int .i64 (R k).due, .slice SA L sc] 27)).alloc (.cells #[.int .i64 x] 3)).frozen? ⟨wr.heap.size, i, none⟩ = false := fun i => by simp
        have HXF := Lib.hid hxf
        have hxo : Below wr.heap.size wr ((wr.alloc (.cells #[.int .i64 (R k).rid, .int .i64 (R k).due, .slice SA L sc] 27)).alloc (.cells #[.int .i64 x] 3)) := ((Below.refl _ _).alloc (Nat.le_refl _) _).alloc (by simp) _
        have HXO := Lib.hid hxo
        clear hxa hxf hxo
        go_wp2_with (at_builtin; refine wp_app1x _ rfl (.tmp 33) (.tmp 35) rfl w.heap.size (.slice SA L sc) (toL (R k)).vs rfl (HOI.out.below HXO.out) (wr.heap.size + 1) x rfl (by simp) (by rw [HL.out]; exact hvl) (by simp; omega) ?_; intro v4 w4 ho4 hg4 hat4 hv4; obtain ⟨A4, c4, hv4⟩ := hv4; subst hv4; have HO4 := Lib.hid ho4; have HG4 := Lib.hid hg4; have HT4 := Lib.hid hat4; have hC := HC.out; obtain ⟨hC0, hC1, hC2, hF0, hF1, hF2⟩ := hC; clear hc0 hc1 hc2 hf0 hf1 hf2; have hz4 := hg4.size; (simp only [World.size_alloc] at hz4); have hl4 : g < w4.heap.size := (by omega); have hl5 : wr.heap.size < w4.heap.size := (by omega); have kb := hg4.block wr.heap.size (by first | omega | (simp; done) | (simp; omega)) HNB.out; have kg := hg4.block g (by first | omega | (simp; done) | (simp; omega)) HNE.out; have hb0 : w4.cell? ⟨wr.heap.size, 0, none⟩ = some (.int .i64 (R k).rid) := (World.cell?_of_block kb).trans (HXA.out 0 _ rfl); have hb1 : w4.cell? ⟨wr.heap.size, 1, none⟩ = some (.int .i64 (R k).due) := (World.cell?_of_block kb).trans (HXA.out 1 _ rfl); have hb2 : w4.cell? ⟨wr.heap.size, 2, none⟩ = some (.slice SA L sc) := (World.cell?_of_block kb).trans (HXA.out 2 _ rfl); have hq2 : w4.frozen? ⟨wr.heap.size, 2, none⟩ = false := (World.frozen?_of_block kb).trans (HXF.out 2); have hg00 : w4.cell? ⟨g, k * 3, none⟩ = some (.int .i64 (R k).rid) := (World.cell?_of_block kg).trans ((HXO.out.cell (p := ⟨g, k * 3, none⟩) hgl).trans hC0); have hg01 : w4.cell? ⟨g, k * 3 + 1, none⟩ = some (.int .i64 (R k).due) := (World.cell?_of_block kg).trans ((HXO.out.cell (p := ⟨g, k * 3 + 1, none⟩) hgl).trans hC1); have hg02 : w4.cell? ⟨g, k * 3 + 2, none⟩ = some (.slice SA L sc) := (World.cell?_of_block kg).trans ((HXO.out.cell (p := ⟨g, k * 3 + 2, none⟩) hgl).trans hC2); have hg10 : w4.frozen? ⟨g, k * 3, none⟩ = false := (World.frozen?_of_block kg).trans ((HXO.out.frozen (p := ⟨g, k * 3, none⟩) hgl).trans hF0); have hg11 : w4.frozen? ⟨g, k * 3 + 1, none⟩ = false := (World.frozen?_of_block kg).trans ((HXO.out.frozen (p := ⟨g, k * 3 + 1, none⟩) hgl).trans hF1); have hg12 : w4.frozen? ⟨g, k * 3 + 2, none⟩ = false := (World.frozen?_of_block kg).trans ((HXO.out.frozen (p := ⟨g, k * 3 + 2, none⟩) hgl).trans hF2); have hgw : g ≠ wr.heap.size := (by omega); have hgw2 : wr.heap.size ≠ g := (by omega); clear kb kg hC0 hC1 hC2 hF0 hF1 hF2 ho4 hg4 hat4)
        have hck : castTo R r x k k = toL (R k) := by unfold castTo; rw [if_neg (by omega)]
        have HKK := Lib.hid hck
        clear hck
        go_roundw
        case rel =>
          have ho4 := HO4.out
          have hat := HT4.out
          have hg4 := HG4.out
          rw [show ((toL (R k)).vs ++ [x]).length = (toL (R k)).vs.length + 1 by simp] at ho4 hat
          obtain ⟨h1, h2, h3⟩ := HA1.out
          have h1a := h1.below HXO.out
          have h2a := fun j (hj : j < n) => (h2 j hj).below HXO.out
          have o4 := h1a.of_block fun q hq => hg4.block q (h1a.lt q hq).2 (fun e => HNE.out (by rw [← e]; exact hq ▸ rfl))
          have hg4' : World.grownBy ((wr.alloc (.cells #[.int .i64 (R k).rid, .int .i64 (R k).due, .slice SA L sc] 27)).alloc (.cells #[.int .i64 x] 3)) w4 (S k).ownBlock := by rw [HSK.out]; exact hg4
          have r4 := old_rows hlt h2a h3 hg4'
          have hune : (Value.slice A4 ((toL (R k)).vs.length + 1) c4).ownBlock ≠ some g := own_ne o4 ho4 rfl
          have hunb : (Value.slice A4 ((toL (R k)).vs.length + 1) c4).ownBlock ≠ some wr.heap.size := fun e => by
            rcases hat with h | h
            · exact HNB.out (e.symm.trans h)
            · rw [h] at e
              simp at e
          have keep : ∀ s xs, OI w.heap.size w4 s xs → s.ownBlock ≠ some wr.heap.size → s.ownBlock ≠ some g → OI w.heap.size (((w4.setCell ⟨wr.heap.size, 2, none⟩ (.slice A4 ((toL (R k)).vs.length + 1) c4)).setCell ⟨g, k * 3, none⟩ (.int .i64 (R k).rid)).setCell ⟨g, k * 3 + 1, none⟩ (.int .i64 (R k).due)) s xs := fun s xs h hn1 hn2 =>
            h.of_block fun q hq => ((Below.heap_setCell _ _ _ _ (fun e => hn2 (by rw [hq, e]))).trans (Below.heap_setCell _ _ _ _ (fun e => hn2 (by rw [hq, e])))).trans (Below.heap_setCell _ _ _ _ (fun e => hn1 (by rw [hq, e])))
          have o5 := ((o4.of_block (w' := w4.setCell ⟨wr.heap.size, 2, none⟩ (.slice A4 ((toL (R k)).vs.length + 1) c4)) fun q hq => Below.heap_setCell _ _ _ _ (fun e => by injection hq with hq; subst hq; exact hgw e)).set (k * 3) (.int .i64 (R k).rid)).set (k * 3 + 1) (.int .i64 (R k).due)
          have o6 := o5.congr (G := fun i => c3 (castTo R r x k (i / 3)).rv (S (i / 3)) (i % 3)) fun i hi => by
            by_cases e1 : i = k * 3 + 1
            · subst e1
              rw [if_pos rfl, show (k * 3 + 1) / 3 = k by omega, show (k * 3 + 1) % 3 = 1 by omega, HKK.out]; rfl
            · rw [if_neg e1]
              by_cases e0 : i = k * 3
              · subst e0
                rw [if_pos rfl, show (k * 3) / 3 = k by omega, show (k * 3) % 3 = 0 by omega, HKK.out]; rfl
              · rw [if_neg e0]
          have hput := OR.put' (R := castTo R r x k) (u := .slice A4 ((toL (R k)).vs.length + 1) c4) (x := x) hlt h2a h3 o6 (keep _ _ (by rw [HKK.out]; exact ho4) hunb hune) (fun j hj hjk => keep _ _ (r4 j hj hjk) (fun e => by have := (World.ownsRow.lt (h2 j hj) _ e).2; omega) (own_ne o4 (r4 j hj hjk) rfl)) (by rw [HSK.out]; exact hat)
          have hB4 : Below w.heap.size w w4 := (HB.out.trans (HXO.out.mono hwl)).grown hg4 (by simp; omega) (fun q hq => (World.ownsRow.lt HOI.out q hq).1)
          exact ⟨k + 1, by omega, by go_num, by rw [anyB_succ, HM.out, Bool.or_true], hput.congr fun j _ => castTo_hit HM.out j, (((hB4.setCell (by exact hwl) _).setCell (by exact hg0) _).setCell (by exact hg0) _).setCell (by exact hg0) _⟩
        case measure => simp [intOf]; omega
    · clear ho hB hj
      obtain rfl : k = n := by omega
      have ho := HO.out
      have HR1 := Lib.hid (ho.congr (T := castR R r x) fun j hj => by unfold castTo; rw [if_pos hj])
      clear ho
      cases hany : anyB k (fun j => (R j).rid == r)
      · have hco : castOk k R r x = false := by simp [castOk, hany]
        have hbo := HBO.out
        rw [hco] at hbo
        subst hbo
        clear hco
        go_wp2
        go_ret2
        exact ⟨_, rfl, OR.empty hwl _, by have := HB.out; (repeat (first | with_reducible exact Below.refl _ _ | with_reducible exact below_regrown _ _ _ | with_reducible refine bel_step0 (by assumption) ?_ | with_reducible refine bel_alloc0 ?_ _ | with_reducible refine bel_regrown0 ?_ _ _ | with_reducible refine bel_regrown ?_ (by first | omega | (simp; done) | (simp; omega)) _ _ | with_reducible refine below_drewN ?_ _ | with_reducible refine Below.drew ?_ | with_reducible refine Below.alloc ?_ (by first | omega | (simp; done) | (simp; omega)) _ | with_reducible refine Below.setCell ?_ (by first | omega | (simp; done) | (simp; omega)) _ | with_reducible refine bel_step (by assumption) (by first | omega | (simp; done) | (simp; omega)) ?_ | with_reducible refine bel_grown (by assumption) (by first | omega | (simp; done) | (simp; omega)) (by first | omega | (simp; done) | (simp; omega)) ?_))⟩
      · have hco : castOk k R r x = okRs k (fun j => (castR R r x j).rv) := by simp [castOk, hany, HOK.out]
        have hbo := HBO.out
        rw [hco] at hbo
        have HBO2 := Lib.hid hbo
        clear hco hbo
        go_wp2_with (go_at_call 77; refine (C_l23Good _ _ _ _ HR1.out.rrs).mono ?_; rintro e w1 ⟨rfl, hb1⟩; rw [HBO2.out]; have HP := Lib.hid (HR1.out.below hb1); have HB1 := Lib.hid (bel_step0 hb1 HB.out); clear hb1; cases bo)
        all_goals go_wp2
        all_goals go_ret2
        all_goals first
          | exact ⟨_, rfl, HP.out, HB1.out⟩
          | exact ⟨_, rfl, OR.empty HB1.out.size _, HB1.out.alloc HB1.out.size _⟩

end Go.Proofs.Ytcdffikambbleaa
