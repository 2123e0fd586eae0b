/- Deciders: the program. No condition but those stated. -/
import Derived.Test.YtcdffikambbleaaRevW
namespace Go.Proofs.Ytcdffikambbleaa
set_option linter.unusedVariables false
set_option linter.unusedSimpArgs false
open Go.RowKit Go.Sort
theorem C_CloneAt (wb : World) (v : Value) (n : Nat) (f : Nat → Int) (w : World) (h : SI wb v n f) (hb : Below wb.heap.size wb w) (hn : n ≤ 1099511627776) :
    Calls Try.prog 94 #[v] w fun e w' => ∃ v', e = .returned v' ∧ OI wb.heap.size w' v' (lst n f) ∧ Below wb.heap.size wb w' :=
  (C_CloneInt v n f w (h.below hb) hn).mono fun e w' ⟨v', h1, h2, h3⟩ => ⟨v', h1, h2.mono hb.size, bel_step0 h3 hb⟩
theorem C_DecidersI (v : Value) (n : Nat) (R : Nat → Rv) (w : World) (h : RRs w v n R) :
    Calls Try.prog 47 #[v] w fun e w' => ∃ v', e = .returned (.tuple #[v', .bool (okRs n R)]) ∧ OSS w.heap.size w' v' (if okRs n R then (outR R n).length else 0) (at_ (outR R n)) ∧ Below w.heap.size w w' := by
  have hv := h
  obtain ⟨A, cap, rfl, hr, hc, hm⟩ := h
  have HV := Lib.hid hv; clear hv
  have HR := Lib.hid hr; clear hr
  cases hok : okRs n R
  · simp only [Bool.false_eq_true, if_false]
    go_enter Try.func47, Try.ntmps47
    go_wp2_with (go_at_call 24; refine (C_AreReviewsI _ _ _ _ HV.out).mono ?_; rintro e w1 ⟨rfl, hb1⟩; simp only [hok])
    go_ret2
    exact ⟨_, rfl, OSS.nil _ _ _, hb1⟩
  have hn := okRs_le hok
  have hj := okRs_votes hok
  have HLE := Lib.hid (outR_le hj)
  have HJ := Lib.hid hj; clear hj
  simp only [if_true]
  go_enter Try.func47, Try.ntmps47
  go_wp2_with (go_at_call 24; refine (C_AreReviewsI _ _ _ _ HV.out).mono ?_; rintro e w1 ⟨rfl, hb1⟩; simp only [hok])
  have HB1 := Lib.hid hb1
  clear hok hb1
  go_loopw [4, 13] (fun q i wr => ∃ k : Nat, k ≤ n ∧ i = .int .i64 k ∧ OSS w.heap.size wr q (outR R k).length (at_ (outR R k)) ∧ Below w.heap.size w wr) (fun _ i _ => n - (intOf i).toNat)
  case atStart => exact ⟨0, Nat.zero_le _, rfl, OSS.nil _ _ _, HB1.out⟩
  case round =>
    obtain ⟨k, hk, rfl, ho, hB⟩ := hrel
    clear HB1
    by_cases hlt : k < n
    · obtain ⟨b, off, rfl, hb, hcell⟩ := HR.out (by omega)
      obtain ⟨sv, hsv, hck0, hck1, hck2⟩ := hcell k hlt; have hsv0 := hsv; obtain ⟨A1, c1, rfl, hsr1, hsc1, hsm1⟩ := hsv0; clear hsr1
      clear hcell
      have hjk := HJ.out k hlt
      obtain ⟨L, hL⟩ : ∃ L, (R k).n = L := ⟨_, rfl⟩
      rw [hL] at hck2 hsv hsc1 hjk
      have g0 := (hB.cell (p := ⟨b, off + k * 3, none⟩) hb).trans hck0
      have g1 := (hB.cell (p := ⟨b, off + k * 3 + 1, none⟩) hb).trans hck1
      have g2 := (hB.cell (p := ⟨b, off + k * 3 + 2, none⟩) hb).trans hck2
      have HSV := Lib.hid hsv
      have HL := Lib.hid hL
      have hwl := hB.size
      have hB2 : Below w.heap.size w (wr.alloc (.cells #[.int .i64 (R k).rid, .int .i64 (R k).due, .slice A1 L c1] 27)) := hB.alloc hwl _
      have HB := Lib.hid hB2
      have HO := Lib.hid (ho.below ((Below.refl _ wr).alloc (Nat.le_refl _) (.cells #[.int .i64 (R k).rid, .int .i64 (R k).due, .slice A1 L c1] 27)))
      have HUB := Lib.hid (show ∀ q, u4.ownBlock = some q → q < wr.heap.size from fun q hq => by obtain ⟨S, h1, _⟩ := ho; exact (h1.lt q hq).2)
      have hkn : (k : Int) < (n : Int) := by omega
      clear hck0 hck1 hck2 hsv hL hB ho hB2
      go_wp2
      obtain ⟨g, hg⟩ : ∃ g, g = wr.heap.size := ⟨_, rfl⟩
      have hwg : w.heap.size ≤ g := by omega
      obtain ⟨wo, hwo⟩ : ∃ wo : World, wo = wr.alloc (.cells #[.int .i64 (R k).rid, .int .i64 (R k).due, .slice A1 L c1] 27) := ⟨_, rfl⟩
      have hzo : g < wo.heap.size := by rw [hwo, hg]; simp
      have q0 : wo.cell? ⟨g, 0, none⟩ = some (.int .i64 (R k).rid) := by rw [hwo, hg]; simp
      have q2 : wo.cell? ⟨g, 2, none⟩ = some (.slice A1 L c1) := by rw [hwo, hg]; simp
      rw [← hwo] at HB HO
      rw [← hwo, ← hg]
      have hne : u4.ownBlock ≠ some g := fun e => by have := HUB.out g e; omega
      clear hwo g0 g1 g2 hg
      clear HUB
      have HQ := Lib.hid (And.intro q0 q2)
      have HNE := Lib.hid hne
      clear q0 q2 hne
      go_loopw [4, 20] (fun q i wi => ∃ m : Nat, m ≤ L ∧ i = .int .i64 m ∧ OSS w.heap.size wi q (outR R k ++ inR (R k) m).length (at_ (outR R k ++ inR (R k) m)) ∧ Below w.heap.size w wi ∧ q.ownBlock ≠ some g ∧
        g < wi.heap.size ∧ wi.cell? ⟨g, 0, none⟩ = some (.int .i64 (R k).rid) ∧ wi.cell? ⟨g, 2, none⟩ = some (.slice A1 L c1)) (fun _ i _ => L - (intOf i).toNat)
      case atStart => exact ⟨0, Nat.zero_le _, rfl, by simpa [inR] using HO.out, HB.out, HNE.out, hzo, HQ.out.1, HQ.out.2⟩
      case round =>
        clear HO HB HQ HNE hzo hwl
        obtain ⟨m, hm2, rfl, ho, hB, hne, hgl, q0, q2⟩ := hrel
        by_cases hlm : m < L
        · have hwl := hB.size
          have HSI := Lib.hid (HSV.out.below hB)
          obtain ⟨V6, hV6⟩ : ∃ V, verdict L (R k).f = V := ⟨_, rfl⟩
          obtain ⟨V8, hV8⟩ : ∃ V, verdict (L - 1) (dropAt (R k).f m) = V := ⟨_, rfl⟩
          have hdec : decB (R k) m = (V8 != V6) := by unfold decB; rw [HL.out, hV6, hV8]
          have HV6 := Lib.hid hV6
          have HV8 := Lib.hid hV8
          have HDEC := Lib.hid hdec
          have HOB := Lib.hid (And.intro ho hB)
          have HQ := Lib.hid (And.intro q0 q2)
          have HNE := Lib.hid hne
          have hml : (m : Int) < (L : Int) := by omega
          have r2 : ∀ W, Below wr.heap.size wr W → W.cell? ⟨g, 2, none⟩ = some (.slice A1 L c1) := fun W hW => (hW.cell (p := ⟨g, 2, none⟩) hgl).trans q2
          have CA1 : ∀ W, Below wr.heap.size wr W → Calls Try.prog 79 #[.slice A1 L c1] W fun e w' => e = .returned (.int .i64 V6) ∧ W = w' := fun W hW => (C_verdictFor _ _ _ _ (HSI.out.below hW)).mono fun e w' hh => ⟨hh.1.trans (by rw [HV6.out]), hh.2⟩
          have CA2 : ∀ W u, SI W u (L - 1) (dropAt (R k).f m) → Calls Try.prog 79 #[u] W fun e w' => e = .returned (.int .i64 V8) ∧ W = w' := fun W u hW => (C_verdictFor _ _ _ _ hW).mono fun e w' hh => ⟨hh.1.trans (by rw [HV8.out]), hh.2⟩
          have hm7 : IntKind.i64.wrap ((m : Int) + 1) = (m : Int) + 1 := by rw [IntKind.wrap_i64]; omega
          clear hV6 hV8 hdec ho hB hne q0 q2
          go_upto_region 10 with fail
          go_region_held3 (fun W => Below wr.heap.size wr W) (((repeat (first | with_reducible exact Below.refl _ _ | with_reducible exact below_regrown _ _ _ | with_reducible refine bel_step0 (by assumption) ?_ | with_reducible refine bel_alloc0 ?_ _ | with_reducible refine bel_regrown0 ?_ _ _ | with_reducible refine bel_regrown ?_ (by first | omega | (simp; done) | (simp; omega)) _ _ | with_reducible refine below_drewN ?_ _ | with_reducible refine Below.drew ?_ | with_reducible refine Below.alloc ?_ (by first | omega | (simp; done) | (simp; omega)) _ | with_reducible refine Below.setCell ?_ (by first | omega | (simp; done) | (simp; omega)) _ | with_reducible refine bel_step (by assumption) (by first | omega | (simp; done) | (simp; omega)) ?_ | with_reducible refine bel_grown (by assumption) (by first | omega | (simp; done) | (simp; omega)) (by first | omega | (simp; done) | (simp; omega)) ?_)))) (first | (go_at_call 94; refine (C_CloneAt wr _ _ _ _ HSI.out (by (repeat (first | with_reducible exact Below.refl _ _ | with_reducible exact below_regrown _ _ _ | with_reducible refine bel_step0 (by assumption) ?_ | with_reducible refine bel_alloc0 ?_ _ | with_reducible refine bel_regrown0 ?_ _ _ | with_reducible refine bel_regrown ?_ (by first | omega | (simp; done) | (simp; omega)) _ _ | with_reducible refine below_drewN ?_ _ | with_reducible refine Below.drew ?_ | with_reducible refine Below.alloc ?_ (by first | omega | (simp; done) | (simp; omega)) _ | with_reducible refine Below.setCell ?_ (by first | omega | (simp; done) | (simp; omega)) _ | with_reducible refine bel_step (by assumption) (by first | omega | (simp; done) | (simp; omega)) ?_ | with_reducible refine bel_grown (by assumption) (by first | omega | (simp; done) | (simp; omega)) (by first | omega | (simp; done) | (simp; omega)) ?_))) (by omega)).mono ?_; rintro e w' ⟨v1, rfl, ho1, hb1'⟩) | (go_at_call 93; refine (C_DeleteAt wr _ _ _ _ _ ho1 (by (repeat (first | with_reducible exact Below.refl _ _ | with_reducible exact below_regrown _ _ _ | with_reducible refine bel_step0 (by assumption) ?_ | with_reducible refine bel_alloc0 ?_ _ | with_reducible refine bel_regrown0 ?_ _ _ | with_reducible refine bel_regrown ?_ (by first | omega | (simp; done) | (simp; omega)) _ _ | with_reducible refine below_drewN ?_ _ | with_reducible refine Below.drew ?_ | with_reducible refine Below.alloc ?_ (by first | omega | (simp; done) | (simp; omega)) _ | with_reducible refine Below.setCell ?_ (by first | omega | (simp; done) | (simp; omega)) _ | with_reducible refine bel_step (by assumption) (by first | omega | (simp; done) | (simp; omega)) ?_ | with_reducible refine bel_grown (by assumption) (by first | omega | (simp; done) | (simp; omega)) (by first | omega | (simp; done) | (simp; omega)) ?_))) hlm).mono ?_; rintro e w' ⟨v2, rfl, hs2, hb2⟩) | (go_at_call 79; with_reducible refine (CA1 _ (by (repeat (first | with_reducible exact Below.refl _ _ | with_reducible exact below_regrown _ _ _ | with_reducible refine bel_step0 (by assumption) ?_ | with_reducible refine bel_alloc0 ?_ _ | with_reducible refine bel_regrown0 ?_ _ _ | with_reducible refine bel_regrown ?_ (by first | omega | (simp; done) | (simp; omega)) _ _ | with_reducible refine below_drewN ?_ _ | with_reducible refine Below.drew ?_ | with_reducible refine Below.alloc ?_ (by first | omega | (simp; done) | (simp; omega)) _ | with_reducible refine Below.setCell ?_ (by first | omega | (simp; done) | (simp; omega)) _ | with_reducible refine bel_step (by assumption) (by first | omega | (simp; done) | (simp; omega)) ?_ | with_reducible refine bel_grown (by assumption) (by first | omega | (simp; done) | (simp; omega)) (by first | omega | (simp; done) | (simp; omega)) ?_)))).mono ?_; rintro e w' ⟨rfl, rfl⟩) | (go_at_call 79; with_reducible refine (CA2 _ _ hs2).mono ?_; rintro e w' ⟨rfl, rfl⟩))
          have hBW : Below w.heap.size w w' := bel_step0 hb2 HOB.out.2
          have p0 : w'.cell? ⟨g, 0, none⟩ = some (.int .i64 (R k).rid) := (hb2.cell (p := ⟨g, 0, none⟩) hgl).trans HQ.out.1
          have p2 : w'.cell? ⟨g, 2, none⟩ = some (.slice A1 L c1) := (hb2.cell (p := ⟨g, 2, none⟩) hgl).trans HQ.out.2
          have hos := HOB.out.1.below hb2
          have hle := HLE.out k (by omega)
          have hle2 := inR_le (R k) m
          have hlen : (outR R k ++ inR (R k) m).length ≤ 1048576 := by rw [List.length_append]; omega
          have hbs := hBW.size
          have hgs : g < w'.heap.size := Nat.lt_of_lt_of_le hgl hb2.size
          have HOS := Lib.hid hos
          have HBW := Lib.hid hBW
          have HLEN := Lib.hid hlen
          have HP := Lib.hid (And.intro p0 p2)
          clear ho1 hb1' hs2 hb2 hos hle hle2 hBW hlen CA1 CA2 r2 p2 HOB HQ
          by_cases hd : V8 = V6
          · subst hd
            have hdec := HDEC.out
            simp only [bne_self_eq_false] at hdec
            have HDEC := Lib.hid hdec
            clear hdec
            go_wp2
            go_roundw
            case rel => exact ⟨m + 1, by omega, by go_num, by rw [inR_no HDEC.out]; exact HOS.out, HBW.out, HNE.out, hgs, HP.out.1, HP.out.2⟩
            case measure => simp [intOf]; omega
          · have hdec : decB (R k) m = true := by rw [HDEC.out]; simp [hd]
            have HDEC := Lib.hid hdec
            clear hdec
            have s0 : ∀ o o', ((w'.alloc o).alloc o').cell? ⟨g, 0, none⟩ = some (.int .i64 (R k).rid) := fun o o' => by rw [World.cell?_alloc_lt _ _ _ (by simp; omega), World.cell?_alloc_lt _ _ _ (by simpa using hgs)]; exact p0
            go_wp2_with (at_builtin; refine wp_appRow w' rfl (.tmp 35) (.tmp 40) rfl w.heap.size _ _ _ _ _ rfl HOS.out rfl HLEN.out hbs ?_; intro v4 w4 ho4 hb4 hk4 hv4)
            go_roundw
            case rel =>
              have hos := ho4.congr (snoc_at _ _)
              have hblk := hk4 g hgs HNE.out
              have hz4 := hb4.size
              simp only [World.size_alloc] at hz4
              refine ⟨m + 1, by omega, by go_num, ?_, ?_, ?_, by omega, (World.cell?_of_block (a := ⟨g, 0, none⟩) hblk).trans HP.out.1, (World.cell?_of_block (a := ⟨g, 2, none⟩) hblk).trans HP.out.2⟩
              · have e : outR R k ++ inR (R k) (m + 1) = (outR R k ++ inR (R k) m) ++ [[(R k).rid, (m : Int)]] := by rw [inR_yes HDEC.out, List.append_assoc]
                rw [e, List.length_append]; exact hos
              · exact ((HBW.out.alloc (by simpa using hbs) _).alloc (by simp; omega) _).trans hb4
              · rcases hv4 with h | h
                · rw [h]; exact HNE.out
                · rw [h]; intro e; injection e with e; omega
            case measure => simp [intOf]; omega
        · obtain rfl : m = L := by omega
          go_wp2
          go_roundw
          case rel => exact ⟨k + 1, by omega, by go_num, by simpa [outR, HL.out] using ho, hB⟩
          case measure => simp [intOf]; omega
    · go_wp2
      go_ret2
      obtain rfl : k = n := by omega
      exact ⟨_, rfl, ho, hB⟩
end Go.Proofs.Ytcdffikambbleaa
