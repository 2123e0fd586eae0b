/- The program's SameReason. No condition but those stated. -/
import Derived.Test.YtmhelhjjadoiaaaDoorSmD
namespace Go.Proofs.YtmhelhjjadoiaaaDoor
set_option linter.unusedVariables false
set_option linter.unusedSimpArgs false
open Go.RowKit Go.Sort Go.WideMaps Go.Maps
theorem lst_succ (n : Nat) (f : Nat → Int) : lst (n + 1) f = lst n f ++ [f n] := by unfold lst; rw [List.range_succ, List.map_append]; rfl
theorem own_mono {base base' : Nat} {w : World} {e : TypeId} {size : Nat} {v : Value} {n : Nat} {xs : List Value} (hb : base' ≤ base) (h : w.ownsRow base e size v n xs) : w.ownsRow base' e size v n xs := by
  refine ⟨h.1, ?_⟩
  rcases h.2 with h0 | ⟨g, cap, cur, e, h1, h2⟩
  · exact .inl h0
  · exact .inr ⟨g, cap, cur, e, by omega, h2⟩
theorem lst_atT (xs : List ByteArray) (f : ByteArray → Int) : lst xs.length (fun q => f (atT xs q)) = xs.map f := by
  unfold lst
  apply List.ext_getElem
  · simp
  · intro j h1 h2
    rw [List.getElem_map, List.getElem_range, List.getElem_map]
    have hj : j < xs.length := by simpa using h2
    have := atT_lt hj
    rw [List.getElem?_eq_getElem hj] at this
    injection this with this
    rw [this]
theorem words_of {xs : List ByteArray} (h : ∀ x ∈ xs, x.size ≤ 9223372036854775807) : ∃ ws : List Wd, ws.map Wd.s = xs := by
  induction xs with
  | nil => exact ⟨[], rfl⟩
  | cons x xs ih =>
    obtain ⟨ws, e⟩ := ih fun y hy => h y (List.mem_cons_of_mem _ hy)
    exact ⟨⟨x, h x (List.mem_cons_self ..)⟩ :: ws, by rw [List.map_cons, e]⟩
theorem dL_size {R : Nat → Lk} {n : Nat} (hs : ∀ j, j < n → (R j).why.size ≤ 9223372036854775807) : ∀ k, k ≤ n → ∀ x ∈ dL R k, x.size ≤ 9223372036854775807 := by
  intro k
  induction k with
  | zero => intro _ x hx; cases hx
  | succ k ih =>
    intro hk x hx
    by_cases h : cL R k (kS (R k).why) = 0
    · rw [dL_new h] at hx
      rcases List.mem_append.1 hx with hx | hx
      · exact ih (by omega) x hx
      · rw [List.mem_singleton.1 hx]; exact hs k (by omega)
    · rw [dL_old h] at hx
      exact ih (by omega) x hx
set_option maxRecDepth 100000 in
set_option maxHeartbeats 2000000 in
theorem C_SameReasonI (v : Value) (n : Nat) (R : Nat → Lk) (w : World) (h : LKs w v n R) (hs : ∀ j, j < n → (R j).why.size ≤ 9223372036854775807) (hd : accB n R = true) :
    Calls Tryd.prog 52 #[v] w fun e w' => ∃ (v1 v2 : Value) (ws : List Wd), e = .returned (.tuple #[v1, v2, .bool true]) ∧ ws.map Wd.s = dL R n ∧ OT w.heap.size w' v1 ((sortW (cL R n) ws).map Wd.s) ∧ OI w.heap.size w' v2 (((sortW (cL R n) ws).map Wd.s).map fun x => cL R n (kS x)) ∧ Below w.heap.size w w' := by
  have HH := Lib.hid h
  have HS := Lib.hid hs
  obtain ⟨A, cap, rfl, hr, hc, hm⟩ := h
  have HR := Lib.hid hr
  have hn15 := accB_le hd
  have HD := Lib.hid hd
  clear hr hs hd
  have hmm := @run_makeMap Tryd.prog
  go_enter Tryd.func52, Tryd.ntmps52
  go_wp2_with fail
  refine (C_IsAccount _ _ _ _ HH.out HS.out).mono ?_; rintro e w1 ⟨rfl, hb1⟩; rw [HD.out]
  have HB1 := Lib.hid hb1
  clear hb1
  obtain ⟨B, hB⟩ : ∃ B, B = w1.heap.size := ⟨_, rfl⟩
  obtain ⟨w2, hw2⟩ : ∃ w2, w2 = (w1.alloc (.map #[] 0)).alloc (.cells #[.map (some B)] 83) := ⟨_, rfl⟩
  have hsm : SM B w w2 (.slice none 0 0) (dL R 0) 0 (cL R 0) := by
    have hz : (w1.alloc (.map #[] 0)).heap.size = B + 1 := by rw [hB]; simp
    refine ⟨?_, OT.nil _ _, ?_, ?_, ?_, by rw [hB]; exact HB1.out.size⟩
    · rw [hw2]; exact bel_alloc0 (bel_alloc0 HB1.out _) _
    · rw [hw2, hB]; exact (CM.made _ w1).below ((Below.refl _ _).alloc (Nat.le_refl _) _)
    · rw [hw2]
      have := cell_new (w1.alloc (.map #[] 0)) #[.map (some B)] 83 0 _ rfl
      rwa [hz] at this
    · rw [hw2, World.size_alloc, hz]; omega
  have HSM := Lib.hid hsm
  have HB := Lib.hid hB.symm
  have HW2 := Lib.hid (show (w1.alloc (.map #[] 0)).alloc (.cells #[.map (some w1.heap.size)] 83) = w2 by rw [hw2, hB])
  clear hsm hw2 hB
  go_upto_region 5 with fail
  rw [HW2.out, HB.out]
  clear HW2 HB hmm
  go_wp2
  go_loopw [6, 18] (fun s i wr => ∃ k : Nat, k ≤ n ∧ i = .int .i64 k ∧ SM B w wr s (dL R k) k (cL R k)) (fun _ i _ => n - (intOf i).toNat)
  case atStart => exact ⟨0, Nat.zero_le _, rfl, HSM.out⟩
  case round =>
    clear HSM
    obtain ⟨k, hk, rfl, hM⟩ := hrel
    have HM := Lib.hid hM
    by_cases hlt : k < n
    · obtain ⟨b, off, rfl, hb, hcell⟩ := (HR.out.below hM.be) (by omega)
      obtain ⟨c0, c1, c2, c3, c4⟩ := hcell k hlt
      obtain ⟨x, hx⟩ : ∃ x, (R k).why = x := ⟨_, rfl⟩
      obtain ⟨cc, hcc⟩ : ∃ cc, cL R k = cc := ⟨_, rfl⟩
      obtain ⟨q, hq⟩ : ∃ q, cc (kS x) = q := ⟨_, rfl⟩
      have hbd := cL_bd R k (kS x)
      rw [hcc, hq] at hbd
      obtain ⟨hq0, hq1⟩ := hbd
      have hkey := key_str (HS.out k hlt)
      rw [hx] at c4 hkey
      rw [hcc] at HM
      have HX := Lib.hid (And.intro hx (And.intro hcc hq))
      have HKEY := Lib.hid hkey
      have hce := hM.ce
      have hzl := hM.lt
      have hzB := hM.hB
      have hxsl := dL_le R k
      have hk0 : (0 : Int) ≤ (k : Int) := by omega
      have hkn : (k : Int) < (n : Int) := by omega
      have HC1 := Lib.hid (fun (o : Obj) => (HM.out.alloc o).cm)
      clear hcell hM hx hcc hkey hq
      have hq2 : I64 (q + 1) := by unfold I64; omega
      have hkm : k < maxLen := by unfold maxLen; omega
      have e1 : cL R (k + 1) = updC cc (kS x) (q + 1) := by
        obtain ⟨hx, hcc, hq⟩ := HX.out
        show updC (cL R k) (kS (R k).why) (cL R k (kS (R k).why) + 1) = _
        rw [hx, hcc, hq]
      have HE1 := Lib.hid e1
      clear e1
      by_cases h0 : q = 0
      · have e2 : dL R (k + 1) = dL R k ++ [x] := by
          obtain ⟨hx, hcc, hq⟩ := HX.out
          rw [dL_new (by rw [hx, hcc, hq]; exact h0), hx]
        have HE2 := Lib.hid e2
        have HQ0 := Lib.hid (HX.out.2.2.trans h0)
        have HXX := HX
        subst h0
        clear e2
        have hln : (dL R k).length ≤ 1099511627776 := by omega
        have hbs : B + 1 + 1 ≤ ((wr.alloc (.cells #[.int .i64 (R k).tick, .int .i64 (R k).who, .int .i64 (R k).rid, .int .i64 (R k).kind, .string x] 26)).alloc (.cells #[.string x] 9)).heap.size := by simp; omega
        have HOT := Lib.hid (SM.ot ((HM.out.alloc (.cells #[.int .i64 (R k).tick, .int .i64 (R k).who, .int .i64 (R k).rid, .int .i64 (R k).kind, .string x] 26)).alloc (.cells #[.string x] 9)))
        have hcx := cell_new (wr.alloc (.cells #[.int .i64 (R k).tick, .int .i64 (R k).who, .int .i64 (R k).rid, .int .i64 (R k).kind, .string x] 26)) #[.string x] 9 0 _ rfl
        rw [World.size_alloc] at hcx
        have HCX := Lib.hid hcx
        clear hcx
        go_wp2_with (first
          | (at_lookup; refine wp_lookC _ rfl (.tmp 22) (.tmp 24) 83 9 rfl lawStr Tryd.underlying83 B _ _ rfl (HC1.out _) _ _ rfl HKEY.out ?_; rw [HXX.out.2.2])
          | (at_builtin; refine wp_appG _ rfl (.tmp 27) (.tmp 30) rfl (B + 1 + 1) _ _ rfl HOT.out _ x rfl HCX.out hln hbs ?_; intro v1 w3 ho3 hg3; have HM3 := Lib.hid (SM.appG ((HM.out.alloc _).alloc _) ho3 hg3); have hk4 := lk_kept hg3 (fun q hq => (HM.out.ot.lt q hq).2) 4 (.string x) rfl; have hce3 := HM3.out.ce; clear ho3 hg3)
          | (at_lookup; refine wp_lookC _ rfl (.tmp 32) (.tmp 34) 83 9 rfl lawStr Tryd.underlying83 B _ _ rfl HM3.out.cm _ _ rfl HKEY.out ?_; rw [HXX.out.2.2])
          | (at_mapUpdate; refine wp_putC _ rfl (.tmp 32) (.tmp 34) (.tmp 36) 83 9 rfl lawStr Tryd.underlying83 B _ _ rfl HM3.out.cm hkm _ _ (0 + 1) rfl (by first | rfl | simp) HKEY.out (key_lit _) hq2 ?_; intro w4 hc4 hg4; have HM4 := Lib.hid (SM.put HM3.out hc4 hg4); clear hc4 hg4))
        go_roundw
        case rel => exact ⟨k + 1, by omega, by go_num, by rw [HE1.out, HE2.out]; exact HM4.out⟩
        case measure => simp [intOf]; omega
      · have e2 : dL R (k + 1) = dL R k := by
          obtain ⟨hx, hcc, hq⟩ := HX.out
          exact dL_old (by rw [hx, hcc, hq]; exact h0)
        have HE2 := Lib.hid e2
        clear e2
        go_wp2_with (first
          | (at_lookup; refine wp_lookC _ rfl (.tmp 22) (.tmp 24) 83 9 rfl lawStr Tryd.underlying83 B _ _ rfl (HC1.out _) _ _ rfl HKEY.out ?_; rw [HX.out.2.2])
          | (at_lookup; refine wp_lookC _ rfl (.tmp 32) (.tmp 34) 83 9 rfl lawStr Tryd.underlying83 B _ _ rfl (HC1.out _) _ _ rfl HKEY.out ?_; rw [HX.out.2.2])
          | (at_mapUpdate; refine wp_putC _ rfl (.tmp 32) (.tmp 34) (.tmp 36) 83 9 rfl lawStr Tryd.underlying83 B _ _ rfl (HC1.out _) hkm _ _ (q + 1) rfl rfl HKEY.out (key_lit _) hq2 ?_; intro w3 hc3 hg3; have HM3 := Lib.hid (SM.put (HM.out.alloc _) hc3 hg3); clear hc3 hg3))
        go_roundw
        case rel => exact ⟨k + 1, by omega, by go_num, by rw [HE1.out, HE2.out]; exact HM3.out⟩
        case measure => simp [intOf]; omega
    · obtain rfl : k = n := by omega
      obtain ⟨ws, hws⟩ := words_of (dL_size (R := R) (n := k) (fun j hj => HS.out j hj) k (Nat.le_refl _))
      have hwl : ws.length ≤ 1048576 := by have := dL_le R k; rw [← hws, List.length_map] at this; omega
      have HM2 := Lib.hid (show SM B w wr _ (ws.map Wd.s) k (cL R k) by rw [hws]; exact HM.out)
      have HWS := Lib.hid hws
      clear hM hws HM
      go_wp2_with fail
      refine (C_SortW B k _ _ ws _ _ HM2.out hwl).mono ?_; rintro e w5 ⟨rfl, hM5⟩
      obtain ⟨m, hm⟩ : ∃ m, ((sortW (cL R k) ws).map Wd.s).length = m := ⟨_, rfl⟩
      obtain ⟨F, hF⟩ : ∃ F, atT ((sortW (cL R k) ws).map Wd.s) = F := ⟨_, rfl⟩
      have hti := hM5.ot.wt.ti
      rw [hm, hF] at hti
      obtain ⟨SA, sc, rfl, hsr, hsc, hsm⟩ := hti
      have hml : m ≤ k := by
        have h1 : (sortW (cL R k) ws).length = ws.length := List.length_mergeSort _
        have h2 := dL_le R k
        rw [← HWS.out, List.length_map] at h2
        rw [← hm, List.length_map]; omega
      have hfz : ∀ j, j < m → (F j).size ≤ 9223372036854775807 := fun j hj => by
        rw [← hF]
        have hj2 : j < ((sortW (cL R k) ws).map Wd.s).length := by rw [hm]; exact hj
        have hmem : atT ((sortW (cL R k) ws).map Wd.s) j ∈ (sortW (cL R k) ws).map Wd.s := List.mem_of_getElem? (atT_lt hj2)
        obtain ⟨x, _, e⟩ := List.mem_map.1 hmem
        rw [← e]; exact x.le
      have HFZ := Lib.hid hfz
      have HSR := Lib.hid hsr
      have HMF := Lib.hid (And.intro hm hF)
      have HM5 := Lib.hid hM5
      have hw5 := hM5.lt
      obtain ⟨cc, hcc⟩ : ∃ cc, cL R k = cc := ⟨_, rfl⟩
      have hci : ∀ x, I64 (cc x) := fun x => by have := cL_bd R k x; rw [hcc] at this; unfold I64; omega
      have HCI := Lib.hid hci
      have HCC := Lib.hid hcc
      clear hm hF hM5 HM2 hsr hfz hcc hci
      go_wp2
      go_loopw [9, 43] (fun s i wr => ∃ j : Nat, j ≤ m ∧ i = .int .i64 j ∧ OI w5.heap.size wr s (lst j fun q => cc (kS (F q))) ∧ Below w5.heap.size w5 wr) (fun _ i _ => m - (intOf i).toNat)
      case atStart => exact ⟨0, Nat.zero_le _, rfl, OI.nil _ _, Below.refl _ _⟩
      case round =>
        obtain ⟨j, hj, rfl, ho, hB⟩ := hrel
        have HO := Lib.hid ho
        have HB := Lib.hid hB
        by_cases hlt2 : j < m
        · obtain ⟨b, off, rfl, hb, hcell⟩ := (HSR.out.below hB) (by omega)
          have hcj := hcell j hlt2
          have hj0 : (0 : Int) ≤ (j : Int) := by omega
          have hjm : (j : Int) < (m : Int) := by omega
          have hM6 := HM5.out.below hB
          have hce := hM6.ce
          have HCM := Lib.hid (show CM 9 wr B k cc by rw [← HCC.out]; exact hM6.cm)
          have HKEY := Lib.hid (key_str (HFZ.out j hlt2))
          clear hcell hM6 ho
          have hsz5 := hB.size
          go_wp2_with (first
            | (at_lookup; refine wp_lookC _ rfl (.tmp 48) (.tmp 49) 83 9 rfl lawStr Tryd.underlying83 B _ _ rfl HCM.out _ _ rfl HKEY.out ?_)
            | (at_builtin; refine wp_app1 _ rfl (.tmp 47) (.tmp 51) rfl w5.heap.size _ _ rfl (HO.out.alloc _) wr.heap.size (cc (kS (F j))) rfl (by simp) (by rw [lst_length]; omega) (by simp; omega) ?_; intro v1 w6 ho1 hb1; have HO1 := Lib.hid ho1; have HB6 := Lib.hid (show Below w5.heap.size w5 w6 from Below.trans (by have hB := HB.out; (repeat (first | with_reducible exact Below.refl _ _ | with_reducible exact below_regrown _ _ _ | with_reducible refine bel_step0 (by assumption) ?_ | with_reducible refine bel_alloc0 ?_ _ | with_reducible refine bel_regrown0 ?_ _ _ | with_reducible refine bel_regrown ?_ (by first | omega | (simp; done) | (simp; omega)) _ _ | with_reducible refine below_drewN ?_ _ | with_reducible refine Below.drew ?_ | with_reducible refine Below.alloc ?_ (by first | omega | (simp; done) | (simp; omega)) _ | with_reducible refine Below.setCell ?_ (by first | omega | (simp; done) | (simp; omega)) _ | with_reducible refine bel_step (by assumption) (by first | omega | (simp; done) | (simp; omega)) ?_ | with_reducible refine bel_grown (by assumption) (by first | omega | (simp; done) | (simp; omega)) (by first | omega | (simp; done) | (simp; omega)) ?_))) hb1); clear ho1 hb1))
          go_roundw
          case rel => exact ⟨j + 1, by omega, by go_num, by rw [lst_succ]; exact HO1.out, HB6.out⟩
          case measure => simp [intOf]; omega
        · obtain rfl : j = m := by omega
          have hB := HB.out
          go_wp2
          go_ret3
          refine ⟨_, _, ws, rfl, HWS.out, ?_, ?_, bel_step0 hB HM5.out.be⟩
          · have := (HM5.out.below hB).ot
            exact own_mono (by have := HM5.out.hB; omega) this
          · obtain ⟨e1, e2⟩ := HMF.out
            have h1 := HO.out
            rw [← HCC.out] at h1
            have h2 : lst j (fun q => cL R k (kS (F q))) = ((sortW (cL R k) ws).map Wd.s).map (fun x => cL R k (kS x)) := by
              rw [← e2, ← e1]
              exact lst_atT ((sortW (cL R k) ws).map Wd.s) (fun x => cL R k (kS x))
            rw [h2] at h1
            exact own_mono (by have := HM5.out.be.size; omega) h1
end Go.Proofs.YtmhelhjjadoiaaaDoor
