/- The series that a query names: both sides. No condition but those stated. -/
import Derived.Test.YtjmfkenhnfdbjaaDoorQzF
import Derived.Test.YtjmfkenhnfdbjaaDoorQyX
import Derived.Test.YtjmfkenhnfdbjaaDoorEach
import Derived.Maps.AppendAt
namespace Go.Proofs.YtjmfkenhnfdbjaaDoor
set_option linter.unusedVariables false
set_option linter.unusedSimpArgs false
open Go.RowKit Go.Sort
theorem wp_app1x (w : World) {ops : Array Oper} {rest : List Oper} {o : Oper} {a : Act} {Q : Exit → Act → World → Prop} (hgd : o.guard = none) (s x : Operand)
    (ho : o.op = .call { callee := .builtin .append, args := #[s, x], argTypes := #[44, 44] })
    (base : Nat) (v : Value) (xs : List Int) (hs : a.eval s = v) (hown : OI base w v xs) (g : Nat) (y : Int) (hx : a.eval x = .slice (some ⟨g, 0, none⟩) 1 1) (hc : w.cell? ⟨g, 0, none⟩ = some (.int .i64 y))
    (hlen : xs.length ≤ 1099511627776) (hbase : base ≤ w.heap.size)
    (h : ∀ v' w', OI base w' v' (xs ++ [y]) → w.grownBy w' v.ownBlock → (v'.ownBlock = v.ownBlock ∨ v'.ownBlock = some w.heap.size) → (∃ A c, v' = .slice A (xs ++ [y]).length c) → wpList Tryd.prog ops Q rest (a.put o.dst v') w') : wpList Tryd.prog ops Q (o :: rest) a w := by
  obtain ⟨i0, hi, hz0, hz1, hz2⟩ := info_parts info_int
  refine wpList_append_own_at w hgd s x 44 ho base 3 i0 (.int .i64 0) 1 8 Tryd.underlying44 hi hz0 hz1 hz2 rfl (by omega) v xs.length (xs.map (Value.int .i64)) hs hown ⟨g, 0, none⟩ 1 1 [.int .i64 y] hx rfl
    (fun j u hu => ?_) (fun u hu => ?_) (by unfold maxLen; omega) (by omega) hbase (fun v' w' h1 h2 _ h4 => h v' w' (by unfold OI; simpa using h1) h2 h4 ?_)
  · match j, hu with
    | 0, hu => simp only [List.getElem?_cons_zero, Option.some.injEq] at hu; subst hu; simpa [Addr.add] using hc
    | j + 1, hu => simp at hu
  · simp only [List.mem_singleton] at hu; subst hu; rfl
  · have h1' : OI base w' v' (xs ++ [y]) := by unfold OI; simpa using h1
    obtain ⟨A, c, e, _⟩ := h1'.wi
    exact ⟨A, c, e⟩
/-- The series among tests. -/
def sersT (ts : List (Nat × Int)) : List Int := (ts.filter fun p => p.1 == 115).map (·.2)
theorem sersT_snoc (ts : List (Nat × Int)) (c : Nat) (n : Int) : sersT (ts ++ [(c, n)]) = sersT ts ++ (if c = 115 then [n] else []) := by
  unfold sersT
  rw [List.filter_append, List.map_append]
  congr 1
  by_cases h : c = 115
  · subst h; rfl
  · rw [if_neg h, List.filter_cons_of_neg (by simpa using h)]; rfl
theorem sersT_len (ts : List (Nat × Int)) : (sersT ts).length ≤ ts.length := by
  unfold sersT; rw [List.length_map]; exact List.length_filter_le _ _
/-- The series among the first k bytes of a text. -/
def scS (s : ByteArray) : Nat → List Int
  | 0 => []
  | k + 1 => scS s k ++ (if bN s k = 115 then [numF s (k + 1)] else [])
theorem scS_len (s : ByteArray) (k : Nat) : (scS s k).length ≤ k := by
  induction k with
  | zero => simp [scS]
  | succ k ih => simp only [scS, List.length_append]; split <;> simp <;> omega
theorem lets_len (b : Nat → Nat) (a n : Nat) : (lets b a n).length ≤ n := by
  induction n with
  | zero => simp [lets]
  | succ n ih => simp only [lets, List.length_append]; split <;> simp <;> omega
theorem scS_lets (s : ByteArray) (k : Nat) : scS s k = sersT ((lets (bN s) 0 k).map (fun i => (bN s i, (((numA s (i + 1)).map (·.1)).getD 0)))) := by
  induction k with
  | zero => rfl
  | succ k ih =>
    rw [scS, lets, ih, List.map_append]
    by_cases hl : isLet (bN s (0 + k)) = true
    · rw [if_pos hl, List.map_cons, List.map_nil, sersT_snoc, Nat.zero_add]
      congr 1
      have : numF s (k + 1) = ((numA s (k + 1)).map (·.1)).getD 0 := by
        unfold numF; cases numA s (k + 1) <;> rfl
      rw [this]
    · have hn : ¬ bN s k = 115 := fun e => hl (by rw [Nat.zero_add, e]; rfl)
      rw [if_neg hl, if_neg hn, List.map_nil, List.append_nil, List.append_nil]
theorem digE_dig (s : ByteArray) : ∀ k a i, a ≤ i → i < digE s k a → dB s i = true := by
  intro k
  induction k with
  | zero => intro a i h1 h2; simp only [digE] at h2; omega
  | succ k ih =>
    intro a i h1 h2
    simp only [digE] at h2
    split at h2
    · rename_i hd
      by_cases e : i = a
      · subst e; exact hd
      · exact ih (a + 1) i (by omega) h2
    · omega
theorem numDig (s : ByteArray) : NumDig (bN s) (numA s) := by
  intro a p h i h1 h2
  unfold numA at h
  split at h
  · cases h
  · injection h with h
    subst h
    exact (dB_iff.1 (digE_dig s _ _ i h1 h2)).2
theorem read_parse {s : ByteArray} {o : Out} (h : readQ s = some o) : parseQ s.size (bN s) (numA s) = some o := by
  unfold readQ at h
  split at h
  · exact h
  · cases h
theorem scS_tests {s : ByteArray} {o : Out} (h : readQ s = some o) : scS s s.size = sersT o.q.tests := by
  have := parse_spl (numOk s) (numDig s) (read_parse h)
  rw [scS_lets, ← this.ts, Nat.sub_zero]
theorem tests_len {s : ByteArray} {o : Out} (h : readQ s = some o) : o.q.tests.length ≤ s.size := by
  have := parse_spl (numOk s) (numDig s) (read_parse h)
  rw [← this.ts, List.length_map, Nat.sub_zero]
  exact lets_len _ _ _
/-- The series named. -/
def snL (s : ByteArray) : List Int := if goodQ s then once (scS s s.size) else []
theorem snL_len (s : ByteArray) (h : s.size ≤ 1048576) : (snL s).length ≤ 1048576 := by
  unfold snL; split
  · have := once_len (scS s s.size); have := scS_len s s.size; omega
  · simp
theorem has_mem {xs : List Int} {x : Int} : (anyB xs.length fun j => ai xs j == x) = decide (x ∈ xs) := by
  rw [Bool.eq_iff_iff, anyB_iff, decide_eq_true_eq, List.mem_iff_getElem]
  constructor
  · rintro ⟨j, hj, e⟩
    have := ai_lt hj
    rw [List.getElem?_eq_getElem hj] at this
    injection this with this
    exact ⟨j, hj, this.trans (by simpa using e)⟩
  · rintro ⟨j, hj, e⟩
    have := ai_lt hj
    rw [List.getElem?_eq_getElem hj] at this
    injection this with this
    exact ⟨j, hj, by rw [← this, e]; simp⟩
theorem put_same {zs : List Int} {x : Int} (h : decide (x ∈ once zs) = true) : once (zs ++ [x]) = once zs := by
  rw [once_snoc, put_has (once_srt zs) (of_decide_eq_true h)]
set_option maxHeartbeats 8000000 in
theorem C_SeriesS (s : ByteArray) (hs : s.size ≤ 1048576) (w : World) :
    Calls Tryd.prog 26 #[.string s] w fun e w' => ∃ v', e = .returned (.tuple #[v', .bool (goodQ s)]) ∧ OI w.heap.size w' v' (snL s) ∧ Below w.heap.size w w' := by
  obtain ⟨w0, hw0⟩ : ∃ w0, w0 = w.alloc (.cells #[] 3) := ⟨_, rfl⟩
  have HW0 := Lib.hid hw0.symm
  have O0 : OI w.heap.size w0 (.slice (some ⟨w.heap.size, 0, none⟩) 0 0) [] := by rw [hw0]; exact OI.empty (Nat.le_refl _)
  have B0 : Below w.heap.size w w0 := by rw [hw0]; exact (Below.refl _ _).alloc (Nat.le_refl _) _
  have HC := Lib.hid (C_l19Good s hs w0)
  have HO0 := Lib.hid O0
  have HB0 := Lib.hid B0
  clear hw0 O0 B0
  cases hg : goodQ s
  · have HV := Lib.hid (show snL s = [] by unfold snL; rw [hg]; rfl)
    rw [hg] at HC
    clear hg
    go_enter Tryd.func26, Tryd.ntmps26
    go_upto_region 2 with fail
    rw [HW0.out]
    go_wp2_with fail
    refine HC.out.mono ?_; rintro e w1 ⟨rfl, hb1⟩
    go_wp2
    go_ret2
    rw [HV.out]
    exact ⟨_, rfl, HO0.out.below hb1, bel_step0 hb1 HB0.out⟩
  · have HV := Lib.hid (show snL s = once (scS s s.size) by unfold snL; rw [hg]; rfl)
    rw [hg] at HC
    clear hg
    go_enter Tryd.func26, Tryd.ntmps26
    go_upto_region 2 with fail
    rw [HW0.out]
    go_wp2_with fail
    refine HC.out.mono ?_; rintro e w1 ⟨rfl, hb1⟩
    have HO1 := Lib.hid (HO0.out.below hb1)
    have HB1 := Lib.hid (bel_step0 hb1 HB0.out)
    clear hb1 HC HW0
    go_wp2
    go_loopw [4, 5] (fun q i wr => ∃ k : Nat, k ≤ s.size ∧ i = .int .i64 k ∧ OI w.heap.size wr q (once (scS s k)) ∧ Below w.heap.size w wr) (fun _ i _ => s.size - (intOf i).toNat)
    case atStart => exact ⟨0, Nat.zero_le _, rfl, HO1.out, HB1.out⟩
    case round =>
      obtain ⟨k, hk, rfl, ho, hB⟩ := hrel
      have HO := Lib.hid ho
      have HB := Lib.hid hB
      have hbz := hB.size
      clear HO0 HO1 HB0 HB1 hB
      by_cases hlt : k < s.size
      · have hk2 : (k : Int) < (s.size : Int) := by omega
        have hk0 : (0 : Int) ≤ (k : Int) := by omega
        have HSC := Lib.hid (show scS s (k + 1) = scS s k ++ (if bN s k = 115 then [numF s (k + 1)] else []) from rfl)
        have hbk := bN_at hlt
        by_cases hc : s[k].toNat = 115
        · have e1 : ((s[k].toNat : Int) != 115) = false := by rw [hc]; rfl
          have HS2 := Lib.hid (show scS s (k + 1) = scS s k ++ [numF s (k + 1)] by rw [HSC.out, hbk, if_pos hc])
          have HN := Lib.hid (C_l19Number s hs (k + 1) hlt wr)
          rw [show ((k + 1 : Nat) : Int) = (k : Int) + 1 by omega] at HN
          obtain ⟨x, hx⟩ : ∃ x, numF s (k + 1) = x := ⟨_, rfl⟩
          rw [hx] at HN HS2
          have hlen : (once (scS s k)).length ≤ 1048576 := Nat.le_trans (once_len _) (Nat.le_trans (scS_len s k) (by omega))
          clear hx hbk HSC ho
          cases hh : decide (x ∈ once (scS s k))
          · have HH := Lib.hid (show (anyB (once (scS s k)).length fun j => ai (once (scS s k)) j == x) = false by rw [has_mem, hh])
            clear hh
            go_wp2_with fail
            refine HN.out.mono ?_; rintro e w2 ⟨rfl, hb2⟩
            have HO2 := Lib.hid (HO.out.below hb2)
            have HB2 := Lib.hid (bel_step0 hb2 HB.out)
            clear hb2
            go_wp2_with fail
            refine (C_l1Has _ _ _ _ _ HO2.out.wi.si).mono ?_; rintro e w2' ⟨rfl, rfl⟩
            rw [HH.out]
            go_wp2_with fail
            refine (C_l1Put w.heap.size _ _ x _ HO2.out hlen HB2.out.size).mono ?_; rintro e w3 ⟨v3, rfl, ho3, hb3⟩
            have HO3 := Lib.hid ho3
            have HB3 := Lib.hid (bel_step0 hb3 HB2.out)
            clear ho3 hb3
            go_wp2
            go_roundw
            case rel => exact ⟨k + 1, by omega, by go_num, by rw [HS2.out, once_snoc]; exact HO3.out, HB3.out⟩
            case measure => simp [intOf]; omega
          · have HH := Lib.hid (show (anyB (once (scS s k)).length fun j => ai (once (scS s k)) j == x) = true by rw [has_mem, hh])
            have HP := Lib.hid (put_same hh)
            clear hh
            go_wp2_with fail
            refine HN.out.mono ?_; rintro e w2 ⟨rfl, hb2⟩
            have HO2 := Lib.hid (HO.out.below hb2)
            have HB2 := Lib.hid (bel_step0 hb2 HB.out)
            clear hb2
            go_wp2_with fail
            refine (C_l1Has _ _ _ _ _ HO2.out.wi.si).mono ?_; rintro e w2' ⟨rfl, rfl⟩
            rw [HH.out]
            go_wp2
            go_roundw
            case rel => exact ⟨k + 1, by omega, by go_num, by rw [HS2.out, HP.out]; exact HO2.out, HB2.out⟩
            case measure => simp [intOf]; omega
        · have e1 : ((s[k].toNat : Int) != 115) = true := by rw [bne_iff_ne]; omega
          have HS2 := Lib.hid (show scS s (k + 1) = scS s k by rw [HSC.out, hbk, if_neg hc, List.append_nil])
          clear hbk HSC ho
          go_wp2
          go_roundw
          case rel => exact ⟨k + 1, by omega, by go_num, by rw [HS2.out]; exact HO.out, HB.out⟩
          case measure => simp [intOf]; omega
      · obtain rfl : k = s.size := by omega
        clear ho
        go_wp2
        go_ret2
        rw [HV.out]
        exact ⟨_, rfl, HO.out, HB.out⟩
/-- The state of the program's visit. -/
def StS (P : Nat) (w : World) (ts : List (Nat × Int)) : Prop :=
  P < w.heap.size ∧ ∃ v, w.cell? ⟨P, 0, none⟩ = some v ∧ w.frozen? ⟨P, 0, none⟩ = false ∧ OI (P + 1) w v (sersT ts)
set_option maxHeartbeats 4000000 in
theorem C_serClo (P : Nat) (w : World) (c : Nat) (n : Int) (ts : List (Nat × Int)) (hl : ts.length < 1048576) (h : StS P w ts) :
    Calls Tryd.prog 50 #[.agg #[.int .u8 (c : Int), .int .i64 n, .slice none 0 0], .pointer (some ⟨P, 0, none⟩)] w fun e w' => e = .returned (.tuple #[]) ∧ StS P w' (ts ++ [(c, n)]) ∧ Kp P w w' := by
  obtain ⟨hP, v, hv, hf, ho⟩ := h
  obtain ⟨w0, hw0⟩ : ∃ w0, w0 = w.alloc (.cells #[.int .u8 ((⟨(c : Int), n, none, 0, 0⟩ : Tq)).c, .int .i64 ((⟨(c : Int), n, none, 0, 0⟩ : Tq)).n, .slice ((⟨(c : Int), n, none, 0, 0⟩ : Tq)).A ((⟨(c : Int), n, none, 0, 0⟩ : Tq)).m ((⟨(c : Int), n, none, 0, 0⟩ : Tq)).k] 62) := ⟨_, rfl⟩
  have HW0 := Lib.hid hw0.symm
  have B0 : Below w.heap.size w w0 := by rw [hw0]; exact (Below.refl _ _).alloc (Nat.le_refl _) _
  have hz0 : w0.heap.size = w.heap.size + 1 := by rw [hw0]; simp
  have q0 : w0.cell? ⟨w.heap.size, 0, none⟩ = some (.int .u8 (c : Int)) := by rw [hw0]; simp
  have q1 : w0.cell? ⟨w.heap.size, 1, none⟩ = some (.int .i64 n) := by rw [hw0]; simp
  have hv0 := (B0.cell (p := ⟨P, 0, none⟩) hP).trans hv
  have hf0 := (B0.frozen (p := ⟨P, 0, none⟩) hP).trans hf
  have HO := Lib.hid (ho.below B0)
  have HK := Lib.hid (Kp.of_below hP B0)
  have HSN := Lib.hid (sersT_snoc ts c n)
  have hle := sersT_len ts
  obtain ⟨A, cap, rfl, hr, hc, hm⟩ := ho.wi.si
  have hP0 : P < w0.heap.size := by omega
  have HP0 := Lib.hid hP0
  clear hr ho hw0 B0 hv hf hz0
  by_cases h115 : c = 115
  · have e1 : ((c : Int) == 115) = true := by rw [h115]; rfl
    have HS2 := Lib.hid (show sersT (ts ++ [(c, n)]) = sersT ts ++ [n] by rw [HSN.out, if_pos h115])
    clear h115
    go_enter Tryd.func50, Tryd.ntmps50
    go_upto_region 1 with fail
    rw [HW0.out]
    go_wp2_with (at_builtin; refine wp_app1x _ rfl (.tmp 6) (.tmp 9) rfl (P + 1) _ _ rfl (HO.out.alloc _) w0.heap.size n rfl (by simp) (by omega) (by simp; omega) ?_; intro v1 w1 ho1 hg1 ha1 hs1; obtain ⟨A1, c1, hs1⟩ := hs1; subst hs1; have HO1 := Lib.hid ho1; have HG1 := Lib.hid hg1; have HA1 := Lib.hid ha1; have hne : some P ≠ (Value.slice A (sersT ts).length cap).ownBlock := (fun e => by have := (World.ownsRow.lt HO.out P e.symm).1; omega); have HNE := Lib.hid hne; have hb1 := hg1.block P (by simp; omega) hne; have hv1 := (World.cell?_of_block (a := ⟨P, 0, none⟩) hb1).trans (cell_old _ hP0 hv0); have hf1 := (World.frozen?_of_block (a := ⟨P, 0, none⟩) hb1).trans ((((Below.refl _ _).alloc (Nat.le_refl _) _).frozen (p := ⟨P, 0, none⟩) hP0).trans hf0); clear ho1 hg1 ha1 hne hb1)
    go_end0
    have hll : (sersT ts ++ [n]).length = (sersT ts).length + 1 := by simp
    rw [hll] at HO1 HA1
    have hcs : (w1.setCell ⟨P, 0, none⟩ (.slice A1 ((sersT ts).length + 1) c1)).cell? ⟨P, 0, none⟩ = some (.slice A1 ((sersT ts).length + 1) c1) := World.cell?_setCell_same _ _ _ hv1
    have hsz := HG1.out.size
    simp only [World.size_alloc] at hsz
    have hP0 := HP0.out
    refine ⟨rfl, ⟨by simp [World.setCell]; omega, _, hcs, by rw [World.frozen?_setCell]; exact hf1, ?_⟩, HK.out.trans ⟨HG1.out.os, HG1.out.tape, HG1.out.output, by simp [World.setCell]; omega, fun b hb hn => ?_⟩⟩
    · rw [HS2.out]
      exact HO1.out.of_block fun g hg => heap_setCell_other _ ⟨P, 0, none⟩ g _ (by have := (World.ownsRow.lt HO1.out g hg).1; show g ≠ P; omega)
    · have hbP : b ≠ P := fun e => hn (.inl e)
      have hbO : (Value.slice A (sersT ts).length cap).ownBlock ≠ some b := fun e => hn (.inr ⟨_, hv0, e⟩)
      refine ⟨(heap_setCell_other _ ⟨P, 0, none⟩ b _ hbP).trans ((HG1.out.block b (by simp; omega) (fun e => hbO e.symm)).trans (((Below.refl _ _).alloc (Nat.le_refl _) _).block b hb)), ?_⟩
      rintro (e | ⟨v', hv', e2⟩)
      · exact hbP e
      · rw [hcs] at hv'
        injection hv' with hv'
        subst hv'
        rcases HA1.out with h | h
        · exact hbO (h.symm.trans e2)
        · rw [h] at e2
          injection e2 with e2
          simp only [World.size_alloc] at e2
          omega
  · have e1 : ((c : Int) == 115) = false := by rw [beq_eq_false_iff_ne]; omega
    have HS2 := Lib.hid (show sersT (ts ++ [(c, n)]) = sersT ts by rw [HSN.out, if_neg h115, List.append_nil])
    go_enter Tryd.func50, Tryd.ntmps50
    go_upto_region 1 with fail
    rw [HW0.out]
    go_wp2
    go_end0
    exact ⟨rfl, ⟨by omega, _, hv0, hf0, by rw [HS2.out]; exact HO.out⟩, HK.out⟩
theorem visS (P : Nat) : Vis P (StS P) 50 where
  own := fun w ts h => by
    obtain ⟨hP, v, hv, hf, ho⟩ := h
    refine ⟨hP, fun b hb => ?_⟩
    rcases hb with rfl | ⟨v', hv', h2⟩
    · exact ⟨Nat.le_refl _, hP⟩
    · rw [hv] at hv'
      injection hv' with hv'
      subst hv'
      have := World.ownsRow.lt ho b h2
      omega
  bel := fun w w' ts hb h => by
    obtain ⟨hP, v, hv, hf, ho⟩ := h
    exact ⟨Nat.lt_of_lt_of_le hP hb.size, v, (hb.cell (p := ⟨P, 0, none⟩) hP).trans hv, (hb.frozen (p := ⟨P, 0, none⟩) hP).trans hf, ho.below hb⟩
  call := fun w c n ts hl h => C_serClo P w c n ts hl h
set_option maxHeartbeats 8000000 in
theorem C_SeriesI (s : ByteArray) (hs : s.size ≤ 1048576) (w : World) (hkp : Pk w) :
    Calls Tryd.prog 27 #[.string s] w fun e w' => ∃ v', e = .returned (.tuple #[v', .bool (goodQ s)]) ∧ OI w.heap.size w' v' (snL s) ∧ Below w.heap.size w w' := by
  have HC := Lib.hid (C_readQuery s hs w hkp)
  clear hkp
  cases hg : goodQ s
  · have HV := Lib.hid (show snL s = [] by unfold snL; rw [hg]; rfl)
    rw [hg] at HC
    clear hg
    go_enter Tryd.func27, Tryd.ntmps27
    go_wp2_with fail
    refine HC.out.mono ?_; rintro e w1 ⟨x, mo, rfl, hrd⟩
    have HB := Lib.hid hrd.1
    clear hrd HC
    go_wp2
    go_ret2
    rw [HV.out]
    exact ⟨_, rfl, OI.nil _ _, HB.out.alloc HB.out.size _⟩
  · obtain ⟨o, ho⟩ := good_some hg
    have HV := Lib.hid (show snL s = once (sersT o.q.tests) by unfold snL; rw [hg, scS_tests ho]; rfl)
    have hlen := tests_len ho
    have HO := Lib.hid ho
    rw [hg] at HC
    clear hg ho
    go_enter Tryd.func27, Tryd.ntmps27
    go_wp2_with fail
    refine HC.out.mono ?_; rintro e w1 ⟨x, mo, rfl, hrd⟩
    have hb1 := hrd.1
    obtain ⟨W1, hW1⟩ : ∃ W, W = w1.alloc (.cells #[.int .u8 (x).c, .int .i64 (x).n, .slice (x).A (x).m (x).k] 62) := ⟨_, rfl⟩
    have bW : Below w1.heap.size w1 W1 := by rw [hW1]; exact (Below.refl _ _).alloc (Nat.le_refl _) _
    have QX : QBox W1 w1.heap.size x := by rw [hW1]; exact QBox.new w1 x
    have hzW : w1.heap.size < W1.heap.size := by rw [hW1]; simp
    obtain ⟨W2, hW2⟩ : ∃ W, W = W1.alloc (.cells #[.slice none 0 0] 44) := ⟨_, rfl⟩
    have bW2 : Below W1.heap.size W1 W2 := by rw [hW2]; exact (Below.refl _ _).alloc (Nat.le_refl _) _
    have hz2 : W2.heap.size = W1.heap.size + 1 := by rw [hW2]; simp
    have hst : StS W1.heap.size W2 [] := ⟨by omega, .slice none 0 0, by rw [hW2]; exact cell_new _ _ _ _ _ rfl, by rw [hW2]; simp, OI.nil _ _⟩
    have HT := Lib.hid ((TR.inside _ _ ((hrd.2 o HO.out).2.below bW)).below bW2)
    obtain ⟨q0, q1, q2⟩ := QX.below hzW bW2
    have HW1 := Lib.hid hW1.symm
    have HW2 := Lib.hid hW2.symm
    have HB1 := Lib.hid (bel_step0 bW hb1)
    have HB2 := Lib.hid (bel_step0 bW2 (bel_step0 bW hb1))
    have HE := Lib.hid (C_eachS W1.heap.size (StS W1.heap.size) (visS _) (fun g => g < W1.heap.size) (fun g h => h) o.q x W2 [] HT.out (readQ_wf HO.out) hst (by simp; omega))
    have HST := Lib.hid hst
    have HZ := Lib.hid hz2
    clear hrd HC hb1 bW hW1 QX hW2 bW2 hst hz2
    go_upto_region 2 with fail
    rw [HW1.out]
    go_upto_region 5 with fail
    rw [HW2.out]
    go_wp2_with fail
    refine HE.out.mono ?_; rintro e w3 ⟨rfl, hs3, hk3⟩
    rw [List.nil_append] at hs3
    obtain ⟨hP3, v3, hv3, hf3, ho3⟩ := hs3
    have HO3 := Lib.hid ho3
    have HB3 := Lib.hid (show Below w.heap.size w w3 from HB2.out.trans ((hk3.below (fun b hb => (((visS _).own _ _ HST.out).2 b hb).1) (by rw [HZ.out]; omega)).mono HB1.out.size))
    have hl3 := sersT_len o.q.tests
    clear hk3 ho3 hf3 q0 q1 q2
    go_wp2_with fail
    refine (C_eachOnce (W1.heap.size + 1) _ _ _ HO3.out (by omega) (by omega)).mono ?_; rintro e w4 ⟨v4, rfl, ho4, hb4⟩
    have HO4 := Lib.hid ho4
    have HB4 := Lib.hid (HB3.out.trans (hb4.mono (by have := HB1.out.size; omega)))
    clear ho4 hb4 hv3
    go_wp2
    go_ret2
    rw [HV.out]
    exact ⟨_, rfl, OI.mono (by have := HB1.out.size; omega) HO4.out, HB4.out⟩
end Go.Proofs.YtjmfkenhnfdbjaaDoor
