/- Looks without a reason among some words: the program and the reference. No condition but those stated. -/
import Derived.Test.YtmhelhjjadoiaaaDoorLkC
import Derived.Test.YtmhelhjjadoiaaaDoorIntsF
namespace Go.Proofs.YtmhelhjjadoiaaaDoor
set_option linter.unusedVariables false
set_option linter.unusedSimpArgs false
open Go.RowKit Go.Sort
def inB (n : Nat) (f : Nat → ByteArray) (x : ByteArray) : Bool := anyB n fun j => (f j).toList == x.toList
theorem toList_inj {x y : ByteArray} (h : x.toList = y.toList) : x = y := by
  rw [Lib.toList_data, Lib.toList_data] at h
  cases x; cases y
  simp at h
  rw [h]
theorem inB_word {n : Nat} {f : Nat → ByteArray} {x : ByteArray} (hw : ∀ j, j < n → wordB (f j) = true) (h : inB n f x = true) : wordB x = true := by
  obtain ⟨j, hj, he⟩ := anyB_iff.1 h
  have := toList_inj (by simpa using he : (f j).toList = x.toList)
  rw [← this]; exact hw j hj
theorem C_IndexT (v : Value) (n : Nat) (f : Nat → ByteArray) (x : ByteArray) (w : World) (h : TI w v n f) :
    Calls Tryd.prog 89 #[v, .string x] w fun e w' => e = .returned (.int .i64 (firstB n fun j => x.toList == (f j).toList)) ∧ w = w' := by
  obtain ⟨A, cap, rfl, hr, hc, hm⟩ := h
  have HR := Lib.hid hr; clear hr
  go_enter Tryd.func89, Tryd.ntmps89
  go_wp2
  go_loop [8] (fun i => ∃ k : Nat, k ≤ n ∧ i = .int .i64 k ∧ anyB k (fun j => x.toList == (f j).toList) = false) (fun i => n - (intOf i).toNat)
  case atStart => exact ⟨0, Nat.zero_le _, rfl, rfl⟩
  case round =>
    obtain ⟨k, hk, rfl, ha⟩ := hrel
    have HA := Lib.hid ha; clear ha
    by_cases hlt : k < n
    · obtain ⟨b, off, rfl, hb, hcell⟩ := HR.out (by omega)
      have hck := hcell k hlt
      clear hcell
      cases he : (x.toList == (f k).toList)
      · go_wp2
        go_round
        case rel => exact ⟨k + 1, by omega, by go_num, anyB_next HA.out he⟩
        case measure => simp [intOf]; omega
      · go_wp2
        go_ret
        exact ⟨ret_int (firstB_some hlt HA.out he).symm, rfl⟩
    · obtain rfl : k = n := by omega
      go_wp2
      go_ret
      exact ⟨ret_int (firstB_none HA.out).symm, rfl⟩
theorem C_ContainsT (v : Value) (n : Nat) (f : Nat → ByteArray) (x : ByteArray) (w : World) (h : TI w v n f) :
    Calls Tryd.prog 71 #[v, .string x] w fun e w' => e = .returned (.bool (inB n f x)) ∧ w = w' := by
  go_enter Tryd.func71, Tryd.ntmps71
  go_wp2_with (go_at_call 89; refine (C_IndexT _ _ _ _ _ h).mono ?_; rintro e w' ⟨rfl, rfl⟩)
  go_ret
  exact ⟨ret_bool (by rw [firstB_ge]; unfold inB; exact anyB_congr fun j _ => BEq.comm), rfl⟩
theorem C_unword (s : ByteArray) (w : World) (hs : s.size ≤ 9223372036854775807) :
    Calls Tryd.prog 70 #[.string s] w fun e w' => e = .returned (.bool (!wordB s)) ∧ Below w.heap.size w w' := by
  go_enter Tryd.func70, Tryd.ntmps70
  go_wp2_with (go_at_call 58; refine (C_isWord _ _ (by assumption)).mono ?_; rintro e w' ⟨rfl, hb'⟩; obtain ⟨hc', hf'⟩ := bcell hb'; (try simp only [World.size_drew] at hc' hf'); have hz' := bsize hb'; (try simp at hz'); have ht' := (by first | exact lt_le5 hz' | exact lt_le4 hz' | exact lt_le3 hz' | exact lt_le2 hz' | exact lt_le1 hz' | exact lt_le0 hz' : ∀ n, n < _ → n < w'.heap.size); (first | (obtain ⟨hs1, hs2, hs3, hs4, hs5⟩ := sz5 hz') | (obtain ⟨hs1, hs2, hs3, hs4⟩ := sz4 hz') | (obtain ⟨hs1, hs2, hs3⟩ := sz3 hz') | (obtain ⟨hs1, hs2⟩ := sz2 hz') | (have hs1 := sz1 hz') | skip); (try have hq0 : w.heap.size < w'.heap.size := by omega); (try have hq1 : w.heap.size + 1 < w'.heap.size := by omega); (try have hq2 : w.heap.size + 1 + 1 < w'.heap.size := by omega); (try have hq3 : w.heap.size + 1 + 1 + 1 < w'.heap.size := by omega))
  go_ret
  exact ⟨rfl, by (repeat (first | with_reducible exact Below.refl _ _ | with_reducible exact below_regrown _ _ _ | with_reducible refine bel_step0 (by assumption) ?_ | with_reducible refine bel_alloc0 ?_ _ | with_reducible refine bel_regrown0 ?_ _ _ | with_reducible refine bel_regrown ?_ (by first | omega | (simp; done) | (simp; omega)) _ _ | with_reducible refine below_drewN ?_ _ | with_reducible refine Below.drew ?_ | with_reducible refine Below.alloc ?_ (by first | omega | (simp; done) | (simp; omega)) _ | with_reducible refine Below.setCell ?_ (by first | omega | (simp; done) | (simp; omega)) _ | with_reducible refine bel_step (by assumption) (by first | omega | (simp; done) | (simp; omega)) ?_ | with_reducible refine bel_grown (by assumption) (by first | omega | (simp; done) | (simp; omega)) (by first | omega | (simp; done) | (simp; omega)) ?_))⟩
theorem C_IndexFuncW (v : Value) (n : Nat) (f : Nat → ByteArray) (w : World) (h : TI w v n f) (hs : ∀ j, j < n → (f j).size ≤ 9223372036854775807) :
    Calls Tryd.prog 88 #[v, .func (.func 70) #[] #[]] w fun e w' => e = .returned (.int .i64 (firstB n fun j => !wordB (f j))) ∧ Below w.heap.size w w' := by
  obtain ⟨A, cap, rfl, hr, hc, hm⟩ := h
  have HR := Lib.hid hr; clear hr
  have HS := Lib.hid hs; clear hs
  go_enter Tryd.func88, Tryd.ntmps88
  go_wp2
  go_loopw [8] (fun i wr => ∃ k : Nat, k ≤ n ∧ i = .int .i64 k ∧ anyB k (fun j => !wordB (f j)) = false ∧ Below w.heap.size w wr) (fun i _ => n - (intOf i).toNat)
  case atStart => exact ⟨0, Nat.zero_le _, rfl, rfl, Below.refl _ _⟩
  case round =>
    obtain ⟨k, hk, rfl, ha, hB⟩ := hrel
    have HA := Lib.hid ha; clear ha
    by_cases hlt : k < n
    · obtain ⟨bb, off, rfl, hb, hcell⟩ := (HR.out.below hB) (by omega)
      have hck := hcell k hlt
      have hsk := HS.out k hlt
      clear hcell
      cases hok : wordB (f k)
      all_goals
        go_wp2_with (go_at_call 70; refine (C_unword _ _ hsk).mono ?_; rintro e w' ⟨rfl, hb'⟩; rw [hok])
      · go_ret
        exact ⟨ret_int (firstB_some hlt HA.out (by rw [hok]; rfl)).symm, by (repeat (first | with_reducible exact Below.refl _ _ | with_reducible exact below_regrown _ _ _ | with_reducible refine bel_step0 (by assumption) ?_ | with_reducible refine bel_alloc0 ?_ _ | with_reducible refine bel_regrown0 ?_ _ _ | with_reducible refine bel_regrown ?_ (by first | omega | (simp; done) | (simp; omega)) _ _ | with_reducible refine below_drewN ?_ _ | with_reducible refine Below.drew ?_ | with_reducible refine Below.alloc ?_ (by first | omega | (simp; done) | (simp; omega)) _ | with_reducible refine Below.setCell ?_ (by first | omega | (simp; done) | (simp; omega)) _ | with_reducible refine bel_step (by assumption) (by first | omega | (simp; done) | (simp; omega)) ?_ | with_reducible refine bel_grown (by assumption) (by first | omega | (simp; done) | (simp; omega)) (by first | omega | (simp; done) | (simp; omega)) ?_))⟩
      · go_roundw
        case rel => exact ⟨k + 1, by omega, by go_num, anyB_next HA.out (by rw [hok]; rfl), by (repeat (first | with_reducible exact Below.refl _ _ | with_reducible exact below_regrown _ _ _ | with_reducible refine bel_step0 (by assumption) ?_ | with_reducible refine bel_alloc0 ?_ _ | with_reducible refine bel_regrown0 ?_ _ _ | with_reducible refine bel_regrown ?_ (by first | omega | (simp; done) | (simp; omega)) _ _ | with_reducible refine below_drewN ?_ _ | with_reducible refine Below.drew ?_ | with_reducible refine Below.alloc ?_ (by first | omega | (simp; done) | (simp; omega)) _ | with_reducible refine Below.setCell ?_ (by first | omega | (simp; done) | (simp; omega)) _ | with_reducible refine bel_step (by assumption) (by first | omega | (simp; done) | (simp; omega)) ?_ | with_reducible refine bel_grown (by assumption) (by first | omega | (simp; done) | (simp; omega)) (by first | omega | (simp; done) | (simp; omega)) ?_))⟩
        case measure => simp [intOf]; omega
    · obtain rfl : k = n := by omega
      go_wp2
      go_ret
      exact ⟨ret_int (firstB_none HA.out).symm, hB⟩
theorem C_ContainsFuncW (v : Value) (n : Nat) (f : Nat → ByteArray) (w : World) (h : TI w v n f) (hs : ∀ j, j < n → (f j).size ≤ 9223372036854775807) :
    Calls Tryd.prog 69 #[v, .func (.func 70) #[] #[]] w fun e w' => e = .returned (.bool (anyB n fun j => !wordB (f j))) ∧ Below w.heap.size w w' := by
  go_enter Tryd.func69, Tryd.ntmps69
  go_wp2_with (go_at_call 88; refine (C_IndexFuncW _ _ _ _ h hs).mono ?_; rintro e w' ⟨rfl, hb'⟩)
  go_ret
  exact ⟨ret_bool firstB_ge, hb'⟩
/-- The places of the first n that p picks. -/
def unL (p : Nat → Bool) : Nat → List Int
  | 0 => []
  | k + 1 => if p k then unL p k ++ [(k : Int)] else unL p k
theorem unL_le (p : Nat → Bool) (n : Nat) : (unL p n).length ≤ n := by
  induction n with
  | zero => simp [unL]
  | succ n ih => simp only [unL]; split <;> (try rw [List.length_append, List.length_singleton]) <;> omega
theorem unL_yes {p : Nat → Bool} {k : Nat} (h : p k = true) : unL p (k + 1) = unL p k ++ [(k : Int)] := by simp only [unL, h]; rfl
theorem unL_no {p : Nat → Bool} {k : Nat} (h : p k = false) : unL p (k + 1) = unL p k := by simp only [unL, h]; rfl
def ueB (m : Nat) (f : Nat → ByteArray) (R : Nat → Lk) (k : Nat) : Bool := !inB m f (R k).why
def ueOk (n : Nat) (R : Nat → Lk) (m : Nat) (f : Nat → ByteArray) : Bool := accB n R && decide ((m : Int) ≤ 10) && allB m (fun j => wordB (f j))
def ueL (n : Nat) (R : Nat → Lk) (m : Nat) (f : Nat → ByteArray) : List Int := if ueOk n R m f then unL (ueB m f R) n else []
theorem ueL_le (n : Nat) (R : Nat → Lk) (m : Nat) (f : Nat → ByteArray) : (ueL n R m f).length ≤ 15 := by
  unfold ueL
  split
  · rename_i h
    unfold ueOk at h
    simp only [Bool.and_eq_true] at h
    have := unL_le (ueB m f R) n
    have := accB_le h.1.1
    omega
  · simp
set_option maxHeartbeats 4000000 in
theorem C_UnexplainedI (v u : Value) (n : Nat) (R : Nat → Lk) (m : Nat) (f : Nat → ByteArray) (w : World) (h : LKs w v n R) (hs : ∀ j, j < n → (R j).why.size ≤ 9223372036854775807) (hu : TI w u m f) (hf : ∀ j, j < m → (f j).size ≤ 9223372036854775807) :
    Calls Tryd.prog 38 #[v, u] w fun e w' => ∃ v', e = .returned (.tuple #[v', .bool (ueOk n R m f)]) ∧ OI w.heap.size w' v' (ueL n R m f) ∧ Below w.heap.size w w' := by
  have HH := Lib.hid h
  have HS := Lib.hid hs
  have HU := Lib.hid hu
  have HF := Lib.hid hf
  obtain ⟨A, cap, rfl, hr, hc, hm⟩ := h
  obtain ⟨A2, cap2, rfl, hr2, hc2, hm2⟩ := hu
  have HR := Lib.hid hr
  clear hr hr2 hs hf
  cases hd : accB n R
  · have e0 : ueOk n R m f = false := by unfold ueOk; rw [hd]; rfl
    have e1 : ueL n R m f = [] := by unfold ueL; rw [e0]; rfl
    rw [e0, e1]; clear e0 e1
    go_enter Tryd.func38, Tryd.ntmps38
    go_wp2_with fail
    refine (C_IsAccount _ _ _ _ HH.out HS.out).mono ?_; rintro e w1 ⟨rfl, hb1⟩; rw [hd]
    go_wp2_with fail
    go_ret2
    exact ⟨_, rfl, OI.nil _ _, hb1⟩
  by_cases hm10 : (m : Int) ≤ 10
  case neg =>
    have e0 : ueOk n R m f = false := by unfold ueOk; rw [decide_eq_false hm10]; simp
    have e1 : ueL n R m f = [] := by unfold ueL; rw [e0]; rfl
    rw [e0, e1]; clear e0 e1
    go_enter Tryd.func38, Tryd.ntmps38
    go_wp2_with fail
    refine (C_IsAccount _ _ _ _ HH.out HS.out).mono ?_; rintro e w1 ⟨rfl, hb1⟩; rw [hd]
    go_wp2_with fail
    go_ret2
    exact ⟨_, rfl, OI.nil _ _, hb1⟩
  have hba := anyB_eq m (fun j => !wordB (f j))
  simp only [Bool.not_not] at hba
  cases hw : allB m (fun j => wordB (f j))
  · have e0 : ueOk n R m f = false := by unfold ueOk; rw [hw]; simp
    have e1 : ueL n R m f = [] := by unfold ueL; rw [e0]; rfl
    rw [e0, e1]; clear e0 e1
    rw [hw] at hba
    have HBA := Lib.hid hba
    clear hba hw
    go_enter Tryd.func38, Tryd.ntmps38
    go_wp2_with fail
    refine (C_IsAccount _ _ _ _ HH.out HS.out).mono ?_; rintro e w1 ⟨rfl, hb1⟩; rw [hd]
    go_wp2_with fail
    refine (C_ContainsFuncW _ _ _ _ (HU.out.below hb1) HF.out).mono ?_; rintro e w2 ⟨rfl, hb2⟩; rw [HBA.out]
    go_wp2_with fail
    go_ret2
    exact ⟨_, rfl, OI.nil _ _, bel_step0 hb2 hb1⟩
  have e0 : ueOk n R m f = true := by unfold ueOk; rw [hd, hw, decide_eq_true hm10]; rfl
  have e1 : ueL n R m f = unL (ueB m f R) n := by unfold ueL; rw [e0]; rfl
  rw [e0, e1]; clear e0 e1
  rw [hw] at hba
  have HBA := Lib.hid hba
  have hn15 := accB_le hd
  obtain ⟨p, hp⟩ : ∃ p, ueB m f R = p := ⟨_, rfl⟩
  rw [hp]
  have HP := Lib.hid (fun j => congrFun hp j)
  clear hba hw hp
  go_enter Tryd.func38, Tryd.ntmps38
  go_wp2_with fail
  refine (C_IsAccount _ _ _ _ HH.out HS.out).mono ?_; rintro e w1 ⟨rfl, hb1⟩; rw [hd]
  go_wp2_with fail
  refine (C_ContainsFuncW _ _ _ _ (HU.out.below hb1) HF.out).mono ?_; rintro e w2 ⟨rfl, hb2⟩; rw [HBA.out]
  have HB2 := Lib.hid (bel_step0 hb2 hb1)
  clear hb1 hb2
  go_wp2_with fail
  go_loopw [6, 23] (fun o i wr => ∃ k : Nat, k ≤ n ∧ i = .int .i64 k ∧ OI w.heap.size wr o (unL p k) ∧ Below w.heap.size w wr) (fun _ i _ => n - (intOf i).toNat)
  case atStart => exact ⟨0, Nat.zero_le _, rfl, OI.nil _ _, HB2.out⟩
  case round =>
    obtain ⟨k, hk, rfl, ho, hB⟩ := hrel
    have HO := Lib.hid ho; clear ho
    have HBB := Lib.hid hB
    have hbs := hB.size
    by_cases hlt : k < n
    · obtain ⟨b, off, rfl, hb, hcell⟩ := (HR.out.below hB) (by omega)
      obtain ⟨c0, c1, c2, c3, c4⟩ := hcell k hlt
      have hll := unL_le p k
      have hpk : (!inB m f (R k).why) = p k := HP.out k
      have HT := Lib.hid (HU.out.below hB)
      have hin : inB m f (R k).why = !p k := by rw [← hpk]; simp
      have HI := Lib.hid hin
      clear hcell hB hpk hin
      cases hok : p k
      · have HI2 := Lib.hid (HI.out.trans (by rw [hok]))
        go_wp2_with fail
        refine (C_ContainsT _ _ _ _ _ (HT.out.below ((Below.refl _ _).alloc (Nat.le_refl _) _))).mono ?_; rintro e w' ⟨rfl, rfl⟩; rw [HI2.out]
        go_wp2
        go_roundw
        case rel => exact ⟨k + 1, by omega, by go_num, by rw [unL_no hok]; exact HO.out.alloc _, by have hB := HBB.out; (repeat (first | with_reducible exact Below.refl _ _ | with_reducible exact below_regrown _ _ _ | with_reducible refine bel_step0 (by assumption) ?_ | with_reducible refine bel_alloc0 ?_ _ | with_reducible refine bel_regrown0 ?_ _ _ | with_reducible refine bel_regrown ?_ (by first | omega | (simp; done) | (simp; omega)) _ _ | with_reducible refine below_drewN ?_ _ | with_reducible refine Below.drew ?_ | with_reducible refine Below.alloc ?_ (by first | omega | (simp; done) | (simp; omega)) _ | with_reducible refine Below.setCell ?_ (by first | omega | (simp; done) | (simp; omega)) _ | with_reducible refine bel_step (by assumption) (by first | omega | (simp; done) | (simp; omega)) ?_ | with_reducible refine bel_grown (by assumption) (by first | omega | (simp; done) | (simp; omega)) (by first | omega | (simp; done) | (simp; omega)) ?_))⟩
        case measure => simp [intOf]; omega
      · have HI2 := Lib.hid (HI.out.trans (by rw [hok]))
        go_wp2_with fail
        refine (C_ContainsT _ _ _ _ _ (HT.out.below ((Below.refl _ _).alloc (Nat.le_refl _) _))).mono ?_; rintro e w' ⟨rfl, rfl⟩; rw [HI2.out]
        go_wp2_with (at_builtin; refine wp_app1 _ rfl (.tmp 33) (.tmp 35) rfl w.heap.size _ _ rfl ((HO.out.alloc _).alloc _) (wr.heap.size + 1) (k : Int) rfl (by simp) (by omega) (by simp; omega) ?_; intro v1 w1 ho1 hb1; have HO1 := Lib.hid ho1; have HB1 := Lib.hid (show Below w.heap.size w w1 from Below.trans (by have hB := HBB.out; (repeat (first | with_reducible exact Below.refl _ _ | with_reducible exact below_regrown _ _ _ | with_reducible refine bel_step0 (by assumption) ?_ | with_reducible refine bel_alloc0 ?_ _ | with_reducible refine bel_regrown0 ?_ _ _ | with_reducible refine bel_regrown ?_ (by first | omega | (simp; done) | (simp; omega)) _ _ | with_reducible refine below_drewN ?_ _ | with_reducible refine Below.drew ?_ | with_reducible refine Below.alloc ?_ (by first | omega | (simp; done) | (simp; omega)) _ | with_reducible refine Below.setCell ?_ (by first | omega | (simp; done) | (simp; omega)) _ | with_reducible refine bel_step (by assumption) (by first | omega | (simp; done) | (simp; omega)) ?_ | with_reducible refine bel_grown (by assumption) (by first | omega | (simp; done) | (simp; omega)) (by first | omega | (simp; done) | (simp; omega)) ?_))) hb1); clear ho1 hb1)
        go_roundw
        case rel => exact ⟨k + 1, by omega, by go_num, by rw [unL_yes hok]; exact HO1.out, HB1.out⟩
        case measure => simp [intOf]; omega
    · obtain rfl : k = n := by omega
      go_wp2
      go_ret2
      exact ⟨_, rfl, HO.out, HBB.out⟩
end Go.Proofs.YtmhelhjjadoiaaaDoor
