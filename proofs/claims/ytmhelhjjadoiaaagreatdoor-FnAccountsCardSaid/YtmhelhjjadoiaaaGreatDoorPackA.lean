/- Texts of this claim in one: LkG, LkH, LkI, LkJ, LkW. No condition but those stated. -/
import Derived.Test.YtmhelhjjadoiaaaGreatDoorLkC
import Derived.Test.YtmhelhjjadoiaaaGreatDoorIntsF
import Derived.Test.YtmhelhjjadoiaaaGreatDoorLkP
import Derived.Test.YtmhelhjjadoiaaaGreatDoorLkD
import Derived.Test.YtmhelhjjadoiaaaGreatDoorLkE
import Derived.Test.YtmhelhjjadoiaaaGreatDoorLkF
import Derived.Test.YtmhelhjjadoiaaaGreatDoorLkQ
/- Looks without a reason among some words: the program and the reference. No condition but those stated. -/
namespace Go.Proofs.YtmhelhjjadoiaaaGreatDoor
set_option linter.unusedVariables false
set_option linter.unusedSimpArgs false
open Go.RowKit Go.Sort
def inB (n : Nat) (f : Nat → ByteArray) (x : ByteArray) : Bool := anyB n fun j => (f j).toList == x.toList
theorem toList_inj {x y : ByteArray} (h : x.toList = y.toList) : x = y := by
  rw [Lib.toList_data, Lib.toList_data] at h
  cases x; cases y
  simp at h
  rw [h]
theorem inB_word {n : Nat} {f : Nat → ByteArray} {x : ByteArray} (hw : ∀ j, j < n → wordB (f j) = true) (h : inB n f x = true) : wordB x = true := by
  obtain ⟨j, hj, he⟩ := anyB_iff.1 h
  have := toList_inj (by simpa using he : (f j).toList = x.toList)
  rw [← this]; exact hw j hj
theorem C_IndexT (v : Value) (n : Nat) (f : Nat → ByteArray) (x : ByteArray) (w : World) (h : TI w v n f) :
    Calls Tryz.prog 93 #[v, .string x] w fun e w' => e = .returned (.int .i64 (firstB n fun j => x.toList == (f j).toList)) ∧ w = w' := by
  obtain ⟨A, cap, rfl, hr, hc, hm⟩ := h
  have HR := Lib.hid hr; clear hr
  go_enter Tryz.func93, Tryz.ntmps93
  go_wp2
  go_loop [8] (fun i => ∃ k : Nat, k ≤ n ∧ i = .int .i64 k ∧ anyB k (fun j => x.toList == (f j).toList) = false) (fun i => n - (intOf i).toNat)
  case atStart => exact ⟨0, Nat.zero_le _, rfl, rfl⟩
  case round =>
    obtain ⟨k, hk, rfl, ha⟩ := hrel
    have HA := Lib.hid ha; clear ha
    by_cases hlt : k < n
    · obtain ⟨b, off, rfl, hb, hcell⟩ := HR.out (by omega)
      have hck := hcell k hlt
      clear hcell
      cases he : (x.toList == (f k).toList)
      · go_wp2
        go_round
        case rel => exact ⟨k + 1, by omega, by go_num, anyB_next HA.out he⟩
        case measure => simp [intOf]; omega
      · go_wp2
        go_ret
        exact ⟨ret_int (firstB_some hlt HA.out he).symm, rfl⟩
    · obtain rfl : k = n := by omega
      go_wp2
      go_ret
      exact ⟨ret_int (firstB_none HA.out).symm, rfl⟩
theorem C_ContainsT (v : Value) (n : Nat) (f : Nat → ByteArray) (x : ByteArray) (w : World) (h : TI w v n f) :
    Calls Tryz.prog 75 #[v, .string x] w fun e w' => e = .returned (.bool (inB n f x)) ∧ w = w' := by
  go_enter Tryz.func75, Tryz.ntmps75
  go_wp2_with (go_at_call 93; refine (C_IndexT _ _ _ _ _ h).mono ?_; rintro e w' ⟨rfl, rfl⟩)
  go_ret
  exact ⟨ret_bool (by rw [firstB_ge]; unfold inB; exact anyB_congr fun j _ => BEq.comm), rfl⟩
theorem C_unword (s : ByteArray) (w : World) (hs : s.size ≤ 9223372036854775807) :
    Calls Tryz.prog 74 #[.string s] w fun e w' => e = .returned (.bool (!wordB s)) ∧ Below w.heap.size w w' := by
  go_enter Tryz.func74, Tryz.ntmps74
  go_wp2_with (go_at_call 59; refine (C_isWord _ _ (by assumption)).mono ?_; rintro e w' ⟨rfl, hb'⟩; obtain ⟨hc', hf'⟩ := bcell hb'; (try simp only [World.size_drew] at hc' hf'); have hz' := bsize hb'; (try simp at hz'); have ht' := (by first | exact lt_le5 hz' | exact lt_le4 hz' | exact lt_le3 hz' | exact lt_le2 hz' | exact lt_le1 hz' | exact lt_le0 hz' : ∀ n, n < _ → n < w'.heap.size); (first | (obtain ⟨hs1, hs2, hs3, hs4, hs5⟩ := sz5 hz') | (obtain ⟨hs1, hs2, hs3, hs4⟩ := sz4 hz') | (obtain ⟨hs1, hs2, hs3⟩ := sz3 hz') | (obtain ⟨hs1, hs2⟩ := sz2 hz') | (have hs1 := sz1 hz') | skip); (try have hq0 : w.heap.size < w'.heap.size := by omega); (try have hq1 : w.heap.size + 1 < w'.heap.size := by omega); (try have hq2 : w.heap.size + 1 + 1 < w'.heap.size := by omega); (try have hq3 : w.heap.size + 1 + 1 + 1 < w'.heap.size := by omega))
  go_ret
  exact ⟨rfl, by (repeat (first | with_reducible exact Below.refl _ _ | with_reducible exact below_regrown _ _ _ | with_reducible refine bel_step0 (by assumption) ?_ | with_reducible refine bel_alloc0 ?_ _ | with_reducible refine bel_regrown0 ?_ _ _ | with_reducible refine bel_regrown ?_ (by first | omega | (simp; done) | (simp; omega)) _ _ | with_reducible refine below_drewN ?_ _ | with_reducible refine Below.drew ?_ | with_reducible refine Below.alloc ?_ (by first | omega | (simp; done) | (simp; omega)) _ | with_reducible refine Below.setCell ?_ (by first | omega | (simp; done) | (simp; omega)) _ | with_reducible refine bel_step (by assumption) (by first | omega | (simp; done) | (simp; omega)) ?_ | with_reducible refine bel_grown (by assumption) (by first | omega | (simp; done) | (simp; omega)) (by first | omega | (simp; done) | (simp; omega)) ?_))⟩
theorem C_IndexFuncW (v : Value) (n : Nat) (f : Nat → ByteArray) (w : World) (h : TI w v n f) (hs : ∀ j, j < n → (f j).size ≤ 9223372036854775807) :
    Calls Tryz.prog 92 #[v, .func (.func 74) #[] #[]] w fun e w' => e = .returned (.int .i64 (firstB n fun j => !wordB (f j))) ∧ Below w.heap.size w w' := by
  obtain ⟨A, cap, rfl, hr, hc, hm⟩ := h
  have HR := Lib.hid hr; clear hr
  have HS := Lib.hid hs; clear hs
  go_enter Tryz.func92, Tryz.ntmps92
  go_wp2
  go_loopw [8] (fun i wr => ∃ k : Nat, k ≤ n ∧ i = .int .i64 k ∧ anyB k (fun j => !wordB (f j)) = false ∧ Below w.heap.size w wr) (fun i _ => n - (intOf i).toNat)
  case atStart => exact ⟨0, Nat.zero_le _, rfl, rfl, Below.refl _ _⟩
  case round =>
    obtain ⟨k, hk, rfl, ha, hB⟩ := hrel
    have HA := Lib.hid ha; clear ha
    by_cases hlt : k < n
    · obtain ⟨bb, off, rfl, hb, hcell⟩ := (HR.out.below hB) (by omega)
      have hck := hcell k hlt
      have hsk := HS.out k hlt
      clear hcell
      cases hok : wordB (f k)
      all_goals
        go_wp2_with (go_at_call 74; refine (C_unword _ _ hsk).mono ?_; rintro e w' ⟨rfl, hb'⟩; rw [hok])
      · go_ret
        exact ⟨ret_int (firstB_some hlt HA.out (by rw [hok]; rfl)).symm, by (repeat (first | with_reducible exact Below.refl _ _ | with_reducible exact below_regrown _ _ _ | with_reducible refine bel_step0 (by assumption) ?_ | with_reducible refine bel_alloc0 ?_ _ | with_reducible refine bel_regrown0 ?_ _ _ | with_reducible refine bel_regrown ?_ (by first | omega | (simp; done) | (simp; omega)) _ _ | with_reducible refine below_drewN ?_ _ | with_reducible refine Below.drew ?_ | with_reducible refine Below.alloc ?_ (by first | omega | (simp; done) | (simp; omega)) _ | with_reducible refine Below.setCell ?_ (by first | omega | (simp; done) | (simp; omega)) _ | with_reducible refine bel_step (by assumption) (by first | omega | (simp; done) | (simp; omega)) ?_ | with_reducible refine bel_grown (by assumption) (by first | omega | (simp; done) | (simp; omega)) (by first | omega | (simp; done) | (simp; omega)) ?_))⟩
      · go_roundw
        case rel => exact ⟨k + 1, by omega, by go_num, anyB_next HA.out (by rw [hok]; rfl), by (repeat (first | with_reducible exact Below.refl _ _ | with_reducible exact below_regrown _ _ _ | with_reducible refine bel_step0 (by assumption) ?_ | with_reducible refine bel_alloc0 ?_ _ | with_reducible refine bel_regrown0 ?_ _ _ | with_reducible refine bel_regrown ?_ (by first | omega | (simp; done) | (simp; omega)) _ _ | with_reducible refine below_drewN ?_ _ | with_reducible refine Below.drew ?_ | with_reducible refine Below.alloc ?_ (by first | omega | (simp; done) | (simp; omega)) _ | with_reducible refine Below.setCell ?_ (by first | omega | (simp; done) | (simp; omega)) _ | with_reducible refine bel_step (by assumption) (by first | omega | (simp; done) | (simp; omega)) ?_ | with_reducible refine bel_grown (by assumption) (by first | omega | (simp; done) | (simp; omega)) (by first | omega | (simp; done) | (simp; omega)) ?_))⟩
        case measure => simp [intOf]; omega
    · obtain rfl : k = n := by omega
      go_wp2
      go_ret
      exact ⟨ret_int (firstB_none HA.out).symm, hB⟩
theorem C_ContainsFuncW (v : Value) (n : Nat) (f : Nat → ByteArray) (w : World) (h : TI w v n f) (hs : ∀ j, j < n → (f j).size ≤ 9223372036854775807) :
    Calls Tryz.prog 73 #[v, .func (.func 74) #[] #[]] w fun e w' => e = .returned (.bool (anyB n fun j => !wordB (f j))) ∧ Below w.heap.size w w' := by
  go_enter Tryz.func73, Tryz.ntmps73
  go_wp2_with (go_at_call 92; refine (C_IndexFuncW _ _ _ _ h hs).mono ?_; rintro e w' ⟨rfl, hb'⟩)
  go_ret
  exact ⟨ret_bool firstB_ge, hb'⟩
/-- The places of the first n that p picks. -/
def unL (p : Nat → Bool) : Nat → List Int
  | 0 => []
  | k + 1 => if p k then unL p k ++ [(k : Int)] else unL p k
theorem unL_le (p : Nat → Bool) (n : Nat) : (unL p n).length ≤ n := by
  induction n with
  | zero => simp [unL]
  | succ n ih => simp only [unL]; split <;> (try rw [List.length_append, List.length_singleton]) <;> omega
theorem unL_yes {p : Nat → Bool} {k : Nat} (h : p k = true) : unL p (k + 1) = unL p k ++ [(k : Int)] := by simp only [unL, h]; rfl
theorem unL_no {p : Nat → Bool} {k : Nat} (h : p k = false) : unL p (k + 1) = unL p k := by simp only [unL, h]; rfl
def ueB (m : Nat) (f : Nat → ByteArray) (R : Nat → Lk) (k : Nat) : Bool := !inB m f (R k).why
def ueOk (n : Nat) (R : Nat → Lk) (m : Nat) (f : Nat → ByteArray) : Bool := accB n R && decide ((m : Int) ≤ 10) && allB m (fun j => wordB (f j))
def ueL (n : Nat) (R : Nat → Lk) (m : Nat) (f : Nat → ByteArray) : List Int := if ueOk n R m f then unL (ueB m f R) n else []
theorem ueL_le (n : Nat) (R : Nat → Lk) (m : Nat) (f : Nat → ByteArray) : (ueL n R m f).length ≤ 15 := by
  unfold ueL
  split
  · rename_i h
    unfold ueOk at h
    simp only [Bool.and_eq_true] at h
    have := unL_le (ueB m f R) n
    have := accB_le h.1.1
    omega
  · simp
set_option maxHeartbeats 4000000 in
theorem C_UnexplainedI (v u : Value) (n : Nat) (R : Nat → Lk) (m : Nat) (f : Nat → ByteArray) (w : World) (h : LKs w v n R) (hs : ∀ j, j < n → (R j).why.size ≤ 9223372036854775807) (hu : TI w u m f) (hf : ∀ j, j < m → (f j).size ≤ 9223372036854775807) :
    Calls Tryz.prog 32 #[v, u] w fun e w' => ∃ v', e = .returned (.tuple #[v', .bool (ueOk n R m f)]) ∧ OI w.heap.size w' v' (ueL n R m f) ∧ Below w.heap.size w w' := by
  have HH := Lib.hid h
  have HS := Lib.hid hs
  have HU := Lib.hid hu
  have HF := Lib.hid hf
  obtain ⟨A, cap, rfl, hr, hc, hm⟩ := h
  obtain ⟨A2, cap2, rfl, hr2, hc2, hm2⟩ := hu
  have HR := Lib.hid hr
  clear hr hr2 hs hf
  cases hd : accB n R
  · have e0 : ueOk n R m f = false := by unfold ueOk; rw [hd]; rfl
    have e1 : ueL n R m f = [] := by unfold ueL; rw [e0]; rfl
    rw [e0, e1]; clear e0 e1
    go_enter Tryz.func32, Tryz.ntmps32
    go_wp2_with fail
    refine (C_IsAccount _ _ _ _ HH.out HS.out).mono ?_; rintro e w1 ⟨rfl, hb1⟩; rw [hd]
    go_wp2_with fail
    go_ret2
    exact ⟨_, rfl, OI.nil _ _, hb1⟩
  by_cases hm10 : (m : Int) ≤ 10
  case neg =>
    have e0 : ueOk n R m f = false := by unfold ueOk; rw [decide_eq_false hm10]; simp
    have e1 : ueL n R m f = [] := by unfold ueL; rw [e0]; rfl
    rw [e0, e1]; clear e0 e1
    go_enter Tryz.func32, Tryz.ntmps32
    go_wp2_with fail
    refine (C_IsAccount _ _ _ _ HH.out HS.out).mono ?_; rintro e w1 ⟨rfl, hb1⟩; rw [hd]
    go_wp2_with fail
    go_ret2
    exact ⟨_, rfl, OI.nil _ _, hb1⟩
  have hba := anyB_eq m (fun j => !wordB (f j))
  simp only [Bool.not_not] at hba
  cases hw : allB m (fun j => wordB (f j))
  · have e0 : ueOk n R m f = false := by unfold ueOk; rw [hw]; simp
    have e1 : ueL n R m f = [] := by unfold ueL; rw [e0]; rfl
    rw [e0, e1]; clear e0 e1
    rw [hw] at hba
    have HBA := Lib.hid hba
    clear hba hw
    go_enter Tryz.func32, Tryz.ntmps32
    go_wp2_with fail
    refine (C_IsAccount _ _ _ _ HH.out HS.out).mono ?_; rintro e w1 ⟨rfl, hb1⟩; rw [hd]
    go_wp2_with fail
    refine (C_ContainsFuncW _ _ _ _ (HU.out.below hb1) HF.out).mono ?_; rintro e w2 ⟨rfl, hb2⟩; rw [HBA.out]
    go_wp2_with fail
    go_ret2
    exact ⟨_, rfl, OI.nil _ _, bel_step0 hb2 hb1⟩
  have e0 : ueOk n R m f = true := by unfold ueOk; rw [hd, hw, decide_eq_true hm10]; rfl
  have e1 : ueL n R m f = unL (ueB m f R) n := by unfold ueL; rw [e0]; rfl
  rw [e0, e1]; clear e0 e1
  rw [hw] at hba
  have HBA := Lib.hid hba
  have hn15 := accB_le hd
  obtain ⟨p, hp⟩ : ∃ p, ueB m f R = p := ⟨_, rfl⟩
  rw [hp]
  have HP := Lib.hid (fun j => congrFun hp j)
  clear hba hw hp
  go_enter Tryz.func32, Tryz.ntmps32
  go_wp2_with fail
  refine (C_IsAccount _ _ _ _ HH.out HS.out).mono ?_; rintro e w1 ⟨rfl, hb1⟩; rw [hd]
  go_wp2_with fail
  refine (C_ContainsFuncW _ _ _ _ (HU.out.below hb1) HF.out).mono ?_; rintro e w2 ⟨rfl, hb2⟩; rw [HBA.out]
  have HB2 := Lib.hid (bel_step0 hb2 hb1)
  clear hb1 hb2
  go_wp2_with fail
  go_loopw [6, 23] (fun o i wr => ∃ k : Nat, k ≤ n ∧ i = .int .i64 k ∧ OI w.heap.size wr o (unL p k) ∧ Below w.heap.size w wr) (fun _ i _ => n - (intOf i).toNat)
  case atStart => exact ⟨0, Nat.zero_le _, rfl, OI.nil _ _, HB2.out⟩
  case round =>
    obtain ⟨k, hk, rfl, ho, hB⟩ := hrel
    have HO := Lib.hid ho; clear ho
    have HBB := Lib.hid hB
    have hbs := hB.size
    by_cases hlt : k < n
    · obtain ⟨b, off, rfl, hb, hcell⟩ := (HR.out.below hB) (by omega)
      obtain ⟨c0, c1, c2, c3, c4⟩ := hcell k hlt
      have hll := unL_le p k
      have hpk : (!inB m f (R k).why) = p k := HP.out k
      have HT := Lib.hid (HU.out.below hB)
      have hin : inB m f (R k).why = !p k := by rw [← hpk]; simp
      have HI := Lib.hid hin
      clear hcell hB hpk hin
      cases hok : p k
      · have HI2 := Lib.hid (HI.out.trans (by rw [hok]))
        go_wp2_with fail
        refine (C_ContainsT _ _ _ _ _ (HT.out.below ((Below.refl _ _).alloc (Nat.le_refl _) _))).mono ?_; rintro e w' ⟨rfl, rfl⟩; rw [HI2.out]
        go_wp2
        go_roundw
        case rel => exact ⟨k + 1, by omega, by go_num, by rw [unL_no hok]; exact HO.out.alloc _, by have hB := HBB.out; (repeat (first | with_reducible exact Below.refl _ _ | with_reducible exact below_regrown _ _ _ | with_reducible refine bel_step0 (by assumption) ?_ | with_reducible refine bel_alloc0 ?_ _ | with_reducible refine bel_regrown0 ?_ _ _ | with_reducible refine bel_regrown ?_ (by first | omega | (simp; done) | (simp; omega)) _ _ | with_reducible refine below_drewN ?_ _ | with_reducible refine Below.drew ?_ | with_reducible refine Below.alloc ?_ (by first | omega | (simp; done) | (simp; omega)) _ | with_reducible refine Below.setCell ?_ (by first | omega | (simp; done) | (simp; omega)) _ | with_reducible refine bel_step (by assumption) (by first | omega | (simp; done) | (simp; omega)) ?_ | with_reducible refine bel_grown (by assumption) (by first | omega | (simp; done) | (simp; omega)) (by first | omega | (simp; done) | (simp; omega)) ?_))⟩
        case measure => simp [intOf]; omega
      · have HI2 := Lib.hid (HI.out.trans (by rw [hok]))
        go_wp2_with fail
        refine (C_ContainsT _ _ _ _ _ (HT.out.below ((Below.refl _ _).alloc (Nat.le_refl _) _))).mono ?_; rintro e w' ⟨rfl, rfl⟩; rw [HI2.out]
        go_wp2_with (at_builtin; refine wp_app1 _ rfl (.tmp 33) (.tmp 35) rfl w.heap.size _ _ rfl ((HO.out.alloc _).alloc _) (wr.heap.size + 1) (k : Int) rfl (by simp) (by omega) (by simp; omega) ?_; intro v1 w1 ho1 hb1; have HO1 := Lib.hid ho1; have HB1 := Lib.hid (show Below w.heap.size w w1 from Below.trans (by have hB := HBB.out; (repeat (first | with_reducible exact Below.refl _ _ | with_reducible exact below_regrown _ _ _ | with_reducible refine bel_step0 (by assumption) ?_ | with_reducible refine bel_alloc0 ?_ _ | with_reducible refine bel_regrown0 ?_ _ _ | with_reducible refine bel_regrown ?_ (by first | omega | (simp; done) | (simp; omega)) _ _ | with_reducible refine below_drewN ?_ _ | with_reducible refine Below.drew ?_ | with_reducible refine Below.alloc ?_ (by first | omega | (simp; done) | (simp; omega)) _ | with_reducible refine Below.setCell ?_ (by first | omega | (simp; done) | (simp; omega)) _ | with_reducible refine bel_step (by assumption) (by first | omega | (simp; done) | (simp; omega)) ?_ | with_reducible refine bel_grown (by assumption) (by first | omega | (simp; done) | (simp; omega)) (by first | omega | (simp; done) | (simp; omega)) ?_))) hb1); clear ho1 hb1)
        go_roundw
        case rel => exact ⟨k + 1, by omega, by go_num, by rw [unL_yes hok]; exact HO1.out, HB1.out⟩
        case measure => simp [intOf]; omega
    · obtain rfl : k = n := by omega
      go_wp2
      go_ret2
      exact ⟨_, rfl, HO.out, HBB.out⟩
end Go.Proofs.YtmhelhjjadoiaaaGreatDoor

/- Looks without a reason among some words: the reference. No condition but those stated. -/
namespace Go.Proofs.YtmhelhjjadoiaaaGreatDoor
set_option linter.unusedVariables false
set_option linter.unusedSimpArgs false
open Go.RowKit Go.Sort
set_option maxHeartbeats 4000000 in
theorem C_UnexplainedS (v u : Value) (n : Nat) (R : Nat → Lk) (m : Nat) (f : Nat → ByteArray) (w : World) (h : LKs w v n R) (hs : ∀ j, j < n → (R j).why.size ≤ 9223372036854775807) (hu : TI w u m f) (hf : ∀ j, j < m → (f j).size ≤ 9223372036854775807) :
    Calls Tryz.prog 38 #[v, u] w fun e w' => ∃ v', e = .returned (.tuple #[v', .bool (ueOk n R m f)]) ∧ OI w.heap.size w' v' (ueL n R m f) ∧ Below w.heap.size w w' := by
  obtain ⟨w0, hw0⟩ : ∃ w0, w0 = w.alloc (.cells #[] 3) := ⟨_, rfl⟩
  have hb0 : Below w.heap.size w w0 := by rw [hw0]; (repeat (first | with_reducible exact Below.refl _ _ | with_reducible exact below_regrown _ _ _ | with_reducible refine bel_step0 (by assumption) ?_ | with_reducible refine bel_alloc0 ?_ _ | with_reducible refine bel_regrown0 ?_ _ _ | with_reducible refine bel_regrown ?_ (by first | omega | (simp; done) | (simp; omega)) _ _ | with_reducible refine below_drewN ?_ _ | with_reducible refine Below.drew ?_ | with_reducible refine Below.alloc ?_ (by first | omega | (simp; done) | (simp; omega)) _ | with_reducible refine Below.setCell ?_ (by first | omega | (simp; done) | (simp; omega)) _ | with_reducible refine bel_step (by assumption) (by first | omega | (simp; done) | (simp; omega)) ?_ | with_reducible refine bel_grown (by assumption) (by first | omega | (simp; done) | (simp; omega)) (by first | omega | (simp; done) | (simp; omega)) ?_))
  have ho0 : OI w.heap.size w0 (.slice (some ⟨w.heap.size, 0, none⟩) 0 0) [] := by rw [hw0]; exact OI.empty (Nat.le_refl _)
  have HW0 := Lib.hid hw0
  have HO0 := Lib.hid ho0
  have HH := Lib.hid (h.below hb0)
  have HU := Lib.hid (hu.below hb0)
  have HS := Lib.hid hs
  have HF := Lib.hid hf
  obtain ⟨A, cap, rfl, hr, hc, hm⟩ := h
  obtain ⟨A2, cap2, rfl, hr2, hc2, hm2⟩ := hu
  have HR := Lib.hid hr
  have HR2 := Lib.hid hr2
  clear hr hr2 hs hf hw0 ho0
  cases hd : accB n R
  · have e0 : ueOk n R m f = false := by unfold ueOk; rw [hd]; rfl
    have e1 : ueL n R m f = [] := by unfold ueL; rw [e0]; rfl
    rw [e0, e1]; clear e0 e1
    go_enter Tryz.func38, Tryz.ntmps38
    go_wp2_with fail
    rw [← HW0.out]
    refine (C_l22Good _ _ _ _ HH.out HS.out).mono ?_; rintro e w1 ⟨rfl, hb1⟩; rw [hd]
    go_wp2_with fail
    go_ret2
    exact ⟨_, rfl, HO0.out.below hb1, bel_step0 hb1 hb0⟩
  by_cases hm10 : (m : Int) ≤ 10
  case neg =>
    have e0 : ueOk n R m f = false := by unfold ueOk; rw [decide_eq_false hm10]; simp
    have e1 : ueL n R m f = [] := by unfold ueL; rw [e0]; rfl
    rw [e0, e1]; clear e0 e1
    go_enter Tryz.func38, Tryz.ntmps38
    go_wp2_with fail
    rw [← HW0.out]
    refine (C_l22Good _ _ _ _ HH.out HS.out).mono ?_; rintro e w1 ⟨rfl, hb1⟩; rw [hd]
    go_wp2_with fail
    go_ret2
    exact ⟨_, rfl, HO0.out.below hb1, bel_step0 hb1 hb0⟩
  have hn15 := accB_le hd
  obtain ⟨ok, hok⟩ : ∃ ok, ueOk n R m f = ok := ⟨_, rfl⟩
  obtain ⟨L, hL⟩ : ∃ L, ueL n R m f = L := ⟨_, rfl⟩
  have hno : allB m (fun j => wordB (f j)) = false → ok = false ∧ L = [] := fun hw => by
    have e0 : ueOk n R m f = false := by unfold ueOk; rw [hw]; simp
    have e1 : ueL n R m f = [] := by unfold ueL; rw [e0]; rfl
    exact ⟨hok.symm.trans e0, hL.symm.trans e1⟩
  have hyes : allB m (fun j => wordB (f j)) = true → ok = true ∧ L = unL (ueB m f R) n := fun hw => by
    have e0 : ueOk n R m f = true := by unfold ueOk; rw [hd, hw, decide_eq_true hm10]; rfl
    have e1 : ueL n R m f = unL (ueB m f R) n := by unfold ueL; rw [e0]; rfl
    exact ⟨hok.symm.trans e0, hL.symm.trans e1⟩
  rw [hok, hL]
  have HNO := Lib.hid hno
  have HYES := Lib.hid hyes
  clear hok hL hno hyes
  go_enter Tryz.func38, Tryz.ntmps38
  go_wp2_with fail
  rw [← HW0.out]
  refine (C_l22Good _ _ _ _ HH.out HS.out).mono ?_; rintro e w1 ⟨rfl, hb1⟩; rw [hd]
  have HB1 := Lib.hid (bel_step0 hb1 hb0)
  have HO1 := Lib.hid (HO0.out.below hb1)
  clear hb1 hb0
  go_wp2_with fail
  go_loop [7] (fun i => ∃ k : Nat, k ≤ m ∧ i = .int .i64 k ∧ allB k (fun j => wordB (f j)) = true) (fun i => m - (intOf i).toNat)
  case atStart => exact ⟨0, Nat.zero_le _, rfl, rfl⟩
  case round =>
    obtain ⟨k, hk, rfl, ha⟩ := hrel
    have HA := Lib.hid ha; clear ha
    by_cases hlt : k < m
    · obtain ⟨bb, off, rfl, hb, hcell⟩ := (HR2.out.below HB1.out) (by omega)
      have hck := hcell k hlt
      have hsk := HF.out k hlt
      clear hcell
      cases hok : wordB (f k)
      all_goals
        go_wp2_with fail
        refine (C_l2Word _ _ hsk).mono ?_; rintro e w' ⟨rfl, rfl⟩; rw [hok]
        go_wp2
      · go_ret2
        obtain ⟨rfl, rfl⟩ := HNO.out (allB_of_not hlt hok)
        exact ⟨_, rfl, HO1.out, HB1.out⟩
      · go_round
        case rel => exact ⟨k + 1, by omega, by go_num, allB_next HA.out hok⟩
        case measure => simp [intOf]; omega
    · obtain rfl : k = m := by omega
      obtain ⟨rfl, rfl⟩ := HYES.out HA.out
      obtain ⟨p, hp⟩ : ∃ p, ueB k f R = p := ⟨_, rfl⟩
      have HP := Lib.hid (fun j => congrFun hp j)
      have HPE := Lib.hid hp
      clear hp
      go_wp2
      go_loopw [6, 8, 9, 10] (fun o i _ _ wr => ∃ q : Nat, q ≤ n ∧ i = .int .i64 q ∧ OI w.heap.size wr o (unL p q) ∧ Below w.heap.size w wr) (fun _ i _ _ _ => n - (intOf i).toNat)
      case atStart => exact ⟨0, Nat.zero_le _, rfl, HO1.out, HB1.out⟩
      case round =>
        obtain ⟨q, hq, rfl, ho, hB⟩ := hrel
        have HO := Lib.hid ho; clear ho
        obtain ⟨wo, rfl⟩ : ∃ wo : World, wo = wr := ⟨_, rfl⟩
        have HBB := Lib.hid hB
        have hbs := hB.size
        by_cases hql : q < n
        · obtain ⟨b, off, rfl, hb, hcell⟩ := (HR.out.below hB) (by omega)
          have HC4 := Lib.hid (hcell q hql).c4
          have hll := unL_le p q
          have hpk : (!inB k f (R q).why) = p q := HP.out q
          have HPK := Lib.hid hpk
          have hqi : (q : Int) < (n : Int) := by omega
          clear hcell hB hpk
          go_wp2
          go_loopw [9, 10] (fun z i wr => ∃ t : Nat, t ≤ k ∧ i = .int .i64 t ∧ z = .bool (anyB t fun j => (f j).toList == (R q).why.toList) ∧ Below wo.heap.size wo wr) (fun _ i _ => k - (intOf i).toNat)
          case atStart => exact ⟨0, Nat.zero_le _, rfl, rfl, Below.refl _ _⟩
          case round =>
            obtain ⟨t, ht, rfl, hz, hBt⟩ := hrel
            have hzt := hBt.size
            by_cases htl : t < k
            · obtain ⟨b2, off2, rfl, hb2, hcell2⟩ := (HR2.out.below (bel_step0 hBt HBB.out)) (by omega)
              have hck := cell_regrown (hcell2 t htl)
              have hc4 := cell_regrown ((hBt.cell (p := ⟨b, off + q * 5 + 4, none⟩) hb).trans HC4.out)
              have hti : (t : Int) < (k : Int) := by omega
              have hnx : (anyB (t + 1) fun j => (f j).toList == (R q).why.toList) = ((anyB t fun j => (f j).toList == (R q).why.toList) || ((f t).toList == (R q).why.toList)) := anyB_succ _ _
              obtain ⟨a, ha⟩ : ∃ a, (anyB t fun j => (f j).toList == (R q).why.toList) = a := ⟨_, rfl⟩
              rw [ha] at hnx hz
              have HNX := Lib.hid hnx
              clear hcell2 ha hnx
              subst hz
              cases a
              · cases he : ((f t).toList == (R q).why.toList)
                all_goals
                  go_wp2
                  (refine wp_region_quiet_below (by kernel_rfl) (by kernel_rfl) ?_; (repeat (go_big_quiet_step (fail))); refine wpQuiet_nil ?_; intro _ hw'; obtain ⟨⟨dq, osq⟩, hw''⟩ := hw'; subst hw'')
                  go_wp2
                  go_roundw
                  case rel => exact ⟨t + 1, by omega, by go_num, by rw [HNX.out, he]; rfl, by (repeat (first | with_reducible exact Below.refl _ _ | with_reducible exact below_regrown _ _ _ | with_reducible refine bel_step0 (by assumption) ?_ | with_reducible refine bel_alloc0 ?_ _ | with_reducible refine bel_regrown0 ?_ _ _ | with_reducible refine bel_regrown ?_ (by first | omega | (simp; done) | (simp; omega)) _ _ | with_reducible refine below_drewN ?_ _ | with_reducible refine Below.drew ?_ | with_reducible refine Below.alloc ?_ (by first | omega | (simp; done) | (simp; omega)) _ | with_reducible refine Below.setCell ?_ (by first | omega | (simp; done) | (simp; omega)) _ | with_reducible refine bel_step (by assumption) (by first | omega | (simp; done) | (simp; omega)) ?_ | with_reducible refine bel_grown (by assumption) (by first | omega | (simp; done) | (simp; omega)) (by first | omega | (simp; done) | (simp; omega)) ?_))⟩
                  case measure => simp [intOf]; omega
              · go_wp2
                (refine wp_region_quiet_below (by kernel_rfl) (by kernel_rfl) ?_; (repeat (go_big_quiet_step (fail))); refine wpQuiet_nil ?_; intro _ hw'; obtain ⟨⟨dq, osq⟩, hw''⟩ := hw'; subst hw'')
                go_wp2
                go_roundw
                case rel => exact ⟨t + 1, by omega, by go_num, by rw [HNX.out]; rfl, by (repeat (first | with_reducible exact Below.refl _ _ | with_reducible exact below_regrown _ _ _ | with_reducible refine bel_step0 (by assumption) ?_ | with_reducible refine bel_alloc0 ?_ _ | with_reducible refine bel_regrown0 ?_ _ _ | with_reducible refine bel_regrown ?_ (by first | omega | (simp; done) | (simp; omega)) _ _ | with_reducible refine below_drewN ?_ _ | with_reducible refine Below.drew ?_ | with_reducible refine Below.alloc ?_ (by first | omega | (simp; done) | (simp; omega)) _ | with_reducible refine Below.setCell ?_ (by first | omega | (simp; done) | (simp; omega)) _ | with_reducible refine bel_step (by assumption) (by first | omega | (simp; done) | (simp; omega)) ?_ | with_reducible refine bel_grown (by assumption) (by first | omega | (simp; done) | (simp; omega)) (by first | omega | (simp; done) | (simp; omega)) ?_))⟩
                case measure => simp [intOf]; omega
            · obtain rfl : t = k := by omega
              have hz2 : (anyB t fun j => (f j).toList == (R q).why.toList) = !p q := by rw [← HPK.out]; simp [inB]
              rw [hz2] at hz
              have HO2 := Lib.hid (HO.out.below hBt)
              have HB2 := Lib.hid (bel_step0 hBt HBB.out)
              have hz3 := HB2.out.size
              clear hz2
              subst hz
              cases hpq : p q
              · go_wp2
                go_roundw
                case rel => exact ⟨q + 1, by omega, by go_num, by rw [unL_no hpq]; exact HO2.out, HB2.out⟩
                case measure => simp [intOf]; omega
              · go_wp2_with (at_builtin; refine wp_app1 _ rfl (.tmp 61) (.tmp 63) rfl w.heap.size _ _ rfl (HO2.out.alloc _) wr.heap.size (q : Int) rfl (by simp) (by omega) (by simp; omega) ?_; intro v1 w1 ho1 hb1; have HO1' := Lib.hid ho1; have HB1' := Lib.hid (show Below w.heap.size w w1 from Below.trans (by have hB := HB2.out; (repeat (first | with_reducible exact Below.refl _ _ | with_reducible exact below_regrown _ _ _ | with_reducible refine bel_step0 (by assumption) ?_ | with_reducible refine bel_alloc0 ?_ _ | with_reducible refine bel_regrown0 ?_ _ _ | with_reducible refine bel_regrown ?_ (by first | omega | (simp; done) | (simp; omega)) _ _ | with_reducible refine below_drewN ?_ _ | with_reducible refine Below.drew ?_ | with_reducible refine Below.alloc ?_ (by first | omega | (simp; done) | (simp; omega)) _ | with_reducible refine Below.setCell ?_ (by first | omega | (simp; done) | (simp; omega)) _ | with_reducible refine bel_step (by assumption) (by first | omega | (simp; done) | (simp; omega)) ?_ | with_reducible refine bel_grown (by assumption) (by first | omega | (simp; done) | (simp; omega)) (by first | omega | (simp; done) | (simp; omega)) ?_))) hb1); clear ho1 hb1)
                go_roundw
                case rel => exact ⟨q + 1, by omega, by go_num, by rw [unL_yes hpq]; exact HO1'.out, HB1'.out⟩
                case measure => simp [intOf]; omega
        · obtain rfl : q = n := by omega
          go_wp2
          go_ret2
          exact ⟨_, rfl, by rw [HPE.out]; exact HO.out, HBB.out⟩
end Go.Proofs.YtmhelhjjadoiaaaGreatDoor

/- Crossed looks: the reference. No condition but those stated. -/
namespace Go.Proofs.YtmhelhjjadoiaaaGreatDoor
set_option linter.unusedVariables false
set_option linter.unusedSimpArgs false
open Go.RowKit Go.Sort
def acB (x y : Lk) : Bool := x.rid == y.rid && x.who != y.who && (x.kind == 2 || y.kind == 2)
def crB (x y : Lk) (z : Int) : Bool := acB x y && decide (y.tick - x.tick ≤ z)
def inC (R : Nat → Lk) (z : Int) (i : Nat) : Nat → List (List Int)
  | 0 => []
  | m + 1 => inC R z i m ++ (if crB (R i) (R (i + 1 + m)) z then [[(i : Int), ((i + 1 + m : Nat) : Int)]] else [])
def outC (R : Nat → Lk) (z : Int) (n : Nat) : Nat → List (List Int)
  | 0 => []
  | k + 1 => outC R z n k ++ inC R z k (n - (k + 1))
theorem inC_le (R : Nat → Lk) (z : Int) (i m : Nat) : (inC R z i m).length ≤ m := by
  induction m with
  | zero => simp [inC]
  | succ m ih => simp only [inC, List.length_append]; split <;> simp <;> omega
theorem inC_no {R : Nat → Lk} {z : Int} {i m : Nat} (h : crB (R i) (R (i + 1 + m)) z = false) : inC R z i (m + 1) = inC R z i m := by
  show inC R z i m ++ (if crB (R i) (R (i + 1 + m)) z then _ else []) = _
  rw [h]; exact List.append_nil _
theorem inC_yes {R : Nat → Lk} {z : Int} {i m : Nat} (h : crB (R i) (R (i + 1 + m)) z = true) : inC R z i (m + 1) = inC R z i m ++ [[(i : Int), ((i + 1 + m : Nat) : Int)]] := by
  show inC R z i m ++ (if crB (R i) (R (i + 1 + m)) z then _ else []) = _
  rw [h]; rfl
theorem outC_le (R : Nat → Lk) (z : Int) (n : Nat) : ∀ k, (outC R z n k).length ≤ k * n := by
  intro k
  induction k with
  | zero => simp [outC]
  | succ k ih =>
    have := inC_le R z k (n - (k + 1))
    simp only [outC, List.length_append]
    rw [Nat.succ_mul]; omega
theorem inC_two (R : Nat → Lk) (z : Int) (i m : Nat) : ∀ r ∈ inC R z i m, r.length = 2 := by
  induction m with
  | zero => intro r hr; cases hr
  | succ m ih =>
    intro r hr
    simp only [inC, List.mem_append] at hr
    rcases hr with h | h
    · exact ih r h
    · split at h
      · simp only [List.mem_singleton] at h; subst h; rfl
      · cases h
theorem outC_two (R : Nat → Lk) (z : Int) (n k : Nat) : ∀ r ∈ outC R z n k, r.length = 2 := by
  induction k with
  | zero => intro r hr; cases hr
  | succ k ih =>
    intro r hr
    simp only [outC, List.mem_append] at hr
    rcases hr with h | h
    · exact ih r h
    · exact inC_two _ _ _ _ r h
def clOk (n : Nat) (R : Nat → Lk) (z : Int) : Bool := accB n R && within z 0 1000000
def clL (n : Nat) (R : Nat → Lk) (z : Int) : List (List Int) := if clOk n R z then outC R z n n else []
theorem clL_le (n : Nat) (R : Nat → Lk) (z : Int) : (clL n R z).length ≤ 225 := by
  unfold clL
  split
  · rename_i h
    unfold clOk at h
    simp only [Bool.and_eq_true] at h
    have h1 := accB_le h.1
    have h2 := outC_le R z n n
    have h3 := Nat.mul_le_mul h1 h1
    omega
  · simp
theorem clL_two (n : Nat) (R : Nat → Lk) (z : Int) (j : Nat) : (at_ (clL n R z) j).length ≤ 2 := by
  unfold at_
  rw [List.getD_eq_getElem?_getD]
  rcases h : (clL n R z)[j]? with _ | r
  · simp
  · have hm := List.mem_of_getElem? h
    unfold clL at hm
    split at hm
    · exact Nat.le_of_eq (outC_two R z n n r hm)
    · cases hm
/-- Two looks, copied. -/
def TwoAt (w : World) (x y : Lk) (s t : Value) (W : World) : Prop :=
  ∃ g1 g2 : Nat, s = .pointer (some ⟨g1, 0, none⟩) ∧ t = .pointer (some ⟨g2, 0, none⟩) ∧ g1 < W.heap.size ∧ g2 < W.heap.size ∧ LkAt W g1 0 x ∧ LkAt W g2 0 y ∧ Below w.heap.size w W
theorem lk_alloc (w : World) (x : Lk) (T : TypeId) : LkAt (w.alloc (.cells #[.int .i64 x.tick, .int .i64 x.who, .int .i64 x.rid, .int .i64 x.kind, .string x.why] T)) w.heap.size 0 x :=
  ⟨cell_new _ _ _ _ _ rfl, cell_new _ _ _ _ _ rfl, cell_new _ _ _ _ _ rfl, cell_new _ _ _ _ _ rfl, cell_new _ _ _ _ _ rfl⟩
theorem lk_old {w : World} {x : Lk} {b : Nat} (h : LkAt w b 0 x) (hb : b < w.heap.size) (o : Obj) : LkAt (w.alloc o) b 0 x := h.block (Below.heap_alloc _ _ _ hb)
theorem two_a (w : World) (x y : Lk) (T : TypeId) : TwoAt w x y (.pointer (some ⟨w.heap.size, 0, none⟩)) (.pointer (some ⟨w.heap.size + 1, 0, none⟩))
    ((w.alloc (.cells #[.int .i64 x.tick, .int .i64 x.who, .int .i64 x.rid, .int .i64 x.kind, .string x.why] T)).alloc (.cells #[.int .i64 y.tick, .int .i64 y.who, .int .i64 y.rid, .int .i64 y.kind, .string y.why] T)) := by
  refine ⟨_, _, rfl, rfl, by simp, by simp, lk_old (lk_alloc w x T) (by simp) _, ?_, (((Below.refl _ _).alloc (Nat.le_refl _) _).alloc (by simp) _)⟩
  have := lk_alloc (w.alloc (.cells #[.int .i64 x.tick, .int .i64 x.who, .int .i64 x.rid, .int .i64 x.kind, .string x.why] T)) y T
  simpa using this
theorem two_b (w : World) (x y : Lk) (T : TypeId) : TwoAt w x y (.pointer (some ⟨w.heap.size + 1, 0, none⟩)) (.pointer (some ⟨w.heap.size, 0, none⟩))
    ((w.alloc (.cells #[.int .i64 y.tick, .int .i64 y.who, .int .i64 y.rid, .int .i64 y.kind, .string y.why] T)).alloc (.cells #[.int .i64 x.tick, .int .i64 x.who, .int .i64 x.rid, .int .i64 x.kind, .string x.why] T)) := by
  obtain ⟨g1, g2, e1, e2, l1, l2, a1, a2, hb⟩ := two_a w y x T
  exact ⟨g2, g1, e2, e1, l2, l1, a2, a1, hb⟩
theorem TwoAt.drew {w : World} {x y : Lk} {s t : Value} {W : World} (h : TwoAt w x y s t W) : TwoAt w x y s t W.drew := by
  obtain ⟨g1, g2, e1, e2, l1, l2, a1, a2, hb⟩ := h
  exact ⟨g1, g2, e1, e2, l1, l2, ⟨a1.1, a1.2, a1.3, a1.4, a1.5⟩, ⟨a2.1, a2.2, a2.3, a2.4, a2.5⟩, hb.drew⟩
set_option maxHeartbeats 8000000 in
theorem C_CrossedLooksS (v : Value) (n : Nat) (R : Nat → Lk) (z : Int) (w : World) (h : LKs w v n R) (hs : ∀ j, j < n → (R j).why.size ≤ 9223372036854775807) :
    Calls Tryz.prog 35 #[v, .int .i64 z] w fun e w' => ∃ v', e = .returned (.tuple #[v', .bool (clOk n R z)]) ∧ OSS w.heap.size w' v' (clL n R z).length (at_ (clL n R z)) ∧ Below w.heap.size w w' := by
  obtain ⟨w0, hw0⟩ : ∃ w0, w0 = w.alloc (.cells #[] 29) := ⟨_, rfl⟩
  have hb0 : Below w.heap.size w w0 := by rw [hw0]; (repeat (first | with_reducible exact Below.refl _ _ | with_reducible exact below_regrown _ _ _ | with_reducible refine bel_step0 (by assumption) ?_ | with_reducible refine bel_alloc0 ?_ _ | with_reducible refine bel_regrown0 ?_ _ _ | with_reducible refine bel_regrown ?_ (by first | omega | (simp; done) | (simp; omega)) _ _ | with_reducible refine below_drewN ?_ _ | with_reducible refine Below.drew ?_ | with_reducible refine Below.alloc ?_ (by first | omega | (simp; done) | (simp; omega)) _ | with_reducible refine Below.setCell ?_ (by first | omega | (simp; done) | (simp; omega)) _ | with_reducible refine bel_step (by assumption) (by first | omega | (simp; done) | (simp; omega)) ?_ | with_reducible refine bel_grown (by assumption) (by first | omega | (simp; done) | (simp; omega)) (by first | omega | (simp; done) | (simp; omega)) ?_))
  have ho0 : ∀ L, OSS w.heap.size w0 (.slice (some ⟨w.heap.size, 0, none⟩) 0 0) 0 L := fun L => by rw [hw0]; exact OSS.empty (Nat.le_refl _) L
  have HW0 := Lib.hid hw0
  have HO0 := Lib.hid ho0
  have HH := Lib.hid (h.below hb0)
  have HS := Lib.hid hs
  obtain ⟨A, cap, rfl, hr, hc, hm⟩ := h
  have HR := Lib.hid hr
  clear hr hs hw0 ho0
  cases hd : accB n R
  · have e0 : clOk n R z = false := by unfold clOk; rw [hd]; rfl
    have e1 : clL n R z = [] := by unfold clL; rw [e0]; rfl
    rw [e0, e1]; clear e0 e1
    go_enter Tryz.func35, Tryz.ntmps35
    go_wp2_with fail
    rw [← HW0.out]
    refine (C_l22Good _ _ _ _ HH.out HS.out).mono ?_; rintro e w1 ⟨rfl, hb1⟩; rw [hd]
    go_wp2_with fail
    go_ret2
    exact ⟨_, rfl, (HO0.out _).below hb1, bel_step0 hb1 hb0⟩
  cases hz : within z 0 1000000
  · have e0 : clOk n R z = false := by unfold clOk; rw [hd, hz]; rfl
    have e1 : clL n R z = [] := by unfold clL; rw [e0]; rfl
    rw [e0, e1]; clear e0 e1
    go_enter Tryz.func35, Tryz.ntmps35
    go_wp2_with fail
    rw [← HW0.out]
    refine (C_l22Good _ _ _ _ HH.out HS.out).mono ?_; rintro e w1 ⟨rfl, hb1⟩; rw [hd]
    go_wp2_with fail
    refine (C_l1In _ _ _ _).mono ?_; rintro e w2 ⟨rfl, rfl⟩; rw [hz]
    go_wp2_with fail
    go_ret2
    exact ⟨_, rfl, (HO0.out _).below hb1, bel_step0 hb1 hb0⟩
  have hn15 := accB_le hd
  have e0 : clOk n R z = true := by unfold clOk; rw [hd, hz]; rfl
  have e1 : clL n R z = outC R z n n := by unfold clL; rw [e0]; rfl
  rw [e0, e1]; clear e0 e1
  obtain ⟨z1, z2⟩ := within_iff.1 hz
  have HAB := Lib.hid (fun k (hk : k < n) => (accB_bd hd hk).1)
  go_enter Tryz.func35, Tryz.ntmps35
  go_wp2_with fail
  rw [← HW0.out]
  refine (C_l22Good _ _ _ _ HH.out HS.out).mono ?_; rintro e w1 ⟨rfl, hb1⟩; rw [hd]
  go_wp2_with fail
  refine (C_l1In _ _ _ _).mono ?_; rintro e w2 ⟨rfl, rfl⟩; rw [hz]
  have HB1 := Lib.hid (bel_step0 hb1 hb0)
  have HO1 := Lib.hid (fun L => (HO0.out L).below hb1)
  clear hb1 hb0 hd hz
  go_wp2_with fail
  go_loopw [6, 7, 8] (fun o i _ wr => ∃ k : Nat, k ≤ n ∧ i = .int .i64 k ∧ OSS w.heap.size wr o (outC R z n k).length (at_ (outC R z n k)) ∧ Below w.heap.size w wr) (fun _ i _ _ => n - (intOf i).toNat)
  case atStart => exact ⟨0, Nat.zero_le _, rfl, HO1.out _, HB1.out⟩
  case round =>
    obtain ⟨k, hk, rfl, ho, hB⟩ := hrel
    have HO := Lib.hid ho; clear ho
    obtain ⟨wo, rfl⟩ : ∃ wo : World, wo = wr := ⟨_, rfl⟩
    have HBB := Lib.hid hB
    by_cases hlt : k < n
    · clear hB
      have hki : (k : Int) < (n : Int) := by omega
      go_wp2
      go_loopw [6, 8] (fun o i wr => ∃ m : Nat, k + 1 + m ≤ n ∧ i = .int .i64 ((k + 1 + m : Nat) : Int) ∧ OSS w.heap.size wr o (outC R z n k ++ inC R z k m).length (at_ (outC R z n k ++ inC R z k m)) ∧ Below w.heap.size w wr) (fun _ i _ => n - (intOf i).toNat)
      case atStart => exact ⟨0, by omega, by go_num, by simpa [inC] using HO.out, HBB.out⟩
      case round =>
        clear HO HBB
        obtain ⟨m, hm2, rfl, ho, hB⟩ := hrel
        have HO2 := Lib.hid ho
        have HB2 := Lib.hid hB
        have hbs := hB.size
        by_cases hml : k + 1 + m < n
        · obtain ⟨b, off, rfl, hb, hcell⟩ := (HR.out.below hB) (by omega)
          obtain ⟨c0, c1, c2, c3, c4⟩ := hcell k hlt
          obtain ⟨d0, d1, d2, d3, d4⟩ := hcell (k + 1 + m) hml
          obtain ⟨t1, t2⟩ := HAB.out k hlt
          obtain ⟨t3, t4⟩ := HAB.out (k + 1 + m) hml
          have hmi : (k : Int) + 1 + (m : Int) < (n : Int) := by omega
          clear hcell ho hB
          go_upto_region 10 with fail
          go_cut [9, 10] (fun s9 s10 wx => TwoAt wr (R k) (R (k + 1 + m)) s9 s10 wx)
          case first =>
            go_region
            all_goals
              go_wp2
              go_meet
              first | exact two_a _ _ _ _ | exact two_b _ _ _ _ | exact (two_a _ _ _ _).drew | exact (two_b _ _ _ _).drew | exact (two_a _ _ _ _).drew.drew | exact (two_b _ _ _ _).drew.drew
          case rest =>
            rename World => wx
            obtain ⟨g1, g2, rfl, rfl, l1, l2, a1, a2, hb2⟩ := hcut
            replace HO2 := Lib.hid (HO2.out.below hb2)
            replace HB2 := Lib.hid (bel_step0 hb2 HB2.out)
            have hbs2 := HB2.out.size
            obtain ⟨c0, c1, c2, c3, c4⟩ := a1
            obtain ⟨d0, d1, d2, d3, d4⟩ := a2
            simp only [Nat.zero_add] at c1 c2 c3 c4 d1 d2 d3 d4
            have hlen : (outC R z n k ++ inC R z k m).length ≤ 1048576 := by
              have h1 := inC_le R z k m
              have h2 := outC_le R z n k
              have h3 := Nat.mul_le_mul (show k ≤ 15 by omega) hn15
              rw [List.length_append]; omega
            clear hb2 c4 d4
            cases q1 : ((R k).rid == (R (k + 1 + m)).rid)
            · have HCR := Lib.hid (show crB (R k) (R (k + 1 + m)) z = false by simp [crB, acB, q1])
              (go_wp2; go_roundw; (case rel => exact ⟨m + 1, by omega, by go_num, by rw [inC_no HCR.out]; exact HO2.out, HB2.out⟩); (case measure => simp [intOf]; omega))
            cases q2 : ((R k).who != (R (k + 1 + m)).who)
            · have HCR := Lib.hid (show crB (R k) (R (k + 1 + m)) z = false by simp [crB, acB, q2])
              (go_wp2; go_roundw; (case rel => exact ⟨m + 1, by omega, by go_num, by rw [inC_no HCR.out]; exact HO2.out, HB2.out⟩); (case measure => simp [intOf]; omega))
            cases q3 : ((R k).kind == 2)
            · cases q4 : ((R (k + 1 + m)).kind == 2)
              · have HCR := Lib.hid (show crB (R k) (R (k + 1 + m)) z = false by simp [crB, acB, q3, q4])
                (go_wp2; go_roundw; (case rel => exact ⟨m + 1, by omega, by go_num, by rw [inC_no HCR.out]; exact HO2.out, HB2.out⟩); (case measure => simp [intOf]; omega))
              by_cases q5 : (R (k + 1 + m)).tick - (R k).tick ≤ z
              · have HCR := Lib.hid (show crB (R k) (R (k + 1 + m)) z = true by simp [crB, acB, q1, q2, q3, q4, q5])
                (go_wp2_with (at_builtin; refine wp_appRow wx rfl (.tmp 74) (.tmp 78) rfl w.heap.size _ _ _ _ _ rfl HO2.out rfl hlen hbs2 ?_; intro v4 w4 ho4 hb4 hk4 hv4; have HO4 := Lib.hid (ho4.congr (snoc_at _ _)); have HB4 := Lib.hid (((HB2.out.alloc (by simpa using hbs2) _).alloc (by simp; omega) _).trans hb4); clear ho4 hb4 hk4 hv4); go_roundw; (case rel => exact ⟨m + 1, by omega, by go_num, by (have e : outC R z n k ++ inC R z k (m + 1) = (outC R z n k ++ inC R z k m) ++ [[(k : Int), ((k + 1 + m : Nat) : Int)]] := (by rw [inC_yes HCR.out, List.append_assoc]); rw [e, List.length_append]; exact HO4.out), HB4.out⟩); (case measure => simp [intOf]; omega))
              · have HCR := Lib.hid (show crB (R k) (R (k + 1 + m)) z = false by simp [crB, q5])
                (go_wp2; go_roundw; (case rel => exact ⟨m + 1, by omega, by go_num, by rw [inC_no HCR.out]; exact HO2.out, HB2.out⟩); (case measure => simp [intOf]; omega))
            · by_cases q5 : (R (k + 1 + m)).tick - (R k).tick ≤ z
              · have HCR := Lib.hid (show crB (R k) (R (k + 1 + m)) z = true by simp [crB, acB, q1, q2, q3, q5])
                (go_wp2_with (at_builtin; refine wp_appRow wx rfl (.tmp 74) (.tmp 78) rfl w.heap.size _ _ _ _ _ rfl HO2.out rfl hlen hbs2 ?_; intro v4 w4 ho4 hb4 hk4 hv4; have HO4 := Lib.hid (ho4.congr (snoc_at _ _)); have HB4 := Lib.hid (((HB2.out.alloc (by simpa using hbs2) _).alloc (by simp; omega) _).trans hb4); clear ho4 hb4 hk4 hv4); go_roundw; (case rel => exact ⟨m + 1, by omega, by go_num, by (have e : outC R z n k ++ inC R z k (m + 1) = (outC R z n k ++ inC R z k m) ++ [[(k : Int), ((k + 1 + m : Nat) : Int)]] := (by rw [inC_yes HCR.out, List.append_assoc]); rw [e, List.length_append]; exact HO4.out), HB4.out⟩); (case measure => simp [intOf]; omega))
              · have HCR := Lib.hid (show crB (R k) (R (k + 1 + m)) z = false by simp [crB, q5])
                (go_wp2; go_roundw; (case rel => exact ⟨m + 1, by omega, by go_num, by rw [inC_no HCR.out]; exact HO2.out, HB2.out⟩); (case measure => simp [intOf]; omega))
        · obtain rfl : n = k + 1 + m := by omega
          go_wp2
          go_roundw
          case rel => exact ⟨k + 1, by omega, by go_num, by have e : outC R z (k + 1 + m) (k + 1) = outC R z (k + 1 + m) k ++ inC R z k m := (by show outC R z (k + 1 + m) k ++ inC R z k (k + 1 + m - (k + 1)) = _; rw [show k + 1 + m - (k + 1) = m by omega]); rw [e]; exact HO2.out, HB2.out⟩
          case measure => simp [intOf]; omega
    · obtain rfl : k = n := by omega
      go_wp2
      go_ret2
      exact ⟨_, rfl, HO.out, HBB.out⟩
end Go.Proofs.YtmhelhjjadoiaaaGreatDoor

/- Crossed looks: the program. No condition but those stated. -/
namespace Go.Proofs.YtmhelhjjadoiaaaGreatDoor
set_option linter.unusedVariables false
set_option linter.unusedSimpArgs false
open Go.RowKit Go.Sort
set_option maxHeartbeats 2000000 in
theorem C_areCrossed (x y : Lk) (w : World) :
    Calls Tryz.prog 76 #[.agg #[.int .i64 (x).tick, .int .i64 (x).who, .int .i64 (x).rid, .int .i64 (x).kind, .string (x).why], .agg #[.int .i64 (y).tick, .int .i64 (y).who, .int .i64 (y).rid, .int .i64 (y).kind, .string (y).why]] w fun e w' => e = .returned (.bool (acB x y)) ∧ Below w.heap.size w w' := by
  obtain ⟨x0, x1, x2, x3, x4⟩ := x
  obtain ⟨y0, y1, y2, y3, y4⟩ := y
  simp only
  go_enter Tryz.func76, Tryz.ntmps76
  go_wp2
  all_goals (go_ret; refine ⟨ret_bool ?_, by (repeat (first | with_reducible exact Below.refl _ _ | with_reducible exact below_regrown _ _ _ | with_reducible refine bel_step0 (by assumption) ?_ | with_reducible refine bel_alloc0 ?_ _ | with_reducible refine bel_regrown0 ?_ _ _ | with_reducible refine bel_regrown ?_ (by first | omega | (simp; done) | (simp; omega)) _ _ | with_reducible refine below_drewN ?_ _ | with_reducible refine Below.drew ?_ | with_reducible refine Below.alloc ?_ (by first | omega | (simp; done) | (simp; omega)) _ | with_reducible refine Below.setCell ?_ (by first | omega | (simp; done) | (simp; omega)) _ | with_reducible refine bel_step (by assumption) (by first | omega | (simp; done) | (simp; omega)) ?_ | with_reducible refine bel_grown (by assumption) (by first | omega | (simp; done) | (simp; omega)) (by first | omega | (simp; done) | (simp; omega)) ?_))⟩)
  all_goals (simp_all [acB])
set_option maxHeartbeats 8000000 in
theorem C_CrossedLooksI (v : Value) (n : Nat) (R : Nat → Lk) (z : Int) (w : World) (h : LKs w v n R) (hs : ∀ j, j < n → (R j).why.size ≤ 9223372036854775807) :
    Calls Tryz.prog 34 #[v, .int .i64 z] w fun e w' => ∃ v', e = .returned (.tuple #[v', .bool (clOk n R z)]) ∧ OSS w.heap.size w' v' (clL n R z).length (at_ (clL n R z)) ∧ Below w.heap.size w w' := by
  have HH := Lib.hid h
  have HS := Lib.hid hs
  obtain ⟨A, cap, rfl, hr, hc, hm⟩ := h
  have HR := Lib.hid hr
  clear hr hs
  cases hd : accB n R
  · have e0 : clOk n R z = false := by unfold clOk; rw [hd]; rfl
    have e1 : clL n R z = [] := by unfold clL; rw [e0]; rfl
    rw [e0, e1]; clear e0 e1
    go_enter Tryz.func34, Tryz.ntmps34
    go_wp2_with fail
    refine (C_IsAccount _ _ _ _ HH.out HS.out).mono ?_; rintro e w1 ⟨rfl, hb1⟩; rw [hd]
    go_wp2_with fail
    go_ret2
    exact ⟨_, rfl, OSS.nil _ _ _, hb1⟩
  by_cases hz0 : 0 ≤ z
  case neg =>
    have e0 : clOk n R z = false := by unfold clOk within; rw [decide_eq_false hz0]; simp
    have e1 : clL n R z = [] := by unfold clL; rw [e0]; rfl
    rw [e0, e1]; clear e0 e1
    go_enter Tryz.func34, Tryz.ntmps34
    go_wp2_with fail
    refine (C_IsAccount _ _ _ _ HH.out HS.out).mono ?_; rintro e w1 ⟨rfl, hb1⟩; rw [hd]
    go_wp2_with fail
    go_ret2
    exact ⟨_, rfl, OSS.nil _ _ _, hb1⟩
  by_cases hz1 : z ≤ 1000000
  case neg =>
    have e0 : clOk n R z = false := by unfold clOk within; rw [decide_eq_false hz1]; simp
    have e1 : clL n R z = [] := by unfold clL; rw [e0]; rfl
    rw [e0, e1]; clear e0 e1
    go_enter Tryz.func34, Tryz.ntmps34
    go_wp2_with fail
    refine (C_IsAccount _ _ _ _ HH.out HS.out).mono ?_; rintro e w1 ⟨rfl, hb1⟩; rw [hd]
    go_wp2_with fail
    go_ret2
    exact ⟨_, rfl, OSS.nil _ _ _, hb1⟩
  have hn15 := accB_le hd
  have e0 : clOk n R z = true := by unfold clOk; rw [hd, within_iff.2 ⟨hz0, hz1⟩]; rfl
  have e1 : clL n R z = outC R z n n := by unfold clL; rw [e0]; rfl
  rw [e0, e1]; clear e0 e1
  have HAB := Lib.hid (fun k (hk : k < n) => (accB_bd hd hk).1)
  go_enter Tryz.func34, Tryz.ntmps34
  go_wp2_with fail
  refine (C_IsAccount _ _ _ _ HH.out HS.out).mono ?_; rintro e w1 ⟨rfl, hb1⟩; rw [hd]
  have HB1 := Lib.hid hb1
  clear hb1 hd
  go_wp2_with fail
  go_loopw [6, 7, 8, 9, 23] (fun o _ _ _ i wr => ∃ k : Nat, k ≤ n ∧ i = .int .i64 k ∧ OSS w.heap.size wr o (outC R z n k).length (at_ (outC R z n k)) ∧ Below w.heap.size w wr) (fun _ _ _ _ i _ => n - (intOf i).toNat)
  case atStart => exact ⟨0, Nat.zero_le _, rfl, OSS.nil _ _ _, HB1.out⟩
  case round =>
    obtain ⟨k, hk, rfl, ho, hB⟩ := hrel
    have HO := Lib.hid ho; clear ho
    obtain ⟨wo, rfl⟩ : ∃ wo : World, wo = wr := ⟨_, rfl⟩
    have HBB := Lib.hid hB
    by_cases hlt : k < n
    · obtain ⟨b, off, rfl, hb, hcell⟩ := (HR.out.below hB) (by omega)
      obtain ⟨c0, c1, c2, c3, c4⟩ := hcell k hlt
      have hki : (k : Int) < (n : Int) := by omega
      have hbo := hB.size
      obtain ⟨wl, hwl⟩ : ∃ wl, wl = wo.alloc (.cells #[.int .i64 (R k).tick, .int .i64 (R k).who, .int .i64 (R k).rid, .int .i64 (R k).kind, .string (R k).why] 37) := ⟨_, rfl⟩
      have hbl : Below wo.heap.size wo wl := by rw [hwl]; exact (Below.refl _ _).alloc (Nat.le_refl _) _
      have hxl : LkAt wl wo.heap.size 0 (R k) := by rw [hwl]; exact lk_alloc _ _ _
      have hzl : wo.heap.size < wl.heap.size := by rw [hwl]; simp
      have HWL := Lib.hid hwl
      have HXL := Lib.hid hxl
      have HOL := Lib.hid (HO.out.below hbl)
      have HBL := Lib.hid (bel_step0 hbl HBB.out)
      clear hcell hB hwl hxl hbl
      go_wp2
      rw [← HWL.out]
      clear c0 c1 c2 c3 c4
      go_loopw [6, 9] (fun o i wr => ∃ m : Nat, k + 1 + m ≤ n ∧ i = .int .i64 ((k + 1 + m : Nat) : Int) ∧ OSS w.heap.size wr o (outC R z n k ++ inC R z k m).length (at_ (outC R z n k ++ inC R z k m)) ∧ Below w.heap.size w wr ∧ LkAt wr wo.heap.size 0 (R k) ∧ o.ownBlock ≠ some wo.heap.size ∧ wo.heap.size < wr.heap.size) (fun _ i _ => n - (intOf i).toNat)
      case atStart =>
        refine ⟨0, by omega, by go_num, by simpa [inC] using HOL.out, HBL.out, HXL.out, fun e => ?_, hzl⟩
        obtain ⟨S, h1, _⟩ := HO.out
        have := (h1.lt _ e).2
        omega
      case round =>
        clear HO HBB HOL HBL HXL HWL hzl
        obtain ⟨m, hm2, rfl, ho, hB, hx, hne, hgl⟩ := hrel
        have HO2 := Lib.hid ho
        have HB2 := Lib.hid hB
        have HX := Lib.hid hx
        have HNE := Lib.hid hne
        have hbs := hB.size
        by_cases hml : k + 1 + m < n
        · obtain ⟨b', off', e', hb2, hcell⟩ := (HR.out.below hB) (by omega)
          injection e' with e'; injection e' with e1 e2 _; subst e1 e2
          obtain ⟨d0, d1, d2, d3, d4⟩ := hcell (k + 1 + m) hml
          obtain ⟨x0, x1, x2, x3, x4⟩ := hx
          simp only [Nat.zero_add] at x1 x2 x3 x4
          obtain ⟨t1, t2⟩ := HAB.out k hlt
          obtain ⟨t3, t4⟩ := HAB.out (k + 1 + m) hml
          have hmi : (k : Int) + 1 + (m : Int) < (n : Int) := by omega
          have g0 := cell_regrown d0; have g1 := cell_regrown d1; have g2 := cell_regrown d2; have g3 := cell_regrown d3; have g4 := cell_regrown d4
          have y0 := cell_regrown x0; have y1 := cell_regrown x1; have y2 := cell_regrown x2; have y3 := cell_regrown x3; have y4 := cell_regrown x4
          obtain ⟨p, hp⟩ : ∃ p, acB (R k) (R (k + 1 + m)) = p := ⟨_, rfl⟩
          have HE : ∀ d os, Calls Tryz.prog 76 #[.agg #[.int .i64 (R k).tick, .int .i64 (R k).who, .int .i64 (R k).rid, .int .i64 (R k).kind, .string (R k).why], .agg #[.int .i64 (R (k + 1 + m)).tick, .int .i64 (R (k + 1 + m)).who, .int .i64 (R (k + 1 + m)).rid, .int .i64 (R (k + 1 + m)).kind, .string (R (k + 1 + m)).why]] (grow (redrawn wr d) os) fun e w'' => e = .returned (.bool p) ∧ ∃ p : Regrown, w'' = grow (redrawn wr p.d) p.os :=
            fun d os => Calls.regrown_of ((C_areCrossed _ _ _).mono fun e w' hh => ⟨hh.1.trans (by rw [hp]), hh.2⟩)
          have HP := Lib.hid hp
          clear hcell ho hB hne d0 d1 d2 d3 d4 x0 x1 x2 x3 x4 hp
          cases p
          · have HCR := Lib.hid (show crB (R k) (R (k + 1 + m)) z = false by simp [crB, HP.out])
            go_wp2
            (refine wp_region_quiet_below (by kernel_rfl) (by kernel_rfl) ?_; (repeat (go_big_quiet_step (exact HE _ _))); refine wpQuiet_nil ?_; intro _ hw'; obtain ⟨⟨dq, osq⟩, hw''⟩ := hw'; subst hw'')
            go_wp2
            go_roundw
            case rel => exact ⟨m + 1, by omega, by go_num, by rw [inC_no HCR.out]; exact HO2.out.below (below_regrown _ _ _), by have hB := HB2.out; (repeat (first | with_reducible exact Below.refl _ _ | with_reducible exact below_regrown _ _ _ | with_reducible refine bel_step0 (by assumption) ?_ | with_reducible refine bel_alloc0 ?_ _ | with_reducible refine bel_regrown0 ?_ _ _ | with_reducible refine bel_regrown ?_ (by first | omega | (simp; done) | (simp; omega)) _ _ | with_reducible refine below_drewN ?_ _ | with_reducible refine Below.drew ?_ | with_reducible refine Below.alloc ?_ (by first | omega | (simp; done) | (simp; omega)) _ | with_reducible refine Below.setCell ?_ (by first | omega | (simp; done) | (simp; omega)) _ | with_reducible refine bel_step (by assumption) (by first | omega | (simp; done) | (simp; omega)) ?_ | with_reducible refine bel_grown (by assumption) (by first | omega | (simp; done) | (simp; omega)) (by first | omega | (simp; done) | (simp; omega)) ?_)), HX.out.block ((below_regrown _ _ _).block _ hgl), HNE.out, Nat.lt_of_lt_of_le hgl (below_regrown _ _ _).size⟩
            case measure => simp [intOf]; omega
          · by_cases q5 : (R (k + 1 + m)).tick - (R k).tick ≤ z
            · have HCR := Lib.hid (show crB (R k) (R (k + 1 + m)) z = true by simp [crB, HP.out, q5])
              have hlen : (outC R z n k ++ inC R z k m).length ≤ 1048576 := by
                have h1 := inC_le R z k m
                have h2 := outC_le R z n k
                have h3 := Nat.mul_le_mul (show k ≤ 15 by omega) hn15
                rw [List.length_append]; omega
              go_wp2
              (refine wp_region_quiet_below (by kernel_rfl) (by kernel_rfl) ?_; (repeat (go_big_quiet_step (exact HE _ _))); refine wpQuiet_nil ?_; intro _ hw'; obtain ⟨⟨dq, osq⟩, hw''⟩ := hw'; subst hw'')
              clear g0 g1 g2 g3 g4 y0 y1 y2 y3 y4 HE
              obtain ⟨wx, hwx⟩ : ∃ wx, wx = grow (redrawn wr dq) osq := ⟨_, rfl⟩
              have hbx : Below wr.heap.size wr wx := by rw [hwx]; exact below_regrown _ _ _
              rw [← hwx]
              have HO3 := Lib.hid (HO2.out.below hbx)
              have HB3 := Lib.hid (bel_step0 hbx HB2.out)
              have HX3 := Lib.hid (HX.out.block (hbx.block _ hgl))
              have hgx := Nat.lt_of_lt_of_le hgl hbx.size
              have hbs2 := HB3.out.size
              clear hwx hbx
              go_wp2_with (at_builtin; refine wp_appRow wx rfl (.tmp 54) (.tmp 58) rfl w.heap.size _ _ _ _ _ rfl HO3.out rfl hlen hbs2 ?_; intro v4 w4 ho4 hb4 hk4 hv4; have HO4 := Lib.hid (ho4.congr (snoc_at _ _)); have HB4 := Lib.hid (((HB3.out.alloc (by simpa using hbs2) _).alloc (by simp; omega) _).trans hb4); have HK4 := Lib.hid (And.intro hk4 (And.intro hv4 hb4.size)); clear ho4 hb4 hk4 hv4)
              go_roundw
              case rel =>
                have hblk := HK4.out.1 wo.heap.size hgx HNE.out
                have hz4 := HK4.out.2.2
                simp only [World.size_alloc] at hz4
                refine ⟨m + 1, by omega, by go_num, ?_, HB4.out, HX3.out.block hblk, ?_, by omega⟩
                · have e : outC R z n k ++ inC R z k (m + 1) = (outC R z n k ++ inC R z k m) ++ [[(k : Int), ((k + 1 + m : Nat) : Int)]] := by rw [inC_yes HCR.out, List.append_assoc]
                  rw [e, List.length_append]; exact HO4.out
                · rcases HK4.out.2.1 with h | h
                  · rw [h]; exact HNE.out
                  · rw [h]; intro e; injection e with e; omega
              case measure => simp [intOf]; omega
            · have HCR := Lib.hid (show crB (R k) (R (k + 1 + m)) z = false by simp [crB, q5])
              go_wp2
              (refine wp_region_quiet_below (by kernel_rfl) (by kernel_rfl) ?_; (repeat (go_big_quiet_step (exact HE _ _))); refine wpQuiet_nil ?_; intro _ hw'; obtain ⟨⟨dq, osq⟩, hw''⟩ := hw'; subst hw'')
              go_wp2
              go_roundw
              case rel => exact ⟨m + 1, by omega, by go_num, by rw [inC_no HCR.out]; exact HO2.out.below (below_regrown _ _ _), by have hB := HB2.out; (repeat (first | with_reducible exact Below.refl _ _ | with_reducible exact below_regrown _ _ _ | with_reducible refine bel_step0 (by assumption) ?_ | with_reducible refine bel_alloc0 ?_ _ | with_reducible refine bel_regrown0 ?_ _ _ | with_reducible refine bel_regrown ?_ (by first | omega | (simp; done) | (simp; omega)) _ _ | with_reducible refine below_drewN ?_ _ | with_reducible refine Below.drew ?_ | with_reducible refine Below.alloc ?_ (by first | omega | (simp; done) | (simp; omega)) _ | with_reducible refine Below.setCell ?_ (by first | omega | (simp; done) | (simp; omega)) _ | with_reducible refine bel_step (by assumption) (by first | omega | (simp; done) | (simp; omega)) ?_ | with_reducible refine bel_grown (by assumption) (by first | omega | (simp; done) | (simp; omega)) (by first | omega | (simp; done) | (simp; omega)) ?_)), HX.out.block ((below_regrown _ _ _).block _ hgl), HNE.out, Nat.lt_of_lt_of_le hgl (below_regrown _ _ _).size⟩
              case measure => simp [intOf]; omega
        · obtain rfl : n = k + 1 + m := by omega
          clear hx
          go_wp2
          go_roundw
          case rel => exact ⟨k + 1, by omega, by go_num, by have e : outC R z (k + 1 + m) (k + 1) = outC R z (k + 1 + m) k ++ inC R z k m := (by show outC R z (k + 1 + m) k ++ inC R z k (k + 1 + m - (k + 1)) = _; rw [show k + 1 + m - (k + 1) = m by omega]); rw [e]; exact HO2.out, HB2.out⟩
          case measure => simp [intOf]; omega
    · obtain rfl : k = n := by omega
      go_wp2
      go_ret2
      exact ⟨_, rfl, HO.out, HBB.out⟩
end Go.Proofs.YtmhelhjjadoiaaaGreatDoor

/- Facts on looks that FnLooks and FnAccounts ask for. No condition but those stated. -/
namespace Go.Proofs.YtmhelhjjadoiaaaGreatDoor
set_option linter.unusedVariables false
set_option linter.unusedSimpArgs false
theorem accB_lt {n : Nat} {R : Nat → Lk} (h : accB n R = true) : ∀ i j, i < j → j < n → (R i).tick < (R j).tick := by
  have hg : allB n (acc1 R) = true := by unfold accB at h; simp only [Bool.and_eq_true] at h; exact h.1
  have step : ∀ j, j + 1 < n → (R j).tick < (R (j + 1)).tick := fun j hj => by
    have := allB_iff.1 hg (j + 1) hj
    rw [acc1_succ, Bool.and_eq_true, decide_eq_true_eq] at this
    exact this.2
  intro i j
  induction j with
  | zero => intro h _; omega
  | succ j ih =>
    intro hi hj
    have := step j hj
    by_cases e : i = j
    · subst e; exact this
    · have := ih (by omega) (by omega); omega
theorem lastM_hit (R : Nat → Lk) (x : Int) : ∀ n, 0 ≤ lastM R x n → ∃ i, i < n ∧ lastM R x n = (i : Int) ∧ (R i).rid = x := by
  intro n
  induction n with
  | zero => intro h; simp [lastM] at h
  | succ n ih =>
    intro h
    simp only [lastM] at h ⊢
    split
    · rename_i hc
      simp only [Bool.and_eq_true, beq_iff_eq] at hc
      exact ⟨n, by omega, rfl, hc.1⟩
    · rename_i hc
      rw [if_neg hc] at h
      obtain ⟨i, h1, h2, h3⟩ := ih h
      exact ⟨i, by omega, h2, h3⟩
theorem whoL_mem (R : Nat → Lk) (x : Int) : ∀ n i, i < n → (R i).rid = x → (R i).who ∈ whoL R x n := by
  intro n
  induction n with
  | zero => intro i h; omega
  | succ n ih =>
    intro i hi hr
    by_cases e : i = n
    · subst e
      rw [whoL_yes (by simpa using hr)]; simp
    · have := ih i (by omega) hr
      cases hc : ((R n).rid == x)
      · rw [whoL_no hc]; exact this
      · rw [whoL_yes hc]; exact List.mem_append_left _ this
/-- Who changed a record last saw it. -/
theorem saw_fact {n : Nat} {R : Nat → Lk} {x : Int} (h : lcOk n R x = true) : anyB (wsL n R x).length (fun j => ai (wsL n R x) j == lcW n R x) = true := by
  have h0 := h
  unfold lcOk at h
  simp only [Bool.and_eq_true, decide_eq_true_eq] at h
  obtain ⟨⟨h1, h2⟩, h3⟩ := h
  obtain ⟨i, hi, he, hr⟩ := lastM_hit R x n h3
  have hw : wsOk n R x = true := by unfold wsOk; rw [h1, h2]; rfl
  have e1 : wsL n R x = once (whoL R x n) := by unfold wsL; rw [hw]; rfl
  have e2 : lcW n R x = (R i).who := by unfold lcW; rw [h0, if_pos rfl, he]; rfl
  rw [e1, e2, anyB_mem, once_mem]
  exact whoL_mem R x n i hi hr
/-- How many of the first k looks are at a record, behind a tick if there is one. -/
def cntL (R : Nat → Lk) (x : Int) (ok : Bool) (t : Int) : Nat → Nat
  | 0 => 0
  | k + 1 => cntL R x ok t k + (if ((R k).rid == x && (!ok || decide (t < (R k).tick))) = true then 1 else 0)
theorem cntL_le (R : Nat → Lk) (x : Int) (ok : Bool) (t : Int) (k : Nat) : cntL R x ok t k ≤ k := by
  induction k with
  | zero => exact Nat.le_refl _
  | succ k ih => simp only [cntL]; split <;> omega
/-- Reads since are the looks behind the last change. -/
theorem reads_fact (n : Nat) (R : Nat → Lk) (x : Int) : rsV n R x = if rsOk n R x then (cntL R x (lcOk n R x) (lcT n R x) n : Int) else 0 := by
  unfold rsV
  cases hr : rsOk n R x
  · rfl
  · simp only [if_true]
    have hr2 := hr
    unfold rsOk at hr2
    simp only [Bool.and_eq_true] at hr2
    have key : ∀ k, k ≤ n → rsM R x (lastM R x n) k = cntL R x (lcOk n R x) (lcT n R x) k := by
      intro k
      induction k with
      | zero => intro _; rfl
      | succ k ih =>
        intro hk
        have hi := ih (by omega)
        have e : (decide (lastM R x n < (k : Int)) && (R k).rid == x) = ((R k).rid == x && (!lcOk n R x || decide (lcT n R x < (R k).tick))) := by
          rw [Bool.and_comm]
          congr 1
          by_cases h3 : 0 ≤ lastM R x n
          · obtain ⟨i, hi2, he, _⟩ := lastM_hit R x n h3
            have hl : lcOk n R x = true := by unfold lcOk; rw [hr2.1, hr2.2]; simpa using h3
            have ht : lcT n R x = (R i).tick := by unfold lcT; rw [hl, if_pos rfl, he]; rfl
            rw [hl, ht, he]
            simp only [Bool.not_true, Bool.false_or]
            by_cases h4 : i < k
            · have := accB_lt hr2.1 i k h4 (by omega)
              rw [decide_eq_true (by omega), decide_eq_true this]
            · have : ¬ (R i).tick < (R k).tick := by
                by_cases h5 : i = k
                · subst h5; omega
                · have := accB_lt hr2.1 k i (by omega) hi2; omega
              rw [decide_eq_false (by omega), decide_eq_false this]
          · have hl : lcOk n R x = false := by unfold lcOk; rw [decide_eq_false h3, Bool.and_false]
            rw [hl, decide_eq_true (by omega)]; rfl
        simp only [rsM, cntL, e, hi]
        split <;> rfl
    rw [key n (Nat.le_refl _)]
theorem brM_grow (R : Nat → Lk) (z : Int) {g g' : Int} (hg : g ≤ g') : ∀ k, (brM R z g k).last = (brM R z g' k).last ∧ (brM R z g k).run ≤ (brM R z g' k).run ∧ (brM R z g k).most ≤ (brM R z g' k).most ∧ (0 < (brM R z g k).run ↔ 0 < (brM R z g' k).run) ∧ 0 ≤ (brM R z g k).run ∧ 0 ≤ (brM R z g' k).run := by
  intro k
  induction k with
  | zero => simp [brM]
  | succ k ih =>
    obtain ⟨h1, h2, h3, h4, h5, h6⟩ := ih
    simp only [brM]
    split
    · generalize brM R z g k = s at h1 h2 h3 h4 h5 h6
      generalize brM R z g' k = t at h1 h2 h3 h4 h5 h6
      unfold bstep
      by_cases c1 : 0 < s.run ∧ (R k).tick - s.last ≤ g
      · have c2 : 0 < t.run ∧ (R k).tick - t.last ≤ g' := ⟨h4.1 c1.1, by rw [← h1]; omega⟩
        rw [if_pos c1, if_pos c2]
        split <;> split <;> (refine ⟨rfl, ?_, ?_, ?_, ?_, ?_⟩ <;> (first | omega | (simp only; done) | (simp only; omega)))
      · rw [if_neg c1]
        by_cases c2 : 0 < t.run ∧ (R k).tick - t.last ≤ g'
        · rw [if_pos c2]
          split <;> split <;> (refine ⟨rfl, ?_, ?_, ?_, ?_, ?_⟩ <;> (first | omega | (simp only; done) | (simp only; omega)))
        · rw [if_neg c2]
          split <;> split <;> (refine ⟨rfl, ?_, ?_, ?_, ?_, ?_⟩ <;> (first | omega | (simp only; done) | (simp only; omega)))
    · exact ⟨h1, h2, h3, h4, h5, h6⟩
/-- No burst is longer with a smaller gap. -/
theorem burst_fact {n : Nat} {R : Nat → Lk} {z g : Int} (h : lbOk n R z (g + 1) = true) : lbM n R z g ≤ lbM n R z (g + 1) := by
  unfold lbM
  rw [h, if_pos rfl]
  have hm := (brM_grow R z (show g ≤ g + 1 by omega) n).2.2.1
  split
  · exact hm
  · have h2 := h
    unfold lbOk at h2
    simp only [Bool.and_eq_true] at h2
    exact (brM_bd z (g + 1) h2.1.1 n (Nat.le_refl _)).2.1.1
/-- Crossed looks are at one record by different people. -/
theorem cross_fact {n : Nat} {R : Nat → Lk} {z : Int} : ∀ row ∈ clL n R z, ∃ i j : Nat, row = [(i : Int), (j : Int)] ∧ i < n ∧ j < n ∧ (R i).rid = (R j).rid ∧ (R i).who ≠ (R j).who := by
  have h1 : ∀ i m, ∀ row ∈ inC R z i m, i + m < n → ∃ i j : Nat, row = [(i : Int), (j : Int)] ∧ i < n ∧ j < n ∧ (R i).rid = (R j).rid ∧ (R i).who ≠ (R j).who := by
    intro i m
    induction m with
    | zero => intro row h; cases h
    | succ m ih =>
      intro row h hn
      cases hc : crB (R i) (R (i + 1 + m)) z
      · rw [inC_no hc] at h
        exact ih row h (by omega)
      · rw [inC_yes hc] at h
        rcases List.mem_append.1 h with h | h
        · exact ih row h (by omega)
        · rw [List.mem_singleton.1 h]
          unfold crB acB at hc
          simp only [Bool.and_eq_true, beq_iff_eq, bne_iff_ne] at hc
          exact ⟨i, i + 1 + m, rfl, by omega, by omega, hc.1.1.1, hc.1.1.2⟩
  have h2 : ∀ k, k ≤ n → ∀ row ∈ outC R z n k, ∃ i j : Nat, row = [(i : Int), (j : Int)] ∧ i < n ∧ j < n ∧ (R i).rid = (R j).rid ∧ (R i).who ≠ (R j).who := by
    intro k
    induction k with
    | zero => intro _ row h; cases h
    | succ k ih =>
      intro hk row h
      simp only [outC, List.mem_append] at h
      rcases h with h | h
      · exact ih (by omega) row h
      · exact h1 k (n - (k + 1)) row h (by omega)
  intro row h
  unfold clL at h
  split at h
  · exact h2 n (Nat.le_refl _) row h
  · cases h
end Go.Proofs.YtmhelhjjadoiaaaGreatDoor
