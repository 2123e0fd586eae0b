/- Numbers within a query: digits and what they say; the reference's reader. No condition but those stated. -/
import Derived.Test.YtjmfkenhnfdbjaaGreatDoorNumD
import Derived.Test.YtjmfkenhnfdbjaaGreatDoorQyA
import Derived.Lib.AtoiAllCases
namespace Go.Proofs.YtjmfkenhnfdbjaaGreatDoor
set_option linter.unusedVariables false
set_option linter.unusedSimpArgs false
open Go.RowKit Go.Sort
def isD (c : UInt8) : Prop := 48 ≤ c.toNat ∧ c.toNat ≤ 57
/-- What digits say, behind a number. -/
def valA (acc : Nat) (l : List UInt8) : Nat := l.foldl (fun a c => a * 10 + (c.toNat - 48)) acc
theorem valA_snoc (acc : Nat) (l : List UInt8) (c : UInt8) : valA acc (l ++ [c]) = valA acc l * 10 + (c.toNat - 48) := by simp [valA]
theorem valA_le (l : List UInt8) : ∀ acc, acc ≤ valA acc l := by
  induction l with
  | nil => intro acc; exact Nat.le_refl _
  | cons c l ih =>
    intro acc
    have := ih (acc * 10 + (c.toNat - 48))
    show acc ≤ valA (acc * 10 + (c.toNat - 48)) l
    omega
theorem valA_lt : ∀ (l : List UInt8) (acc : Nat), (∀ c ∈ l, isD c) → valA acc l < (acc + 1) * 10 ^ l.length := by
  intro l
  induction l with
  | nil => intro acc _; simp [valA]
  | cons c l ih =>
    intro acc hd
    have h1 := ih (acc * 10 + (c.toNat - 48)) fun d hd' => hd d (List.mem_cons_of_mem _ hd')
    have h2 := hd c (List.mem_cons_self ..)
    unfold isD at h2
    have h3 : (acc * 10 + (c.toNat - 48) + 1) * 10 ^ l.length ≤ ((acc + 1) * 10) * 10 ^ l.length := Nat.mul_le_mul_right _ (by omega)
    rw [List.length_cons, Nat.pow_succ, Nat.mul_comm (10 ^ l.length) 10, ← Nat.mul_assoc]
    exact Nat.lt_of_lt_of_le h1 h3
theorem parse_dig : ∀ (l : List UInt8) (acc : Nat), (∀ c ∈ l, isD c) → (∃ u, Lib.parseUint10 acc l = .ok u ∧ u = valA acc l) ∨ (Lib.parseUint10 acc l = .range ∧ 1000000 ≤ valA acc l) := by
  intro l
  induction l with
  | nil => intro acc _; exact .inl ⟨acc, rfl, rfl⟩
  | cons c l ih =>
    intro acc hd
    have hc := hd c (List.mem_cons_self ..)
    have hl := fun d hd' => hd d (List.mem_cons_of_mem _ hd')
    have hv : valA acc (c :: l) = valA (acc * 10 + (c.toNat - 48)) l := rfl
    have hle := valA_le l (acc * 10 + (c.toNat - 48))
    unfold isD at hc
    rw [hv]
    simp only [Lib.parseUint10]
    rw [if_pos hc]
    by_cases h1 : 1844674407370955162 ≤ acc
    · rw [if_pos h1]; exact .inr ⟨rfl, by omega⟩
    · rw [if_neg h1]
      by_cases h2 : 18446744073709551616 ≤ acc * 10 + (c.toNat - 48)
      · rw [if_pos h2]; exact .inr ⟨rfl, by omega⟩
      · rw [if_neg h2]; exact ih _ hl
/-- strconv.Atoi at digits. -/
theorem atoi_dig (l : List UInt8) (hd : ∀ c ∈ l, isD c) : l = [] ∨ Lib.atoiAll l = .ok (valA 0 l : Int) ∨ (Lib.atoiAll l = .range ∧ 1000000 ≤ valA 0 l) := by
  cases l with
  | nil => exact .inl rfl
  | cons c r =>
    right
    have hc := hd c (List.mem_cons_self ..)
    unfold isD at hc
    have h0 : Lib.parseMag (c :: r) = Lib.parseUint10 0 (c :: r) := by unfold Lib.parseMag; rw [if_neg (by simp)]
    simp only [Lib.atoiAll]
    rw [if_neg (show ¬ (c.toNat = 43 ∨ c.toNat = 45) by omega), h0]
    rcases parse_dig (c :: r) 0 hd with ⟨u, h1, h2⟩ | ⟨h1, h2⟩
    · rw [h1]
      simp only
      rw [← h2]
      by_cases h3 : 9223372036854775808 ≤ u
      · right
        rw [if_pos ⟨by omega, h3⟩]; exact ⟨rfl, by omega⟩
      · left
        rw [if_neg (by omega), if_neg (by omega), if_neg (by omega)]
    · right
      rw [h1]; exact ⟨rfl, h2⟩
def valT (t : ByteArray) : Nat := valA 0 t.data.toList
def DigT (t : ByteArray) : Prop := ∀ c ∈ t.data.toList, isD c
/-- The number that digits are, if they are its usual text. -/
def numO (t : ByteArray) : Option Nat := if valT t < 1000000 ∧ (decN (valT t)).toList = t.toList then some (valT t) else none
def numV (t : ByteArray) : Int := match numO t with
  | none => 0
  | some u => (u : Int)
theorem numO_yes {t : ByteArray} (h1 : valT t < 1000000) (h2 : ((decN (valT t)).toList == t.toList) = true) : numO t = some (valT t) := by
  unfold numO; rw [if_pos ⟨h1, by simpa using h2⟩]
theorem numO_no {t : ByteArray} (h : 1000000 ≤ valT t ∨ ((decN (valT t)).toList == t.toList) = false) : numO t = none := by
  unfold numO
  rw [if_neg]
  rintro ⟨h1, h2⟩
  rcases h with h | h
  · omega
  · rw [h2] at h; simp at h
theorem decN_pos (u : Nat) : 1 ≤ (decN u).size := by
  by_cases h : u < 10
  · rw [decN_small h]; exact Nat.le_refl 1
  · rw [decN_step h, ByteArray.size_append]
    show 1 ≤ (decN (u / 10)).size + 1
    omega
theorem numO_len {t : ByteArray} (h : ¬ (1 ≤ t.size ∧ t.size ≤ 6)) : numO t = none := by
  unfold numO
  rw [if_neg]
  rintro ⟨h1, h2⟩
  have h3 := decN_size h1
  have h4 := decN_pos (valT t)
  have h5 : (decN (valT t)).size = t.size := by
    rw [Lib.toList_data, Lib.toList_data] at h2
    rw [Lib.size_eq, Lib.size_eq, h2]
  omega
theorem val_take (t : ByteArray) (k : Nat) (h : k < t.size) : valA 0 (t.data.toList.take (k + 1)) = valA 0 (t.data.toList.take k) * 10 + (t[k].toNat - 48) := by
  have hk : k < t.data.toList.length := by rw [← Lib.size_eq]; exact h
  have e : t.data.toList.take (k + 1) = t.data.toList.take k ++ [t[k]] := by
    rw [List.take_add_one, List.getElem?_eq_getElem hk]
    rfl
  rw [e, valA_snoc]
theorem dig_at {t : ByteArray} (hd : DigT t) {k : Nat} (h : k < t.size) : 48 ≤ t[k].toNat ∧ t[k].toNat ≤ 57 := by
  have hk : k < t.data.toList.length := by rw [← Lib.size_eq]; exact h
  have h1 := hd t.data.toList[k] (List.getElem_mem hk)
  exact h1
theorem val_take_lt {t : ByteArray} (hd : DigT t) {k : Nat} (hk : k ≤ 6) : valA 0 (t.data.toList.take k) < 1000000 := by
  have h1 := valA_lt (t.data.toList.take k) 0 fun c hc => hd c (List.mem_of_mem_take hc)
  have h2 : (t.data.toList.take k).length ≤ 6 := by rw [List.length_take]; omega
  have h3 : 10 ^ (t.data.toList.take k).length ≤ 10 ^ 6 := Nat.pow_le_pow_right (by omega) h2
  have h4 : (10 : Nat) ^ 6 = 1000000 := by decide
  omega
theorem val_all (t : ByteArray) : valA 0 (t.data.toList.take t.size) = valT t := by
  unfold valT
  rw [List.take_of_length_le (by rw [Lib.size_eq]; exact Nat.le_refl _)]
set_option maxHeartbeats 4000000 in
theorem C_l1Read (t : ByteArray) (hd : DigT t) (w : World) (hs : t.size ≤ 9223372036854775807) :
    Calls Tryz.prog 81 #[.string t] w fun e w' => e = .returned (.tuple #[.int .i64 (numV t), .bool (numO t).isSome]) ∧ Below w.heap.size w w' := by
  have HD := Lib.hid hd
  clear hd
  by_cases hl : 1 ≤ t.size ∧ t.size ≤ 6
  · obtain ⟨hl1, hl2⟩ := hl
    obtain ⟨hd0, hd1⟩ := dig_at HD.out (show 0 < t.size by omega)
    have hc0 : ((t[0].toNat : Int) == 45) = false := by rw [beq_eq_false_iff_ne]; omega
    have hw : within (t.size : Int) 1 6 = true := by unfold within; rw [decide_eq_true (by omega), decide_eq_true (by omega)]; rfl
    clear hd0 hd1
    go_enter Tryz.func81, Tryz.ntmps81
    go_wp2_with (go_at_call 72; refine (C_l1In _ _ _ _).mono ?_; rintro e w' ⟨rfl, rfl⟩; simp only [hw])
    all_goals
      go_loop [5, 6] (fun q i => ∃ k : Nat, k ≤ t.size ∧ i = .int .i64 k ∧ q = .int .i64 ((valA 0 (t.data.toList.take k) : Nat) : Int)) (fun _ i => t.size - (intOf i).toNat)
      case atStart => exact ⟨0, Nat.zero_le _, rfl, rfl⟩
      case round =>
        obtain ⟨k, hk, rfl, rfl⟩ := hrel
        by_cases hlt : k < t.size
        · obtain ⟨hd0, hd1⟩ := dig_at HD.out hlt
          have hst := val_take t k hlt
          have hvl := val_take_lt HD.out (show k ≤ 6 by omega)
          have hv2 := val_take_lt HD.out (show k + 1 ≤ 6 by omega)
          obtain ⟨V, hV⟩ : ∃ V, valA 0 (t.data.toList.take k) = V := ⟨_, rfl⟩
          obtain ⟨c, hc⟩ : ∃ c, t[k].toNat = c := ⟨_, rfl⟩
          rw [hV] at hvl hst ⊢
          rw [hc] at hd0 hd1 hst
          rw [hst] at hv2
          have HST := Lib.hid hst
          have hx1 : ¬ ((c : Int) < 48) := by omega
          have hx2 : ¬ ((57 : Int) < (c : Int)) := by omega
          clear hst hV
          go_wp2
          go_round
          case rel => exact ⟨k + 1, by omega, by go_num, by rw [HST.out]; exact congrArg (Value.int .i64) (by omega)⟩
          case measure => simp [intOf]; omega
        · obtain rfl : k = t.size := by omega
          have hV := val_all t
          have hvl := val_take_lt HD.out hl2
          rw [hV] at hvl ⊢
          obtain ⟨V, hVT⟩ : ∃ V, valT t = V := ⟨_, rfl⟩
          have hyes := numO_yes (t := t)
          have hno := numO_no (t := t)
          rw [hVT] at hvl hyes hno ⊢
          obtain ⟨bb, hbb⟩ : ∃ bb, ((decN V).toList == t.toList) = bb := ⟨_, rfl⟩
          rw [hbb] at hyes hno
          have HY := Lib.hid (And.intro hyes hno)
          have HVT := Lib.hid hVT
          clear hV hyes hno hVT
          go_wp2_with fail
          refine (C_l1NumD V hvl _).mono ?_; rintro e w1 ⟨rfl, k1, hw1⟩
          have HB : Below w.heap.size w w1 := by rw [hw1]; exact below_ahead w k1 #[]
          clear hw1
          cases bb
          · go_wp2
            go_ret2
            refine ⟨?_, HB⟩
            have := HY.out.2 (.inr (by simp))
            unfold numV
            rw [this]; rfl
          · go_wp2
            go_ret2
            refine ⟨?_, HB⟩
            have := HY.out.1 hvl (by simp)
            unfold numV
            rw [this]; rfl
  · have hw : within (t.size : Int) 1 6 = false := by
      unfold within
      rcases Nat.lt_or_ge t.size 1 with h | h
      · rw [decide_eq_false (show ¬ (1 : Int) ≤ (t.size : Int) by omega)]; rfl
      · rw [decide_eq_false (show ¬ (t.size : Int) ≤ 6 by omega)]; simp
    have hn := numO_len hl
    have HN := Lib.hid hn
    have hdd : ∀ h : 0 < t.size, ((t[0].toNat : Int) == 45) = false := fun h => by
      have := dig_at HD.out h
      rw [beq_eq_false_iff_ne]; omega
    clear hn
    by_cases h0 : 0 < t.size
    · have hc0 := hdd h0
      clear hdd
      go_enter Tryz.func81, Tryz.ntmps81
      go_wp2_with (go_at_call 72; refine (C_l1In _ _ _ _).mono ?_; rintro e w' ⟨rfl, rfl⟩; simp only [hw])
      all_goals
        go_ret2
        exact ⟨by unfold numV; rw [HN.out]; rfl, by (repeat (first | with_reducible exact Below.refl _ _ | with_reducible exact below_regrown _ _ _ | with_reducible refine bel_step0 (by assumption) ?_ | with_reducible refine bel_alloc0 ?_ _ | with_reducible refine bel_regrown0 ?_ _ _ | with_reducible refine bel_regrown ?_ (by first | omega | (simp; done) | (simp; omega)) _ _ | with_reducible refine below_drewN ?_ _ | with_reducible refine Below.drew ?_ | with_reducible refine Below.alloc ?_ (by first | omega | (simp; done) | (simp; omega)) _ | with_reducible refine Below.setCell ?_ (by first | omega | (simp; done) | (simp; omega)) _ | with_reducible refine bel_step (by assumption) (by first | omega | (simp; done) | (simp; omega)) ?_ | with_reducible refine bel_grown (by assumption) (by first | omega | (simp; done) | (simp; omega)) (by first | omega | (simp; done) | (simp; omega)) ?_))⟩
    · have hz : ¬ ((1 : Int) < (t.size : Int)) := by omega
      clear hdd
      go_enter Tryz.func81, Tryz.ntmps81
      go_wp2_with (go_at_call 72; refine (C_l1In _ _ _ _).mono ?_; rintro e w' ⟨rfl, rfl⟩; simp only [hw])
      all_goals
        go_ret2
        exact ⟨by unfold numV; rw [HN.out]; rfl, by (repeat (first | with_reducible exact Below.refl _ _ | with_reducible exact below_regrown _ _ _ | with_reducible refine bel_step0 (by assumption) ?_ | with_reducible refine bel_alloc0 ?_ _ | with_reducible refine bel_regrown0 ?_ _ _ | with_reducible refine bel_regrown ?_ (by first | omega | (simp; done) | (simp; omega)) _ _ | with_reducible refine below_drewN ?_ _ | with_reducible refine Below.drew ?_ | with_reducible refine Below.alloc ?_ (by first | omega | (simp; done) | (simp; omega)) _ | with_reducible refine Below.setCell ?_ (by first | omega | (simp; done) | (simp; omega)) _ | with_reducible refine bel_step (by assumption) (by first | omega | (simp; done) | (simp; omega)) ?_ | with_reducible refine bel_grown (by assumption) (by first | omega | (simp; done) | (simp; omega)) (by first | omega | (simp; done) | (simp; omega)) ?_))⟩
end Go.Proofs.YtjmfkenhnfdbjaaGreatDoor
