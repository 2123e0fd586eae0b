/- Last changes and reads: the program and the reference. No condition but those stated. -/
import Derived.Test.YtmhelhjjadoiaaaGreatDoorLkC
import Derived.Lib.SliceRun
namespace Go.Proofs.YtmhelhjjadoiaaaGreatDoor
set_option linter.unusedVariables false
set_option linter.unusedSimpArgs false
open Go.RowKit Go.Sort
def lastM (R : Nat → Lk) (x : Int) : Nat → Int
  | 0 => -1
  | k + 1 => if (R k).rid == x && (R k).kind == 2 then (k : Int) else lastM R x k
theorem lastM_bd (R : Nat → Lk) (x : Int) (n : Nat) : -1 ≤ lastM R x n ∧ lastM R x n < n := by
  induction n with
  | zero => simp [lastM]
  | succ n ih => simp only [lastM]; split <;> omega
theorem lastM_yes {R : Nat → Lk} {x : Int} {k : Nat} (h : ((R k).rid == x) = true) (h2 : ((R k).kind == 2) = true) : lastM R x (k + 1) = (k : Int) := by simp only [lastM, h, h2]; rfl
theorem lastM_no {R : Nat → Lk} {x : Int} {k : Nat} (h : (((R k).rid == x) && ((R k).kind == 2)) = false) : lastM R x (k + 1) = lastM R x k := by simp only [lastM, h]; rfl
theorem C_lastChange (v : Value) (n : Nat) (R : Nat → Lk) (x : Int) (w : World) (h : LKs w v n R) :
    Calls Tryz.prog 41 #[v, .int .i64 x] w fun e w' => e = .returned (.int .i64 (lastM R x n)) ∧ Below w.heap.size w w' := by
  obtain ⟨A, cap, rfl, hr, hc, hm⟩ := h
  have HR := Lib.hid hr; clear hr
  go_enter Tryz.func41, Tryz.ntmps41
  go_wp2
  go_loopw [5, 10] (fun l i wr => ∃ k : Nat, k ≤ n ∧ i = .int .i64 k ∧ l = .int .i64 (lastM R x k) ∧ Below w.heap.size w wr) (fun _ i _ => n - (intOf i).toNat)
  case atStart => exact ⟨0, Nat.zero_le _, rfl, rfl, Below.refl _ _⟩
  case round =>
    obtain ⟨k, hk, rfl, hl, hB⟩ := hrel
    have hzB := hB.size
    by_cases hlt : k < n
    · obtain ⟨b, off, rfl, hb, hcell⟩ := (HR.out.below hB) (by omega)
      obtain ⟨c0, c1, c2, c3, c4⟩ := hcell k hlt
      clear hcell
      obtain ⟨p, hp⟩ : ∃ p, lastM R x k = p := ⟨_, rfl⟩
      rw [hp] at hl
      have HP := Lib.hid hp
      clear hp
      subst hl
      cases h1 : ((R k).rid == x)
      · go_wp2
        go_roundw
        case rel => exact ⟨k + 1, by omega, by go_num, by rw [lastM_no (by rw [h1]; rfl), HP.out], by (repeat (first | with_reducible exact Below.refl _ _ | with_reducible exact below_regrown _ _ _ | with_reducible refine bel_step0 (by assumption) ?_ | with_reducible refine bel_alloc0 ?_ _ | with_reducible refine bel_regrown0 ?_ _ _ | with_reducible refine bel_regrown ?_ (by first | omega | (simp; done) | (simp; omega)) _ _ | with_reducible refine below_drewN ?_ _ | with_reducible refine Below.drew ?_ | with_reducible refine Below.alloc ?_ (by first | omega | (simp; done) | (simp; omega)) _ | with_reducible refine Below.setCell ?_ (by first | omega | (simp; done) | (simp; omega)) _ | with_reducible refine bel_step (by assumption) (by first | omega | (simp; done) | (simp; omega)) ?_ | with_reducible refine bel_grown (by assumption) (by first | omega | (simp; done) | (simp; omega)) (by first | omega | (simp; done) | (simp; omega)) ?_))⟩
        case measure => simp [intOf]; omega
      · cases h2 : ((R k).kind == 2)
        · go_wp2
          go_roundw
          case rel => exact ⟨k + 1, by omega, by go_num, by rw [lastM_no (by rw [h1, h2]; rfl), HP.out], by (repeat (first | with_reducible exact Below.refl _ _ | with_reducible exact below_regrown _ _ _ | with_reducible refine bel_step0 (by assumption) ?_ | with_reducible refine bel_alloc0 ?_ _ | with_reducible refine bel_regrown0 ?_ _ _ | with_reducible refine bel_regrown ?_ (by first | omega | (simp; done) | (simp; omega)) _ _ | with_reducible refine below_drewN ?_ _ | with_reducible refine Below.drew ?_ | with_reducible refine Below.alloc ?_ (by first | omega | (simp; done) | (simp; omega)) _ | with_reducible refine Below.setCell ?_ (by first | omega | (simp; done) | (simp; omega)) _ | with_reducible refine bel_step (by assumption) (by first | omega | (simp; done) | (simp; omega)) ?_ | with_reducible refine bel_grown (by assumption) (by first | omega | (simp; done) | (simp; omega)) (by first | omega | (simp; done) | (simp; omega)) ?_))⟩
          case measure => simp [intOf]; omega
        · go_wp2
          go_roundw
          case rel => exact ⟨k + 1, by omega, by go_num, by rw [lastM_yes h1 h2], by (repeat (first | with_reducible exact Below.refl _ _ | with_reducible exact below_regrown _ _ _ | with_reducible refine bel_step0 (by assumption) ?_ | with_reducible refine bel_alloc0 ?_ _ | with_reducible refine bel_regrown0 ?_ _ _ | with_reducible refine bel_regrown ?_ (by first | omega | (simp; done) | (simp; omega)) _ _ | with_reducible refine below_drewN ?_ _ | with_reducible refine Below.drew ?_ | with_reducible refine Below.alloc ?_ (by first | omega | (simp; done) | (simp; omega)) _ | with_reducible refine Below.setCell ?_ (by first | omega | (simp; done) | (simp; omega)) _ | with_reducible refine bel_step (by assumption) (by first | omega | (simp; done) | (simp; omega)) ?_ | with_reducible refine bel_grown (by assumption) (by first | omega | (simp; done) | (simp; omega)) (by first | omega | (simp; done) | (simp; omega)) ?_))⟩
          case measure => simp [intOf]; omega
    · obtain rfl : k = n := by omega
      subst hl
      go_wp2
      go_ret
      exact ⟨rfl, by (repeat (first | with_reducible exact Below.refl _ _ | with_reducible exact below_regrown _ _ _ | with_reducible refine bel_step0 (by assumption) ?_ | with_reducible refine bel_alloc0 ?_ _ | with_reducible refine bel_regrown0 ?_ _ _ | with_reducible refine bel_regrown ?_ (by first | omega | (simp; done) | (simp; omega)) _ _ | with_reducible refine below_drewN ?_ _ | with_reducible refine Below.drew ?_ | with_reducible refine Below.alloc ?_ (by first | omega | (simp; done) | (simp; omega)) _ | with_reducible refine Below.setCell ?_ (by first | omega | (simp; done) | (simp; omega)) _ | with_reducible refine bel_step (by assumption) (by first | omega | (simp; done) | (simp; omega)) ?_ | with_reducible refine bel_grown (by assumption) (by first | omega | (simp; done) | (simp; omega)) (by first | omega | (simp; done) | (simp; omega)) ?_))⟩
theorem C_l22Change (v : Value) (n : Nat) (R : Nat → Lk) (x : Int) (w : World) (h : LKs w v n R) :
    Calls Tryz.prog 42 #[v, .int .i64 x] w fun e w' => e = .returned (.int .i64 (lastM R x n)) ∧ Below w.heap.size w w' := by
  obtain ⟨A, cap, rfl, hr, hc, hm⟩ := h
  have HR := Lib.hid hr; clear hr
  go_enter Tryz.func42, Tryz.ntmps42
  go_wp2
  go_loopw [5, 6] (fun l i wr => ∃ k : Nat, k ≤ n ∧ i = .int .i64 k ∧ l = .int .i64 (lastM R x k) ∧ Below w.heap.size w wr) (fun _ i _ => n - (intOf i).toNat)
  case atStart => exact ⟨0, Nat.zero_le _, rfl, rfl, Below.refl _ _⟩
  case round =>
    obtain ⟨k, hk, rfl, hl, hB⟩ := hrel
    have hzB := hB.size
    by_cases hlt : k < n
    · obtain ⟨b, off, rfl, hb, hcell⟩ := (HR.out.below hB) (by omega)
      obtain ⟨c0, c1, c2, c3, c4⟩ := hcell k hlt
      clear hcell
      obtain ⟨p, hp⟩ : ∃ p, lastM R x k = p := ⟨_, rfl⟩
      rw [hp] at hl
      have HP := Lib.hid hp
      clear hp
      subst hl
      cases h1 : ((R k).rid == x)
      · go_wp2
        go_roundw
        case rel => exact ⟨k + 1, by omega, by go_num, by rw [lastM_no (by rw [h1]; rfl), HP.out], by (repeat (first | with_reducible exact Below.refl _ _ | with_reducible exact below_regrown _ _ _ | with_reducible refine bel_step0 (by assumption) ?_ | with_reducible refine bel_alloc0 ?_ _ | with_reducible refine bel_regrown0 ?_ _ _ | with_reducible refine bel_regrown ?_ (by first | omega | (simp; done) | (simp; omega)) _ _ | with_reducible refine below_drewN ?_ _ | with_reducible refine Below.drew ?_ | with_reducible refine Below.alloc ?_ (by first | omega | (simp; done) | (simp; omega)) _ | with_reducible refine Below.setCell ?_ (by first | omega | (simp; done) | (simp; omega)) _ | with_reducible refine bel_step (by assumption) (by first | omega | (simp; done) | (simp; omega)) ?_ | with_reducible refine bel_grown (by assumption) (by first | omega | (simp; done) | (simp; omega)) (by first | omega | (simp; done) | (simp; omega)) ?_))⟩
        case measure => simp [intOf]; omega
      · cases h2 : ((R k).kind == 2)
        · go_wp2
          go_roundw
          case rel => exact ⟨k + 1, by omega, by go_num, by rw [lastM_no (by rw [h1, h2]; rfl), HP.out], by (repeat (first | with_reducible exact Below.refl _ _ | with_reducible exact below_regrown _ _ _ | with_reducible refine bel_step0 (by assumption) ?_ | with_reducible refine bel_alloc0 ?_ _ | with_reducible refine bel_regrown0 ?_ _ _ | with_reducible refine bel_regrown ?_ (by first | omega | (simp; done) | (simp; omega)) _ _ | with_reducible refine below_drewN ?_ _ | with_reducible refine Below.drew ?_ | with_reducible refine Below.alloc ?_ (by first | omega | (simp; done) | (simp; omega)) _ | with_reducible refine Below.setCell ?_ (by first | omega | (simp; done) | (simp; omega)) _ | with_reducible refine bel_step (by assumption) (by first | omega | (simp; done) | (simp; omega)) ?_ | with_reducible refine bel_grown (by assumption) (by first | omega | (simp; done) | (simp; omega)) (by first | omega | (simp; done) | (simp; omega)) ?_))⟩
          case measure => simp [intOf]; omega
        · go_wp2
          go_roundw
          case rel => exact ⟨k + 1, by omega, by go_num, by rw [lastM_yes h1 h2], by (repeat (first | with_reducible exact Below.refl _ _ | with_reducible exact below_regrown _ _ _ | with_reducible refine bel_step0 (by assumption) ?_ | with_reducible refine bel_alloc0 ?_ _ | with_reducible refine bel_regrown0 ?_ _ _ | with_reducible refine bel_regrown ?_ (by first | omega | (simp; done) | (simp; omega)) _ _ | with_reducible refine below_drewN ?_ _ | with_reducible refine Below.drew ?_ | with_reducible refine Below.alloc ?_ (by first | omega | (simp; done) | (simp; omega)) _ | with_reducible refine Below.setCell ?_ (by first | omega | (simp; done) | (simp; omega)) _ | with_reducible refine bel_step (by assumption) (by first | omega | (simp; done) | (simp; omega)) ?_ | with_reducible refine bel_grown (by assumption) (by first | omega | (simp; done) | (simp; omega)) (by first | omega | (simp; done) | (simp; omega)) ?_))⟩
          case measure => simp [intOf]; omega
    · obtain rfl : k = n := by omega
      subst hl
      go_wp2
      go_ret
      exact ⟨rfl, by (repeat (first | with_reducible exact Below.refl _ _ | with_reducible exact below_regrown _ _ _ | with_reducible refine bel_step0 (by assumption) ?_ | with_reducible refine bel_alloc0 ?_ _ | with_reducible refine bel_regrown0 ?_ _ _ | with_reducible refine bel_regrown ?_ (by first | omega | (simp; done) | (simp; omega)) _ _ | with_reducible refine below_drewN ?_ _ | with_reducible refine Below.drew ?_ | with_reducible refine Below.alloc ?_ (by first | omega | (simp; done) | (simp; omega)) _ | with_reducible refine Below.setCell ?_ (by first | omega | (simp; done) | (simp; omega)) _ | with_reducible refine bel_step (by assumption) (by first | omega | (simp; done) | (simp; omega)) ?_ | with_reducible refine bel_grown (by assumption) (by first | omega | (simp; done) | (simp; omega)) (by first | omega | (simp; done) | (simp; omega)) ?_))⟩
/-- Whether list, number and place are good. -/
def lcOk (n : Nat) (R : Nat → Lk) (x : Int) : Bool := accB n R && within x 1 999 && decide (0 ≤ lastM R x n)
def lcT (n : Nat) (R : Nat → Lk) (x : Int) : Int := if lcOk n R x then (R (lastM R x n).toNat).tick else 0
def lcW (n : Nat) (R : Nat → Lk) (x : Int) : Int := if lcOk n R x then (R (lastM R x n).toNat).who else 0
theorem C_LastChangeI (v : Value) (n : Nat) (R : Nat → Lk) (x : Int) (w : World) (h : LKs w v n R) (hs : ∀ j, j < n → (R j).why.size ≤ 9223372036854775807) :
    Calls Tryz.prog 7 #[v, .int .i64 x] w fun e w' => e = .returned (.tuple #[.int .i64 (lcT n R x), .int .i64 (lcW n R x), .bool (lcOk n R x)]) ∧ Below w.heap.size w w' := by
  have HH := Lib.hid h
  have HS := Lib.hid hs
  obtain ⟨A, cap, rfl, hr, hc, hm⟩ := h
  have HR := Lib.hid hr
  clear hr hs
  cases hd : accB n R
  · have e0 : lcOk n R x = false := by unfold lcOk; rw [hd]; rfl
    have e1 : lcT n R x = 0 := by unfold lcT; rw [e0]; rfl
    have e2 : lcW n R x = 0 := by unfold lcW; rw [e0]; rfl
    rw [e0, e1, e2]; clear e0 e1 e2
    go_enter Tryz.func7, Tryz.ntmps7
    go_wp2_with fail
    refine (C_IsAccount _ _ _ _ HH.out HS.out).mono ?_; rintro e w1 ⟨rfl, hb1⟩; rw [hd]
    go_wp2_with fail
    go_ret3
    exact ⟨rfl, hb1⟩
  cases hx : within x 1 999
  · have e0 : lcOk n R x = false := by unfold lcOk; rw [hd, hx]; rfl
    have e1 : lcT n R x = 0 := by unfold lcT; rw [e0]; rfl
    have e2 : lcW n R x = 0 := by unfold lcW; rw [e0]; rfl
    rw [e0, e1, e2]; clear e0 e1 e2
    go_enter Tryz.func7, Tryz.ntmps7
    go_wp2_with fail
    refine (C_IsAccount _ _ _ _ HH.out HS.out).mono ?_; rintro e w1 ⟨rfl, hb1⟩; rw [hd]
    go_wp2_with fail
    refine (C_isRecordId _ _).mono ?_; rintro e w2 ⟨rfl, rfl⟩; rw [hx]
    go_wp2_with fail
    go_ret3
    exact ⟨rfl, hb1⟩
  have hbd := lastM_bd R x n
  by_cases hl : 0 ≤ lastM R x n
  · obtain ⟨q, hq⟩ : ∃ q : Nat, lastM R x n = (q : Int) := ⟨(lastM R x n).toNat, by omega⟩
    have e0 : lcOk n R x = true := by unfold lcOk; rw [hd, hx]; simp [hl]
    have e1 : lcT n R x = (R q).tick := by unfold lcT; rw [e0, hq]; rfl
    have e2 : lcW n R x = (R q).who := by unfold lcW; rw [e0, hq]; rfl
    rw [e0, e1, e2]; clear e0 e1 e2
    have hqn : q < n := by omega
    have hqi : (q : Int) < (n : Int) := by omega
    have HL := Lib.hid (fun W hW => C_lastChange (.slice A n cap) n R x W hW)
    rw [hq] at HL
    clear hq hl hbd
    go_enter Tryz.func7, Tryz.ntmps7
    go_wp2_with fail
    refine (C_IsAccount _ _ _ _ HH.out HS.out).mono ?_; rintro e w1 ⟨rfl, hb1⟩; rw [hd]
    go_wp2_with fail
    refine (C_isRecordId _ _).mono ?_; rintro e w2 ⟨rfl, rfl⟩; rw [hx]
    go_wp2_with fail
    refine (HL.out _ (HH.out.below hb1)).mono ?_; rintro e w3 ⟨rfl, hb3⟩
    have B3 := bel_step0 hb3 hb1
    obtain ⟨b, off, rfl, hb, hcell⟩ := (HR.out.below B3) (by omega)
    obtain ⟨c0, c1, c2, c3, c4⟩ := hcell q hqn
    clear hcell c2 c3 c4
    go_wp2
    go_region
    go_wp2
    go_ret3
    exact ⟨rfl, by (repeat (first | with_reducible exact Below.refl _ _ | with_reducible exact below_regrown _ _ _ | with_reducible refine bel_step0 (by assumption) ?_ | with_reducible refine bel_alloc0 ?_ _ | with_reducible refine bel_regrown0 ?_ _ _ | with_reducible refine bel_regrown ?_ (by first | omega | (simp; done) | (simp; omega)) _ _ | with_reducible refine below_drewN ?_ _ | with_reducible refine Below.drew ?_ | with_reducible refine Below.alloc ?_ (by first | omega | (simp; done) | (simp; omega)) _ | with_reducible refine Below.setCell ?_ (by first | omega | (simp; done) | (simp; omega)) _ | with_reducible refine bel_step (by assumption) (by first | omega | (simp; done) | (simp; omega)) ?_ | with_reducible refine bel_grown (by assumption) (by first | omega | (simp; done) | (simp; omega)) (by first | omega | (simp; done) | (simp; omega)) ?_))⟩
  · have e0 : lcOk n R x = false := by unfold lcOk; rw [hd, hx]; simp; omega
    have e1 : lcT n R x = 0 := by unfold lcT; rw [e0]; rfl
    have e2 : lcW n R x = 0 := by unfold lcW; rw [e0]; rfl
    rw [e0, e1, e2]; clear e0 e1 e2
    obtain ⟨p, hp⟩ : ∃ p, lastM R x n = p := ⟨_, rfl⟩
    have HL := Lib.hid (fun W hW => C_lastChange (.slice A n cap) n R x W hW)
    rw [hp] at HL hl hbd
    clear hp
    go_enter Tryz.func7, Tryz.ntmps7
    go_wp2_with fail
    refine (C_IsAccount _ _ _ _ HH.out HS.out).mono ?_; rintro e w1 ⟨rfl, hb1⟩; rw [hd]
    go_wp2_with fail
    refine (C_isRecordId _ _).mono ?_; rintro e w2 ⟨rfl, rfl⟩; rw [hx]
    go_wp2_with fail
    refine (HL.out _ (HH.out.below hb1)).mono ?_; rintro e w3 ⟨rfl, hb3⟩
    have B3 := bel_step0 hb3 hb1
    go_wp2_with fail
    go_ret3
    exact ⟨rfl, B3⟩
theorem C_LastChangeS (v : Value) (n : Nat) (R : Nat → Lk) (x : Int) (w : World) (h : LKs w v n R) (hs : ∀ j, j < n → (R j).why.size ≤ 9223372036854775807) :
    Calls Tryz.prog 8 #[v, .int .i64 x] w fun e w' => e = .returned (.tuple #[.int .i64 (lcT n R x), .int .i64 (lcW n R x), .bool (lcOk n R x)]) ∧ Below w.heap.size w w' := by
  have HH := Lib.hid h
  have HS := Lib.hid hs
  obtain ⟨A, cap, rfl, hr, hc, hm⟩ := h
  have HR := Lib.hid hr
  clear hr hs
  have hbd := lastM_bd R x n
  cases hok : lcOk n R x
  · have e1 : lcT n R x = 0 := by unfold lcT; rw [hok]; rfl
    have e2 : lcW n R x = 0 := by unfold lcW; rw [hok]; rfl
    rw [e1, e2]; clear e1 e2
    obtain ⟨p, hp⟩ : ∃ p, lastM R x n = p := ⟨_, rfl⟩
    have HL := Lib.hid (fun W hW => C_l22Change (.slice A n cap) n R x W hW)
    have hneg : accB n R = true → within x 1 999 = true → ¬ 0 ≤ p := fun h1 h2 h3 => by
      unfold lcOk at hok; rw [h1, h2, hp] at hok; simp at hok; omega
    have HN := Lib.hid hneg
    rw [hp] at HL hbd
    clear hp hneg hok
    cases hd : accB n R
    · go_enter Tryz.func8, Tryz.ntmps8
      go_wp2_with fail
      refine (HL.out _ HH.out).mono ?_; rintro e w3 ⟨rfl, hb3⟩
      go_wp2_with fail
      refine (C_l22Good _ _ _ _ (HH.out.below hb3) HS.out).mono ?_; rintro e w1 ⟨rfl, hb1⟩; rw [hd]
      go_wp2_with fail
      go_ret3
      exact ⟨rfl, bel_step0 hb1 hb3⟩
    cases hx : within x 1 999
    · go_enter Tryz.func8, Tryz.ntmps8
      go_wp2_with fail
      refine (HL.out _ HH.out).mono ?_; rintro e w3 ⟨rfl, hb3⟩
      go_wp2_with fail
      refine (C_l22Good _ _ _ _ (HH.out.below hb3) HS.out).mono ?_; rintro e w1 ⟨rfl, hb1⟩; rw [hd]
      go_wp2_with fail
      refine (C_l17Record _ _).mono ?_; rintro e w2 ⟨rfl, rfl⟩; rw [hx]
      go_wp2_with fail
      go_ret3
      exact ⟨rfl, bel_step0 hb1 hb3⟩
    · have hp0 := HN.out hd hx
      go_enter Tryz.func8, Tryz.ntmps8
      go_wp2_with fail
      refine (HL.out _ HH.out).mono ?_; rintro e w3 ⟨rfl, hb3⟩
      go_wp2_with fail
      refine (C_l22Good _ _ _ _ (HH.out.below hb3) HS.out).mono ?_; rintro e w1 ⟨rfl, hb1⟩; rw [hd]
      go_wp2_with fail
      refine (C_l17Record _ _).mono ?_; rintro e w2 ⟨rfl, rfl⟩; rw [hx]
      go_wp2_with fail
      go_ret3
      exact ⟨rfl, bel_step0 hb1 hb3⟩
  · have hok2 := hok
    unfold lcOk at hok2
    simp only [Bool.and_eq_true, decide_eq_true_eq] at hok2
    obtain ⟨⟨hd, hx⟩, hl⟩ := hok2
    obtain ⟨q, hq⟩ : ∃ q : Nat, lastM R x n = (q : Int) := ⟨(lastM R x n).toNat, by omega⟩
    have e1 : lcT n R x = (R q).tick := by unfold lcT; rw [hok, hq]; rfl
    have e2 : lcW n R x = (R q).who := by unfold lcW; rw [hok, hq]; rfl
    rw [e1, e2]; clear e1 e2 hok
    have hqn : q < n := by omega
    have hqi : (q : Int) < (n : Int) := by omega
    have HL := Lib.hid (fun W hW => C_l22Change (.slice A n cap) n R x W hW)
    rw [hq] at HL
    have HD := Lib.hid hd
    have HX := Lib.hid hx
    clear hq hl hbd hd hx
    go_enter Tryz.func8, Tryz.ntmps8
    go_wp2_with fail
    refine (HL.out _ HH.out).mono ?_; rintro e w3 ⟨rfl, hb3⟩
    go_wp2_with fail
    refine (C_l22Good _ _ _ _ (HH.out.below hb3) HS.out).mono ?_; rintro e w1 ⟨rfl, hb1⟩; rw [HD.out]
    have B3 := bel_step0 hb1 hb3
    go_wp2_with fail
    refine (C_l17Record _ _).mono ?_; rintro e w2 ⟨rfl, rfl⟩; rw [HX.out]
    obtain ⟨b, off, rfl, hb, hcell⟩ := (HR.out.below B3) (by omega)
    obtain ⟨c0, c1, c2, c3, c4⟩ := hcell q hqn
    clear hcell c2 c3 c4
    go_wp2
    go_region
    go_wp2
    go_ret3
    exact ⟨rfl, by (repeat (first | with_reducible exact Below.refl _ _ | with_reducible exact below_regrown _ _ _ | with_reducible refine bel_step0 (by assumption) ?_ | with_reducible refine bel_alloc0 ?_ _ | with_reducible refine bel_regrown0 ?_ _ _ | with_reducible refine bel_regrown ?_ (by first | omega | (simp; done) | (simp; omega)) _ _ | with_reducible refine below_drewN ?_ _ | with_reducible refine Below.drew ?_ | with_reducible refine Below.alloc ?_ (by first | omega | (simp; done) | (simp; omega)) _ | with_reducible refine Below.setCell ?_ (by first | omega | (simp; done) | (simp; omega)) _ | with_reducible refine bel_step (by assumption) (by first | omega | (simp; done) | (simp; omega)) ?_ | with_reducible refine bel_grown (by assumption) (by first | omega | (simp; done) | (simp; omega)) (by first | omega | (simp; done) | (simp; omega)) ?_))⟩
end Go.Proofs.YtmhelhjjadoiaaaGreatDoor
