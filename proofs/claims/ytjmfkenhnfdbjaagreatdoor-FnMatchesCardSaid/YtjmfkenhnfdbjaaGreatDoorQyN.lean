/- Records, and the reference's tests. No condition but those stated. -/
import Derived.Test.YtjmfkenhnfdbjaaGreatDoorQyM
namespace Go.Proofs.YtjmfkenhnfdbjaaGreatDoor
set_option linter.unusedVariables false
set_option linter.unusedSimpArgs false
open Go.RowKit Go.Sort
structure Rc where
  id : Int
  ser : Int
  made : Int
  n : Nat
  k : Nat → Int
  d : Nat → Int
/-- The slice is the record's events. -/
def EvS (w : World) (sv : Value) (R : Rc) : Prop :=
  ∃ A cap, sv = .slice A R.n cap ∧ (0 < R.n → ∃ b off, A = some ⟨b, off, none⟩ ∧ b < w.heap.size ∧ ∀ j, j < R.n → w.cell? ⟨b, off + j * 2, none⟩ = some (.int .i64 (R.k j)) ∧ w.cell? ⟨b, off + j * 2 + 1, none⟩ = some (.int .i64 (R.d j))) ∧ R.n ≤ cap ∧ cap ≤ 9223372036854775807
theorem EvS.block {w w' : World} {sv : Value} {R : Rc} (h : EvS w sv R) (hb : ∀ b, b < w.heap.size → w'.heap[b]? = w.heap[b]?) (hs : w.heap.size ≤ w'.heap.size) : EvS w' sv R := by
  obtain ⟨A, cap, e, hr, h2⟩ := h
  refine ⟨A, cap, e, fun h0 => ?_, h2⟩
  obtain ⟨b, off, e, hl, hc⟩ := hr h0
  exact ⟨b, off, e, Nat.lt_of_lt_of_le hl hs, fun j hj => ⟨(World.cell?_of_block (w := w) (a := ⟨b, _, none⟩) (hb b hl)).trans (hc j hj).1, (World.cell?_of_block (w := w) (a := ⟨b, _, none⟩) (hb b hl)).trans (hc j hj).2⟩⟩
theorem EvS.below {w w' : World} {sv : Value} {R : Rc} (hb : Below w.heap.size w w') (h : EvS w sv R) : EvS w' sv R := h.block (fun b hl => hb.block b hl) hb.size
def noRec : Rc := ⟨0, 0, 0, 0, fun _ => 0, fun _ => 0⟩
theorem evs_none (w : World) : EvS w (.slice none 0 0) noRec := ⟨none, 0, rfl, fun h => absurd h (by unfold noRec; simp), by unfold noRec; simp, by omega⟩
/-- The first event's day of a kind, or -1. -/
def dayR (R : Rc) (kind : Int) : Int := match (List.range R.n).find? (fun j => R.k j == kind) with
  | some j => R.d j
  | none => -1
theorem dayR_none {R : Rc} {kind : Int} (h : anyB R.n (fun j => R.k j == kind) = false) : dayR R kind = -1 := by
  unfold dayR
  have : (List.range R.n).find? (fun j => R.k j == kind) = Option.none := by
    rw [List.find?_eq_none]
    intro j hj
    unfold anyB at h
    rw [List.any_eq_false] at h
    exact h j hj
  rw [this]
theorem find_range (p : Nat → Bool) : ∀ (n k : Nat), k < n → anyB k p = false → p k = true → (List.range n).find? p = some k := by
  intro n k hk h0 h
  have := firstB_some hk h0 h
  unfold firstB at this
  cases e : (List.range n).find? p with
  | none => rw [e] at this; simp at this
  | some j => rw [e] at this; simp only at this; have h5 := Int.ofNat.inj this; rw [h5]
theorem dayR_some {R : Rc} {kind : Int} {j : Nat} (hj : j < R.n) (h0 : anyB j (fun j => R.k j == kind) = false) (h : (R.k j == kind) = true) : dayR R kind = R.d j := by
  unfold dayR
  rw [find_range (fun j => R.k j == kind) R.n j hj h0 h]
set_option maxHeartbeats 2000000 in
theorem C_l2DayOf (R : Rc) (sv : Value) (kind : Int) (w : World) (hk : (kind == 0) = false) (h : EvS w sv R) :
    Calls Tryz.prog 120 #[.agg #[.int .i64 (R).id, .int .i64 (R).ser, .int .i64 (R).made, sv], .int .i64 kind] w fun e w' => e = .returned (.int .i64 (dayR R kind)) ∧ Below w.heap.size w w' := by
  have HH := Lib.hid h
  obtain ⟨A, cap, rfl, hr, h1, h2⟩ := h
  have HR := Lib.hid hr
  have hnb : (R.n : Int) ≤ 9223372036854775807 := by omega
  clear hr
  go_enter Tryz.func120, Tryz.ntmps120
  go_wp2
  go_loopw [5] (fun i wr => ∃ j : Nat, j ≤ R.n ∧ i = .int .i64 j ∧ anyB j (fun j => R.k j == kind) = false ∧ Below w.heap.size w wr ∧ wr.cell? ⟨w.heap.size, 3, none⟩ = some (.slice A R.n cap)) (fun i wr => R.n - (intOf i).toNat)
  case atStart => exact ⟨0, Nat.zero_le _, rfl, rfl, by (repeat (first | with_reducible exact Below.refl _ _ | with_reducible exact below_regrown _ _ _ | with_reducible refine bel_step0 (by assumption) ?_ | with_reducible refine bel_alloc0 ?_ _ | with_reducible refine bel_regrown0 ?_ _ _ | with_reducible refine bel_regrown ?_ (by first | omega | (simp; done) | (simp; omega)) _ _ | with_reducible refine below_drewN ?_ _ | with_reducible refine Below.drew ?_ | with_reducible refine Below.alloc ?_ (by first | omega | (simp; done) | (simp; omega)) _ | with_reducible refine Below.setCell ?_ (by first | omega | (simp; done) | (simp; omega)) _ | with_reducible refine bel_step (by assumption) (by first | omega | (simp; done) | (simp; omega)) ?_ | with_reducible refine bel_grown (by assumption) (by first | omega | (simp; done) | (simp; omega)) (by first | omega | (simp; done) | (simp; omega)) ?_)), cell_new _ _ _ _ _ rfl⟩
  case round =>
    obtain ⟨j, hj, rfl, ha, hb, hc⟩ := hrel
    have HA := Lib.hid ha
    have HB := Lib.hid hb
    clear ha hb
    by_cases hlt : j < R.n
    · obtain ⟨b, off, rfl, hbl, hcc⟩ := HR.out (by omega)
      obtain ⟨c0, c1⟩ := hcc j hlt
      have d0 := (World.cell?_of_block (w := w) (a := ⟨b, off + j * 2, none⟩) (HB.out.block b hbl)).trans c0
      have d1 := (World.cell?_of_block (w := w) (a := ⟨b, off + j * 2 + 1, none⟩) (HB.out.block b hbl)).trans c1
      have hlt2 : (j : Int) < (R.n : Int) := by omega
      clear c0 c1 hcc
      cases hm : (R.k j == kind)
      · go_wp2
        go_roundw
        case rel => exact ⟨j + 1, by omega, by go_num, anyB_next HA.out hm, by first | exact HB.out | (repeat (first | with_reducible exact Below.refl _ _ | with_reducible exact below_regrown _ _ _ | with_reducible refine bel_step0 (by assumption) ?_ | with_reducible refine bel_alloc0 ?_ _ | with_reducible refine bel_regrown0 ?_ _ _ | with_reducible refine bel_regrown ?_ (by first | omega | (simp; done) | (simp; omega)) _ _ | with_reducible refine below_drewN ?_ _ | with_reducible refine Below.drew ?_ | with_reducible refine Below.alloc ?_ (by first | omega | (simp; done) | (simp; omega)) _ | with_reducible refine Below.setCell ?_ (by first | omega | (simp; done) | (simp; omega)) _ | with_reducible refine bel_step (by assumption) (by first | omega | (simp; done) | (simp; omega)) ?_ | with_reducible refine bel_grown (by assumption) (by first | omega | (simp; done) | (simp; omega)) (by first | omega | (simp; done) | (simp; omega)) ?_)), by first | assumption | (simp; assumption)⟩
        case measure => simp [intOf]; omega
      · have hd := dayR_some hlt HA.out hm
        have HD := Lib.hid hd
        clear hd
        go_wp2
        go_ret
        rw [HD.out]
        exact ⟨rfl, HB.out⟩
    · obtain rfl : j = R.n := by omega
      have HD := Lib.hid (dayR_none HA.out)
      go_wp2
      go_ret
      rw [HD.out]
      exact ⟨rfl, HB.out⟩
/-- The number at a place as the reference returns it. -/
def numF (s : ByteArray) (a : Nat) : Int := match numA s a with
  | none => 0
  | some p => p.1
def numE (s : ByteArray) (a : Nat) : Int := match numA s a with
  | none => -1
  | some p => p.2
theorem num_at {s : ByteArray} {a j : Nat} (ha : a ≤ j) (hj : j ≤ s.size) (hd : ∀ i, a ≤ i → i < j → dB s i = true) (hn : dB s j = false) :
    numA s a = match numO (s.extract a j) with | none => none | some u => some ((u : Int), j) := by
  have he : digE s s.size a = j := digE_of s.size a j ha (by omega) hd hn
  unfold numA
  rw [he]
  cases numO (s.extract a j) <;> rfl
theorem no_dig {s : ByteArray} {j : Nat} (hj : j ≤ s.size) (h : dB s j = false) : (j = s.size) ∨ (∃ h : j < s.size, decide ((48 : Int) ≤ (s[j].toNat : Int)) = false) ∨ (∃ h : j < s.size, (48 : Int) ≤ (s[j].toNat : Int) ∧ decide ((s[j].toNat : Int) ≤ 57) = false) := by
  by_cases e : j < s.size
  · have hb := bN_at e
    by_cases e1 : 48 ≤ s[j].toNat
    · by_cases e2 : s[j].toNat ≤ 57
      · rw [dB_iff.2 ⟨e, by omega, by omega⟩] at h; cases h
      · exact .inr (.inr ⟨e, by omega, decide_eq_false (by omega)⟩)
    · exact .inr (.inl ⟨e, decide_eq_false (by omega)⟩)
  · exact .inl (by omega)
set_option maxHeartbeats 4000000 in
theorem C_l19Number (s : ByteArray) (hs : s.size ≤ 1048576) (a : Nat) (ha : a ≤ s.size) (w : World) :
    Calls Tryz.prog 59 #[.string s, .int .i64 a] w fun e w' => e = .returned (.tuple #[.int .i64 (numF s a), .int .i64 (numE s a)]) ∧ Below w.heap.size w w' := by
  go_enter Tryz.func59, Tryz.ntmps59
  go_wp2
  go_loop [6] (fun i => ∃ j : Nat, a ≤ j ∧ j ≤ s.size ∧ (∀ i, a ≤ i → i < j → dB s i = true) ∧ i = .int .i64 j) (fun i => s.size - (intOf i).toNat)
  case atStart => exact ⟨a, Nat.le_refl _, ha, fun i h1 h2 => absurd h2 (by omega), rfl⟩
  case round =>
    obtain ⟨j, hj1, hj2, hd, rfl⟩ := hrel
    have HD := Lib.hid hd
    cases hdb : dB s j
    · obtain ⟨t, ht⟩ : ∃ t, s.extract a j = t := ⟨_, rfl⟩
      have hdt := dig_extract hj2 hd
      have hn := num_at hj1 hj2 hd hdb
      have hsz : t.size ≤ 9223372036854775807 := by rw [← ht, ByteArray.size_extract]; omega
      rw [ht] at hdt hn
      obtain ⟨okN, hokN⟩ : ∃ b, (numO t).isSome = b := ⟨_, rfl⟩
      obtain ⟨nv, hnv⟩ : ∃ b, numV t = b := ⟨_, rfl⟩
      have HFE := Lib.hid (show numF s a = (if okN then nv else 0) ∧ numE s a = (if okN then (j : Int) else -1) by
        rw [← hokN, ← hnv]
        unfold numF numE numV
        rw [hn]
        cases numO t <;> exact ⟨rfl, rfl⟩)
      have HRD := Lib.hid (C_l1Read t hdt w hsz)
      rw [hokN, hnv] at HRD
      have hways := no_dig hj2 hdb
      have b1 : (0 : Int) ≤ (a : Int) := by omega
      have b2 : (a : Int) ≤ (j : Int) := by omega
      have b3 : (j : Int) ≤ (s.size : Int) := by omega
      clear hdb hd hdt hn hsz hokN hnv
      rcases hways with rfl | ⟨e, e1⟩ | ⟨e, e1, e2⟩
      all_goals
        go_wp2_with fail
        refine HRD.out.mono ?_; rintro e w1 ⟨rfl, hb1⟩
        cases okN
        all_goals
          go_wp2
          go_ret2
          rw [HFE.out.1, HFE.out.2]
          exact ⟨rfl, hb1⟩
    · obtain ⟨e, e1, e2⟩ := dB_iff.1 hdb
      have HDB := Lib.hid hdb
      rw [bN_at e] at e1 e2
      have e3 : (j : Int) < (s.size : Int) := by omega
      have e4 : (48 : Int) ≤ (s[j].toNat : Int) := by omega
      have e5 : (s[j].toNat : Int) ≤ 57 := by omega
      clear hdb hd
      go_wp2
      go_round
      case rel => exact ⟨j + 1, by omega, by omega, fun i h1 h2 => by
        by_cases e : i = j
        · subst e; exact HDB.out
        · exact HD.out i h1 (by omega), by go_num⟩
      case measure => simp [intOf]; omega
end Go.Proofs.YtjmfkenhnfdbjaaGreatDoor
