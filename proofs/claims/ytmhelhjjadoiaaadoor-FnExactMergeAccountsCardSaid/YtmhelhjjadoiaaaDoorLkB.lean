/- Lists of looks: copies and marks; valid looks. No condition but those stated. -/
import Derived.Test.YtmhelhjjadoiaaaDoorLkA
namespace Go.Proofs.YtmhelhjjadoiaaaDoor
set_option linter.unusedVariables false
set_option linter.unusedSimpArgs false
open Go.RowKit Go.Sort
theorem info_look : (Tryd.prog.info? 26).map (fun i => (i.zero, i.size, i.bytes)) = some (some (.agg #[.int .i64 0, .int .i64 0, .int .i64 0, .int .i64 0, .string ByteArray.empty]), 5, 48) := by kernel_rfl
theorem make_rowK {P : Program} (t e : TypeId) (z : Value) (size bytes : Nat) (ht : P.underlying t = some (.slice e)) (hinfo : (P.info? e).map (fun i => (i.zero, i.size, i.bytes)) = some (some z, size, bytes))
    (n : Nat) (hbytes : bytes * n ≤ 281474976710656) (h63 : n ≤ 9223372036854775807) (w : World) :
    (Instr.makeSlice t (.int .i64 (n : Int)) (.int .i64 (n : Int))).run P w = .ok (.slice (some ⟨w.heap.size, 0, none⟩) n n) (w.alloc (.cells (madeCells z.cells (n * size)) e)) := by
  obtain ⟨i, hi, hzz⟩ := Option.map_eq_some_iff.1 hinfo
  simp only [Prod.mk.injEq] at hzz
  obtain ⟨hz, hs, hb⟩ := hzz
  have hb' : (i.bytes : Int) * (n : Int) ≤ 281474976710656 := by
    have h : ((i.bytes * n : Nat) : Int) ≤ 281474976710656 := by rw [hb]; omega
    rwa [Int.natCast_mul] at h
  have hr := run_make (P := P) w t e i z ht hi hz .i64 .i64 n n (by omega) (Int.le_refl _) hb' (by omega)
  simp only [Int.toNat_natCast, hs] at hr
  exact hr
theorem row5_made (w : World) (t : TypeId) (n : Nat) : (w.alloc (.cells (madeCells #[.int .i64 0, .int .i64 0, .int .i64 0, .int .i64 0, .string ByteArray.empty] (n * 5)) t)).rowIs w.heap.size t (n * 5) (fun i => cK zeroK (i % 5)) := by
  have h := World.rowIs_alloc w (madeCells #[.int .i64 0, .int .i64 0, .int .i64 0, .int .i64 0, .string ByteArray.empty] (n * 5)) t (fun i => cK zeroK (i % 5)) (fun i hi => by
    rw [size_madeCells] at hi
    have hm : i % 5 < 5 := Nat.mod_lt _ (by omega)
    simp only [madeCells, Array.getElem?_map, Array.getElem?_range, hi, if_true, Option.map_some]
    congr 1
    show (#[Value.int .i64 0, Value.int .i64 0, Value.int .i64 0, Value.int .i64 0, Value.string ByteArray.empty] : Array Value)[i % 5]! = cK zeroK (i % 5)
    generalize i % 5 = m at *
    match m, hm with
    | 0, _ => rfl
    | 1, _ => rfl
    | 2, _ => rfl
    | 3, _ => rfl
    | 4, _ => rfl)
  rwa [size_madeCells] at h
theorem row5_step (R : Nat → Lk) (k i : Nat) :
    (if i = k * 5 + 4 then Value.string (R k).why else if i = k * 5 + 3 then .int .i64 (R k).kind else if i = k * 5 + 2 then .int .i64 (R k).rid else if i = k * 5 + 1 then .int .i64 (R k).who else if i = k * 5 then .int .i64 (R k).tick else if i < k * 5 then cK (R (i / 5)) (i % 5) else cK zeroK (i % 5)) =
    if i < (k + 1) * 5 then cK (R (i / 5)) (i % 5) else cK zeroK (i % 5) := by
  by_cases h4 : i = k * 5 + 4
  · subst h4
    rw [if_pos rfl, if_pos (by omega), show (k * 5 + 4) / 5 = k by omega, show (k * 5 + 4) % 5 = 4 by omega]; rfl
  rw [if_neg h4]
  by_cases h3 : i = k * 5 + 3
  · subst h3
    rw [if_pos rfl, if_pos (by omega), show (k * 5 + 3) / 5 = k by omega, show (k * 5 + 3) % 5 = 3 by omega]; rfl
  rw [if_neg h3]
  by_cases h2 : i = k * 5 + 2
  · subst h2
    rw [if_pos rfl, if_pos (by omega), show (k * 5 + 2) / 5 = k by omega, show (k * 5 + 2) % 5 = 2 by omega]; rfl
  rw [if_neg h2]
  by_cases h1 : i = k * 5 + 1
  · subst h1
    rw [if_pos rfl, if_pos (by omega), show (k * 5 + 1) / 5 = k by omega, show (k * 5 + 1) % 5 = 1 by omega]; rfl
  rw [if_neg h1]
  by_cases h0 : i = k * 5
  · subst h0
    rw [if_pos rfl, if_pos (by omega), show (k * 5) / 5 = k by omega, show (k * 5) % 5 = 0 by omega]; rfl
  rw [if_neg h0]
  by_cases hl : i < k * 5
  · rw [if_pos hl, if_pos (by omega)]
  · rw [if_neg hl, if_neg (by omega)]
theorem row5_at {w : World} {g : Nat} {t : TypeId} {n : Nat} {R : Nat → Lk} (h : w.rowIs g t (n * 5) (fun i => cK (R (i / 5)) (i % 5))) {j : Nat} (hj : j < n) : LkAt w g (0 + j * 5) (R j) := by
  have e : ∀ m, m < 5 → w.cell? ⟨g, 0 + j * 5 + m, none⟩ = some (cK (R j) m) := fun m hm => by
    have := h.cell (i := j * 5 + m) (by omega)
    rw [show (j * 5 + m) / 5 = j by omega, show (j * 5 + m) % 5 = m by omega] at this
    rw [Nat.zero_add]; exact this
  exact ⟨e 0 (by omega), e 1 (by omega), e 2 (by omega), e 3 (by omega), e 4 (by omega)⟩
set_option maxHeartbeats 1000000 in
theorem C_toLookS (v : Value) (n : Nat) (R : Nat → Lk) (w : World) (h : LKs w v n R) (hn : n ≤ 1048576) :
    Calls Tryd.prog 20 #[v] w fun e w' => ∃ v', e = .returned v' ∧ WK w.heap.size w'.heap.size w' v' n R ∧ Below w.heap.size w w' := by
  obtain ⟨A, cap, rfl, hr, hc, hm⟩ := h
  have HR := Lib.hid hr; clear hr
  have hmk := make_rowK (P := Tryd.prog) 32 26 _ 5 48 Tryd.underlying32 info_look n (by omega) (by omega)
  go_enter Tryd.func20, Tryd.ntmps20
  go_wp2
  go_loopw [4] (fun i wr => ∃ k : Nat, k ≤ n ∧ i = .int .i64 k ∧ wr.rowIs w.heap.size 26 (n * 5) (fun i => if i < k * 5 then cK (R (i / 5)) (i % 5) else cK zeroK (i % 5)) ∧ Below w.heap.size w wr) (fun i _ => n - (intOf i).toNat)
  case atStart => exact ⟨0, Nat.zero_le _, rfl, (row5_made w _ n).congr (fun i hi => by simp), by (repeat (first | with_reducible exact Below.refl _ _ | with_reducible exact below_regrown _ _ _ | with_reducible refine bel_step0 (by assumption) ?_ | with_reducible refine bel_alloc0 ?_ _ | with_reducible refine bel_regrown0 ?_ _ _ | with_reducible refine bel_regrown ?_ (by first | omega | (simp; done) | (simp; omega)) _ _ | with_reducible refine below_drewN ?_ _ | with_reducible refine Below.drew ?_ | with_reducible refine Below.alloc ?_ (by first | omega | (simp; done) | (simp; omega)) _ | with_reducible refine Below.setCell ?_ (by first | omega | (simp; done) | (simp; omega)) _ | with_reducible refine bel_step (by assumption) (by first | omega | (simp; done) | (simp; omega)) ?_ | with_reducible refine bel_grown (by assumption) (by first | omega | (simp; done) | (simp; omega)) (by first | omega | (simp; done) | (simp; omega)) ?_))⟩
  case round =>
    obtain ⟨k, hk, rfl, ha, hB⟩ := hrel; have hzB := hB.size
    have HA := Lib.hid ha
    by_cases hlt : k < n
    · obtain ⟨b, off, rfl, hb, hcell⟩ := (HR.out.below hB) (by omega)
      obtain ⟨c0, c1, c2, c3, c4⟩ := hcell k hlt
      have hgl := ha.lt
      have o0 := ha.cell (i := k * 5) (by omega)
      have o1 := ha.cell (i := k * 5 + 1) (by omega)
      have o2 := ha.cell (i := k * 5 + 2) (by omega)
      have o3 := ha.cell (i := k * 5 + 3) (by omega)
      have o4 := ha.cell (i := k * 5 + 4) (by omega)
      have f0 := ha.frozen (k * 5)
      have f1 := ha.frozen (k * 5 + 1)
      have f2 := ha.frozen (k * 5 + 2)
      have f3 := ha.frozen (k * 5 + 3)
      have f4 := ha.frozen (k * 5 + 4)
      clear hcell ha
      go_wp2_with (go_at_call 16; refine (C_toLook _ _ _ _ _ _).mono ?_; rintro e w' ⟨rfl, hb'⟩; obtain ⟨hc', hf'⟩ := bcell hb')
      go_roundw
      case rel =>
        have hbs := hb'.size
        refine ⟨k + 1, by omega, by go_num, ?_, by (repeat (first | with_reducible exact Below.refl _ _ | with_reducible exact below_regrown _ _ _ | with_reducible refine bel_step0 (by assumption) ?_ | with_reducible refine bel_alloc0 ?_ _ | with_reducible refine bel_regrown0 ?_ _ _ | with_reducible refine bel_regrown ?_ (by first | omega | (simp; done) | (simp; omega)) _ _ | with_reducible refine below_drewN ?_ _ | with_reducible refine Below.drew ?_ | with_reducible refine Below.alloc ?_ (by first | omega | (simp; done) | (simp; omega)) _ | with_reducible refine Below.setCell ?_ (by first | omega | (simp; done) | (simp; omega)) _ | with_reducible refine bel_step (by assumption) (by first | omega | (simp; done) | (simp; omega)) ?_ | with_reducible refine bel_grown (by assumption) (by first | omega | (simp; done) | (simp; omega)) (by first | omega | (simp; done) | (simp; omega)) ?_))⟩
        have h3 := (((((HA.out.of_block (hb'.block _ hgl)).set (k * 5) (.int .i64 (R k).tick)).set (k * 5 + 1) (.int .i64 (R k).who)).set (k * 5 + 2) (.int .i64 (R k).rid)).set (k * 5 + 3) (.int .i64 (R k).kind)).set (k * 5 + 4) (.string (R k).why)
        exact h3.congr fun i hi => row5_step R k i
      case measure => simp [intOf]; omega
    · clear ha
      go_wp2
      go_ret
      obtain rfl : k = n := by omega
      have hrow := HA.out.congr (g := fun i => cK (R (i / 5)) (i % 5)) (fun i hi => by rw [if_pos hi])
      exact ⟨_, rfl, ⟨_, _, rfl, fun h0 => ⟨w.heap.size, 0, rfl, Nat.le_refl _, hrow.lt, hrow.lt, fun j hj => row5_at hrow hj, fun i => hrow.frozen i⟩, Nat.le_refl _, by omega⟩, hB⟩
theorem isSome_set {w : World} {p q : Addr} (u : Value) (h : (w.cell? q).isSome = true) : ((w.setCell p u).cell? q).isSome = true := by
  obtain ⟨v, hv⟩ := Option.isSome_iff_exists.1 h
  by_cases e : q = p
  · subst e; rw [World.cell?_setCell_same _ _ _ hv]; rfl
  · rw [World.cell?_setCell_other _ _ _ _ (fun h => e h.symm)]; exact h
theorem C_markTextZ (z : Int) (w : World) (h1 : 1 ≤ z) (h2 : z ≤ 1099511627776) :
    Calls Tryd.prog 67 #[.int .i64 z] w fun e w' => ∃ s, e = .returned (.string s) ∧ Below w.heap.size w w' := by
  obtain ⟨k, rfl⟩ : ∃ k : Nat, z = (k : Int) := ⟨z.toNat, by omega⟩
  exact (C_markText k w (by omega) (by omega)).mono fun e w' hh => ⟨_, hh⟩
/-- A row in block b that may be written: where it stands, and what has turned since w. -/
structure MayW (lo hi : Nat) (w W : World) (b off m : Nat) : Prop where
  cell : ∀ i, i < m → (W.cell? ⟨b, off + i, none⟩).isSome = true
  fz : ∀ i, W.frozen? ⟨b, i, none⟩ = false
  lt : b < W.heap.size
  chg : Chg lo hi w W
theorem MayW.set {lo hi : Nat} {w W : World} {b off m : Nat} (h : MayW lo hi w W b off m) (h1 : lo ≤ b) (h2 : b < hi) (o : Nat) (u : Value) : MayW lo hi w (W.setCell ⟨b, o, none⟩ u) b off m :=
  ⟨fun i hi => isSome_set _ (h.cell i hi), fun i => by rw [World.frozen?_setCell]; exact h.fz i, by simpa [World.setCell] using h.lt, h.chg.setCell (p := ⟨b, o, none⟩) h1 h2 u⟩
theorem MayW.below {lo hi : Nat} {w W W' : World} {b off m : Nat} (h : MayW lo hi w W b off m) (hb : Below W.heap.size W W') : MayW lo hi w W' b off m :=
  ⟨fun i hi => by rw [hb.cell (p := ⟨b, off + i, none⟩) h.lt]; exact h.cell i hi, fun i => (hb.frozen (p := ⟨b, i, none⟩) h.lt).trans (h.fz i), Nat.lt_of_lt_of_le h.lt hb.size, h.chg.trans (Chg.of_below hb)⟩
set_option maxHeartbeats 2000000 in
theorem C_markLookS (v : Value) (n : Nat) (R : Nat → Lk) (lo hi : Nat) (w : World) (h : WK lo hi w v n R) (hn : n ≤ 1048576) :
    Calls Tryd.prog 32 #[v, .int .i64 1] w fun e w' => ∃ k : Int, e = .returned (.int .i64 k) ∧ (1 ≤ k ∧ k ≤ 6000000) ∧ Chg lo hi w w' := by
  obtain ⟨A, cap, rfl, hr, hc, hm⟩ := h
  have hr2 : 0 < n → ∃ b off, A = some ⟨b, off, none⟩ ∧ lo ≤ b ∧ b < hi ∧ b < w.heap.size ∧ (∀ i, i < n * 5 → (w.cell? ⟨b, off + i, none⟩).isSome = true) ∧ ∀ i, w.frozen? ⟨b, i, none⟩ = false := fun h0 => by
    obtain ⟨b, off, e, h3, h4, h5, hcell, hf⟩ := hr h0
    refine ⟨b, off, e, h3, h4, h5, fun i hi => ?_, hf⟩
    have hx := hcell (i / 5) (by omega)
    have hm : i % 5 < 5 := Nat.mod_lt _ (by omega)
    have e2 : off + i = off + i / 5 * 5 + i % 5 := by omega
    rw [e2]
    generalize i % 5 = m at hm
    match m, hm with
    | 0, _ => rw [Nat.add_zero, hx.c0]; rfl
    | 1, _ => rw [hx.c1]; rfl
    | 2, _ => rw [hx.c2]; rfl
    | 3, _ => rw [hx.c3]; rfl
    | 4, _ => rw [hx.c4]; rfl
  have HR := Lib.hid hr2; clear hr hr2
  go_enter Tryd.func32, Tryd.ntmps32
  go_wp2
  go_loopw [1, 5] (fun q i wr => ∃ k : Nat, k ≤ n ∧ i = .int .i64 k ∧ q = .int .i64 ((k * 5 + 1 : Nat) : Int) ∧ Chg lo hi w wr ∧
    (0 < n → ∃ b off, A = some ⟨b, off, none⟩ ∧ lo ≤ b ∧ b < hi ∧ b < wr.heap.size ∧ (∀ i, i < n * 5 → (wr.cell? ⟨b, off + i, none⟩).isSome = true) ∧ ∀ i, wr.frozen? ⟨b, i, none⟩ = false)) (fun _ i _ => n - (intOf i).toNat)
  case atStart => exact ⟨0, Nat.zero_le _, rfl, by simp, Chg.refl _ _ _, HR.out⟩
  case round =>
    obtain ⟨k, hk, rfl, rfl, hC, hrow⟩ := hrel
    have HC := Lib.hid hC; clear hC
    have HROW := Lib.hid hrow; clear hrow
    by_cases hlt : k < n
    · obtain ⟨b, off, rfl, hb1, hb2, hb3, hcell, hfz⟩ := HROW.out (by omega)
      have HCELL := Lib.hid hcell
      have HFZ := Lib.hid hfz
      obtain ⟨v0, e0⟩ := Option.isSome_iff_exists.1 (hcell (k * 5) (by omega))
      obtain ⟨v1, e1⟩ := Option.isSome_iff_exists.1 (hcell (k * 5 + 1) (by omega))
      obtain ⟨v2, e2⟩ := Option.isSome_iff_exists.1 (hcell (k * 5 + 2) (by omega))
      obtain ⟨v3, e3⟩ := Option.isSome_iff_exists.1 (hcell (k * 5 + 3) (by omega))
      simp only [← Nat.add_assoc] at e1 e2 e3
      have f0 := hfz (off + k * 5)
      have f1 := hfz (off + k * 5 + 1)
      have f2 := hfz (off + k * 5 + 2)
      have f3 := hfz (off + k * 5 + 3)
      clear hcell hfz
      go_wp2_with fail
      obtain ⟨W5, hW5⟩ : ∃ W5, W5 = ((((wr.setCell ⟨b, off + k * 5, none⟩ (.int .i64 (k * 5 + 1))).setCell ⟨b, off + k * 5 + 1, none⟩ (.int .i64 (k * 5 + 1 + 1))).setCell ⟨b, off + k * 5 + 2, none⟩ (.int .i64 (k * 5 + 1 + 1 + 1))).setCell ⟨b, off + k * 5 + 3, none⟩ (.int .i64 (k * 5 + 1 + 1 + 1 + 1))) := ⟨_, rfl⟩
      have hm5 : MayW lo hi w W5 b off (n * 5) := by
        rw [hW5]
        exact ((((MayW.mk HCELL.out HFZ.out hb3 HC.out).set hb1 hb2 _ _).set hb1 hb2 _ _).set hb1 hb2 _ _).set hb1 hb2 _ _
      rw [← hW5]
      clear hW5 e0 e1 e2 e3 f0 f1 f2 f3
      refine (C_markTextZ _ _ (by omega) (by omega)).mono ?_; rintro e w6 ⟨s6, rfl, hb6⟩
      have hm6 := hm5.below hb6
      have HM6 := Lib.hid hm6
      obtain ⟨v4, e4⟩ := Option.isSome_iff_exists.1 (hm6.cell (k * 5 + 4) (by omega))
      simp only [← Nat.add_assoc] at e4
      have f4 := hm6.fz (off + k * 5 + 4)
      clear hm5 hm6 hb6
      go_wp2
      go_roundw
      case rel =>
        have h7 := HM6.out.set hb1 hb2 (off + k * 5 + 4) (.string s6)
        exact ⟨k + 1, by omega, by go_num, by go_num, h7.chg, fun _ => ⟨b, off, rfl, hb1, hb2, h7.lt, h7.cell, h7.fz⟩⟩
      case measure => simp [intOf]; omega
    · go_wp2
      go_ret
      exact ⟨_, rfl, by omega, HC.out⟩
theorem C_markStringZ (v : Value) (n : Nat) (f : Nat → ByteArray) (z : Int) (lo hi : Nat) (w : World) (h : WT lo hi w v n f) (h0 : 1 ≤ z) (h1 : z ≤ 6000000) (hn : n ≤ 1048576) :
    Calls Tryd.prog 41 #[v, .int .i64 z] w fun e w' => ∃ k : Int, e = .returned (.int .i64 k) ∧ 0 ≤ k ∧ Chg lo hi w w' := by
  obtain ⟨k, rfl⟩ : ∃ k : Nat, z = (k : Int) := ⟨z.toNat, by omega⟩
  exact (C_markStringS v n f k lo hi w h (by omega) (by omega)).mono fun e w' hh => ⟨_, hh.1, by omega, hh.2.2⟩
end Go.Proofs.YtmhelhjjadoiaaaDoor
