/- Lists of looks: copies and marks; valid looks. No condition but those stated. -/
import Derived.Test.YtmhelhjjadoiaaaGreatDoorLkA
namespace Go.Proofs.YtmhelhjjadoiaaaGreatDoor
set_option linter.unusedVariables false
set_option linter.unusedSimpArgs false
open Go.RowKit Go.Sort
theorem info_look : (Tryz.prog.info? 37).map (fun i => (i.zero, i.size, i.bytes)) = some (some (.agg #[.int .i64 0, .int .i64 0, .int .i64 0, .int .i64 0, .string ByteArray.empty]), 5, 48) := by kernel_rfl
theorem make_rowK {P : Program} (t e : TypeId) (z : Value) (size bytes : Nat) (ht : P.underlying t = some (.slice e)) (hinfo : (P.info? e).map (fun i => (i.zero, i.size, i.bytes)) = some (some z, size, bytes))
    (n : Nat) (hbytes : bytes * n ≤ 281474976710656) (h63 : n ≤ 9223372036854775807) (w : World) :
    (Instr.makeSlice t (.int .i64 (n : Int)) (.int .i64 (n : Int))).run P w = .ok (.slice (some ⟨w.heap.size, 0, none⟩) n n) (w.alloc (.cells (madeCells z.cells (n * size)) e)) := by
  obtain ⟨i, hi, hzz⟩ := Option.map_eq_some_iff.1 hinfo
  simp only [Prod.mk.injEq] at hzz
  obtain ⟨hz, hs, hb⟩ := hzz
  have hb' : (i.bytes : Int) * (n : Int) ≤ 281474976710656 := by
    have h : ((i.bytes * n : Nat) : Int) ≤ 281474976710656 := by rw [hb]; omega
    rwa [Int.natCast_mul] at h
  have hr := run_make (P := P) w t e i z ht hi hz .i64 .i64 n n (by omega) (Int.le_refl _) hb' (by omega)
  simp only [Int.toNat_natCast, hs] at hr
  exact hr
theorem row5_made (w : World) (t : TypeId) (n : Nat) : (w.alloc (.cells (madeCells #[.int .i64 0, .int .i64 0, .int .i64 0, .int .i64 0, .string ByteArray.empty] (n * 5)) t)).rowIs w.heap.size t (n * 5) (fun i => cK zeroK (i % 5)) := by
  have h := World.rowIs_alloc w (madeCells #[.int .i64 0, .int .i64 0, .int .i64 0, .int .i64 0, .string ByteArray.empty] (n * 5)) t (fun i => cK zeroK (i % 5)) (fun i hi => by
    rw [size_madeCells] at hi
    have hm : i % 5 < 5 := Nat.mod_lt _ (by omega)
    simp only [madeCells, Array.getElem?_map, Array.getElem?_range, hi, if_true, Option.map_some]
    congr 1
    show (#[Value.int .i64 0, Value.int .i64 0, Value.int .i64 0, Value.int .i64 0, Value.string ByteArray.empty] : Array Value)[i % 5]! = cK zeroK (i % 5)
    generalize i % 5 = m at *
    match m, hm with
    | 0, _ => rfl
    | 1, _ => rfl
    | 2, _ => rfl
    | 3, _ => rfl
    | 4, _ => rfl)
  rwa [size_madeCells] at h
theorem row5_step (R : Nat → Lk) (k i : Nat) :
    (if i = k * 5 + 4 then Value.string (R k).why else if i = k * 5 + 3 then .int .i64 (R k).kind else if i = k * 5 + 2 then .int .i64 (R k).rid else if i = k * 5 + 1 then .int .i64 (R k).who else if i = k * 5 then .int .i64 (R k).tick else if i < k * 5 then cK (R (i / 5)) (i % 5) else cK zeroK (i % 5)) =
    if i < (k + 1) * 5 then cK (R (i / 5)) (i % 5) else cK zeroK (i % 5) := by
  by_cases h4 : i = k * 5 + 4
  · subst h4
    rw [if_pos rfl, if_pos (by omega), show (k * 5 + 4) / 5 = k by omega, show (k * 5 + 4) % 5 = 4 by omega]; rfl
  rw [if_neg h4]
  by_cases h3 : i = k * 5 + 3
  · subst h3
    rw [if_pos rfl, if_pos (by omega), show (k * 5 + 3) / 5 = k by omega, show (k * 5 + 3) % 5 = 3 by omega]; rfl
  rw [if_neg h3]
  by_cases h2 : i = k * 5 + 2
  · subst h2
    rw [if_pos rfl, if_pos (by omega), show (k * 5 + 2) / 5 = k by omega, show (k * 5 + 2) % 5 = 2 by omega]; rfl
  rw [if_neg h2]
  by_cases h1 : i = k * 5 + 1
  · subst h1
    rw [if_pos rfl, if_pos (by omega), show (k * 5 + 1) / 5 = k by omega, show (k * 5 + 1) % 5 = 1 by omega]; rfl
  rw [if_neg h1]
  by_cases h0 : i = k * 5
  · subst h0
    rw [if_pos rfl, if_pos (by omega), show (k * 5) / 5 = k by omega, show (k * 5) % 5 = 0 by omega]; rfl
  rw [if_neg h0]
  by_cases hl : i < k * 5
  · rw [if_pos hl, if_pos (by omega)]
  · rw [if_neg hl, if_neg (by omega)]
theorem row5_at {w : World} {g : Nat} {t : TypeId} {n : Nat} {R : Nat → Lk} (h : w.rowIs g t (n * 5) (fun i => cK (R (i / 5)) (i % 5))) {j : Nat} (hj : j < n) : LkAt w g (0 + j * 5) (R j) := by
  have e : ∀ m, m < 5 → w.cell? ⟨g, 0 + j * 5 + m, none⟩ = some (cK (R j) m) := fun m hm => by
    have := h.cell (i := j * 5 + m) (by omega)
    rw [show (j * 5 + m) / 5 = j by omega, show (j * 5 + m) % 5 = m by omega] at this
    rw [Nat.zero_add]; exact this
  exact ⟨e 0 (by omega), e 1 (by omega), e 2 (by omega), e 3 (by omega), e 4 (by omega)⟩
theorem isSome_set {w : World} {p q : Addr} (u : Value) (h : (w.cell? q).isSome = true) : ((w.setCell p u).cell? q).isSome = true := by
  obtain ⟨v, hv⟩ := Option.isSome_iff_exists.1 h
  by_cases e : q = p
  · subst e; rw [World.cell?_setCell_same _ _ _ hv]; rfl
  · rw [World.cell?_setCell_other _ _ _ _ (fun h => e h.symm)]; exact h
/-- A row in block b that may be written: where it stands, and what has turned since w. -/
structure MayW (lo hi : Nat) (w W : World) (b off m : Nat) : Prop where
  cell : ∀ i, i < m → (W.cell? ⟨b, off + i, none⟩).isSome = true
  fz : ∀ i, W.frozen? ⟨b, i, none⟩ = false
  lt : b < W.heap.size
  chg : Chg lo hi w W
theorem MayW.set {lo hi : Nat} {w W : World} {b off m : Nat} (h : MayW lo hi w W b off m) (h1 : lo ≤ b) (h2 : b < hi) (o : Nat) (u : Value) : MayW lo hi w (W.setCell ⟨b, o, none⟩ u) b off m :=
  ⟨fun i hi => isSome_set _ (h.cell i hi), fun i => by rw [World.frozen?_setCell]; exact h.fz i, by simpa [World.setCell] using h.lt, h.chg.setCell (p := ⟨b, o, none⟩) h1 h2 u⟩
theorem MayW.below {lo hi : Nat} {w W W' : World} {b off m : Nat} (h : MayW lo hi w W b off m) (hb : Below W.heap.size W W') : MayW lo hi w W' b off m :=
  ⟨fun i hi => by rw [hb.cell (p := ⟨b, off + i, none⟩) h.lt]; exact h.cell i hi, fun i => (hb.frozen (p := ⟨b, i, none⟩) h.lt).trans (h.fz i), Nat.lt_of_lt_of_le h.lt hb.size, h.chg.trans (Chg.of_below hb)⟩
end Go.Proofs.YtmhelhjjadoiaaaGreatDoor
