/- Lists of looks. No condition but those stated. -/
import Derived.Test.YtmhelhjjadoiaaaDoorTxtE
import Derived.Test.YtmhelhjjadoiaaaDoorTxtC
import Derived.Test.YtmhelhjjadoiaaaDoorOpen
import Derived.Lib.LazyBuf
namespace Go.Proofs.YtmhelhjjadoiaaaDoor
set_option linter.unusedVariables false
set_option linter.unusedSimpArgs false
open Go.RowKit Go.Sort
structure Lk where
  tick : Int
  who : Int
  rid : Int
  kind : Int
  why : ByteArray
def zeroK : Lk := ⟨0, 0, 0, 0, ByteArray.empty⟩
/-- The five cells of a look. -/
def cK (x : Lk) (m : Nat) : Value := if m = 0 then .int .i64 x.tick else if m = 1 then .int .i64 x.who else if m = 2 then .int .i64 x.rid else if m = 3 then .int .i64 x.kind else .string x.why
structure LkAt (w : World) (b o : Nat) (x : Lk) : Prop where
  c0 : w.cell? ⟨b, o, none⟩ = some (.int .i64 x.tick)
  c1 : w.cell? ⟨b, o + 1, none⟩ = some (.int .i64 x.who)
  c2 : w.cell? ⟨b, o + 2, none⟩ = some (.int .i64 x.rid)
  c3 : w.cell? ⟨b, o + 3, none⟩ = some (.int .i64 x.kind)
  c4 : w.cell? ⟨b, o + 4, none⟩ = some (.string x.why)
theorem LkAt.block {w w' : World} {b o : Nat} {x : Lk} (h : LkAt w b o x) (e : w'.heap[b]? = w.heap[b]?) : LkAt w' b o x :=
  ⟨(World.cell?_of_block (w := w) (a := ⟨b, o, none⟩) e).trans h.c0, (World.cell?_of_block (w := w) (a := ⟨b, o + 1, none⟩) e).trans h.c1, (World.cell?_of_block (w := w) (a := ⟨b, o + 2, none⟩) e).trans h.c2, (World.cell?_of_block (w := w) (a := ⟨b, o + 3, none⟩) e).trans h.c3, (World.cell?_of_block (w := w) (a := ⟨b, o + 4, none⟩) e).trans h.c4⟩
/-- The slice whose head is A reads as the n looks R. -/
def RK (w : World) (A : Option Addr) (n : Nat) (R : Nat → Lk) : Prop :=
  0 < n → ∃ b off, A = some ⟨b, off, none⟩ ∧ b < w.heap.size ∧ ∀ j, j < n → LkAt w b (off + j * 5) (R j)
theorem RK.below {w w' : World} {A : Option Addr} {n : Nat} {R : Nat → Lk} (hb : Below w.heap.size w w') (h : RK w A n R) : RK w' A n R := fun h0 => by
  obtain ⟨b, off, e, hl, hc⟩ := h h0
  exact ⟨b, off, e, Nat.lt_of_lt_of_le hl hb.size, fun j hj => (hc j hj).block (hb.block b hl)⟩
def LKs (w : World) (v : Value) (n : Nat) (R : Nat → Lk) : Prop :=
  ∃ A cap, v = .slice A n cap ∧ RK w A n R ∧ n ≤ cap ∧ cap ≤ 9223372036854775807
theorem LKs.below {w w' : World} {v : Value} {n : Nat} {R : Nat → Lk} (hb : Below w.heap.size w w') (h : LKs w v n R) : LKs w' v n R :=
  let ⟨A, cap, e, hr, h2⟩ := h
  ⟨A, cap, e, hr.below hb, h2⟩
/-- .. in a block from lo on and below hi, that may be written. -/
def WK (lo hi : Nat) (w : World) (v : Value) (n : Nat) (R : Nat → Lk) : Prop :=
  ∃ A cap, v = .slice A n cap ∧ (0 < n → ∃ b off, A = some ⟨b, off, none⟩ ∧ lo ≤ b ∧ b < hi ∧ b < w.heap.size ∧ (∀ j, j < n → LkAt w b (off + j * 5) (R j)) ∧ ∀ i, w.frozen? ⟨b, i, none⟩ = false) ∧ n ≤ cap ∧ cap ≤ 9223372036854775807
theorem WK.lks {lo hi : Nat} {w : World} {v : Value} {n : Nat} {R : Nat → Lk} (h : WK lo hi w v n R) : LKs w v n R := by
  obtain ⟨A, cap, rfl, hr, hc, hm⟩ := h
  refine ⟨A, cap, rfl, fun h0 => ?_, hc, hm⟩
  obtain ⟨b, off, e, _, _, hl, hcell, _⟩ := hr h0
  exact ⟨b, off, e, hl, hcell⟩
theorem WK.chg {lo hi lo' hi' : Nat} {w w' : World} {v : Value} {n : Nat} {R : Nat → Lk} (hc : Chg lo' hi' w w') (hd : hi ≤ lo' ∨ hi' ≤ lo) (h : WK lo hi w v n R) : WK lo hi w' v n R := by
  obtain ⟨A, cap, rfl, hr, h2⟩ := h
  refine ⟨A, cap, rfl, fun h0 => ?_, h2⟩
  obtain ⟨b, off, e, h3, h4, hl, hcell, hf⟩ := hr h0
  have hb := hc.block b hl (by omega)
  exact ⟨b, off, e, h3, h4, Nat.lt_of_lt_of_le hl hc.size, fun j hj => (hcell j hj).block hb, fun i => (World.frozen?_of_block (w := w) (a := ⟨b, i, none⟩) hb).trans (hf i)⟩
theorem WK.below {lo hi : Nat} {w w' : World} {v : Value} {n : Nat} {R : Nat → Lk} (hb : Below w.heap.size w w') (h : WK lo hi w v n R) : WK lo hi w' v n R :=
  h.chg (lo' := hi) (hi' := hi) (Chg.of_below hb) (.inl (Nat.le_refl _))
theorem WK.mono {lo hi lo' hi' : Nat} {w : World} {v : Value} {n : Nat} {R : Nat → Lk} (h : WK lo hi w v n R) (h1 : lo' ≤ lo) (h2 : hi ≤ hi') : WK lo' hi' w v n R := by
  obtain ⟨A, cap, rfl, hr, h3⟩ := h
  refine ⟨A, cap, rfl, fun h0 => ?_, h3⟩
  obtain ⟨b, off, e, h4, h5, h6⟩ := hr h0
  exact ⟨b, off, e, by omega, by omega, h6⟩
section
open Go.ChangeShapes Go.WideShapes Go.ChangeAt Go.Deep Go.Joins
variable {H : Type} {enc : TypeId × Value → H} {w : World} {base : Nat} {spare : Nat → Bool} {held : Bool}
theorem spot_cell {a : Addr} {k : Nat} {v : Value} {b off : Nat} (hab : a = ⟨b, off, none⟩) (h : w.cell? (a.add k) = some v) : w.cell? ⟨b, off + k, none⟩ = some v := by
  subst hab
  unfold Addr.add at h
  by_cases e : k = 0
  · subst e; simpa using h
  · rw [if_neg e] at h; exact h
set_option maxRecDepth 100000 in
theorem view_SlawsLook {r : Reach} {b0 : Nat} {v : Value} {d : DataW H} {p : List MemPlace} (hv : Value.okWide Tryd.prog w r b0 29 v) (h : DataW.Trod enc Tryd.prog w base spare held 29 v d p) :
    ∃ x : Nat × (Nat → Lk), LKs w v x.1 x.2 ∧ ∀ j, j < x.1 → (x.2 j).why.size ≤ 9223372036854775807 ∧ I64 (x.2 j).tick := by
  obtain ⟨a0, len0, cap0, rfl⟩ := okWide_slice Tryd.underlying29 hv
  obtain ⟨fuel, hf⟩ := h
  rcases open_slice_fields (fs := #[_, _, _, _, _]) Tryd.underlying29 Tryd.underlying23 (by kernel_rfl) (by kernel_rfl) hf with ⟨hcs, _⟩ | ⟨a, len, cap, m, D, Pl, hcs, _, hl, hm, hmm, _, hi⟩
  · simp [Value.cells] at hcs
    obtain ⟨rfl, rfl, rfl⟩ := hcs
    exact ⟨(0, fun _ => zeroK), ⟨none, 0, rfl, fun h => absurd h (by simp), by simp, by omega⟩, fun j hj => absurd hj (by simp)⟩
  · simp [Value.cells] at hcs
    obtain ⟨rfl, rfl, rfl⟩ := hcs
    have hle : len0 ≤ m := by rw [hmm]; split <;> omega
    have key : ∀ i, ∃ x : Lk, i < len0 → (w.cell? (a.add (i * 5 + 0)) = some (.int .i64 x.tick) ∧ w.cell? (a.add (i * 5 + 1)) = some (.int .i64 x.who) ∧ w.cell? (a.add (i * 5 + 2)) = some (.int .i64 x.rid) ∧ w.cell? (a.add (i * 5 + 3)) = some (.int .i64 x.kind) ∧ w.cell? (a.add (i * 5 + 4)) = some (.string x.why)) ∧ x.why.size ≤ 9223372036854775807 ∧ I64 x.tick := by
      intro i
      by_cases hlt : i < len0
      · obtain ⟨ys, n, _, _, _, hfld⟩ := hi i (by omega)
        obtain ⟨v0, y0, c0, _, t0⟩ := hfld 0 _ rfl
        obtain ⟨v1, y1, c1, _, t1⟩ := hfld 1 _ rfl
        obtain ⟨v2, y2, c2, _, t2⟩ := hfld 2 _ rfl
        obtain ⟨v3, y3, c3, _, t3⟩ := hfld 3 _ rfl
        obtain ⟨v4, y4, c4, _, t4⟩ := hfld 4 _ rfl
        obtain ⟨n0, e, _, b0⟩ := DataW.trod_int Tryd.underlying3 t0; simp only [List.cons.injEq, and_true] at e; subst e
        obtain ⟨n1, e, _, b1⟩ := DataW.trod_int Tryd.underlying3 t1; simp only [List.cons.injEq, and_true] at e; subst e
        obtain ⟨n2, e, _, b2⟩ := DataW.trod_int Tryd.underlying3 t2; simp only [List.cons.injEq, and_true] at e; subst e
        obtain ⟨n3, e, _, b3⟩ := DataW.trod_int Tryd.underlying3 t3; simp only [List.cons.injEq, and_true] at e; subst e
        obtain ⟨n4, e, _, b4⟩ := DataW.trod_string Tryd.underlying9 t4; simp only [List.cons.injEq, and_true] at e; subst e
        exact ⟨⟨n0, n1, n2, n3, n4⟩, fun _ => ⟨⟨c0, c1, c2, c3, c4⟩, by unfold maxLen at b4; exact b4, i64_of_wf b0⟩⟩
      · exact ⟨zeroK, fun h => absurd h hlt⟩
    obtain ⟨R, hR⟩ := Classical.axiomOfChoice key
    refine ⟨(len0, R), ⟨some a, cap0, rfl, fun h0 => ?_, hl, by unfold maxLen at hm; exact hm⟩, fun j hj => (hR j hj).2⟩
    obtain ⟨⟨c0, _⟩, _⟩ := hR 0 h0
    obtain ⟨b, off, spot⟩ := a
    have hs : spot = none := by simpa [Addr.add] using World.cell?_spot c0
    subst hs
    refine ⟨b, off, rfl, ?_, fun j hj => ?_⟩
    · have := World.block_lt_of_cell? w _ c0
      simpa [Addr.add] using this
    · obtain ⟨⟨c0, c1, c2, c3, c4⟩, _⟩ := hR j hj
      exact ⟨spot_cell rfl c0, by have := spot_cell rfl c1; rwa [← Nat.add_assoc] at this, by have := spot_cell rfl c2; rwa [← Nat.add_assoc] at this, by have := spot_cell rfl c3; rwa [← Nat.add_assoc] at this, by have := spot_cell rfl c4; rwa [← Nat.add_assoc] at this⟩
end
def szK (left : Int) (s : ByteArray) : Int := if left - s.size < 0 then -1 else left - s.size
theorem C_szLook (a b c d : Int) (s : ByteArray) (left : Int) (w : World) (hs : s.size ≤ 9223372036854775807) (h0 : 0 ≤ left) (h1 : left ≤ 1048576) :
    Calls Tryd.prog 14 #[.agg #[.int .i64 a, .int .i64 b, .int .i64 c, .int .i64 d, .string s], .int .i64 left] w fun e w' => e = .returned (.int .i64 (szK left s)) ∧ Below w.heap.size w w' := by
  by_cases g1 : left - s.size < 0
  · go_enter Tryd.func14, Tryd.ntmps14
    go_wp2
    go_ret
    exact ⟨ret_int (by unfold szK; rw [if_pos (by omega)]), by (repeat (first | with_reducible exact Below.refl _ _ | with_reducible exact below_regrown _ _ _ | with_reducible refine bel_step0 (by assumption) ?_ | with_reducible refine bel_alloc0 ?_ _ | with_reducible refine bel_regrown0 ?_ _ _ | with_reducible refine bel_regrown ?_ (by first | omega | (simp; done) | (simp; omega)) _ _ | with_reducible refine below_drewN ?_ _ | with_reducible refine Below.drew ?_ | with_reducible refine Below.alloc ?_ (by first | omega | (simp; done) | (simp; omega)) _ | with_reducible refine Below.setCell ?_ (by first | omega | (simp; done) | (simp; omega)) _ | with_reducible refine bel_step (by assumption) (by first | omega | (simp; done) | (simp; omega)) ?_ | with_reducible refine bel_grown (by assumption) (by first | omega | (simp; done) | (simp; omega)) (by first | omega | (simp; done) | (simp; omega)) ?_))⟩
  · go_enter Tryd.func14, Tryd.ntmps14
    go_wp2
    go_ret
    exact ⟨ret_int (by unfold szK; rw [if_neg (by omega)]), by (repeat (first | with_reducible exact Below.refl _ _ | with_reducible exact below_regrown _ _ _ | with_reducible refine bel_step0 (by assumption) ?_ | with_reducible refine bel_alloc0 ?_ _ | with_reducible refine bel_regrown0 ?_ _ _ | with_reducible refine bel_regrown ?_ (by first | omega | (simp; done) | (simp; omega)) _ _ | with_reducible refine below_drewN ?_ _ | with_reducible refine Below.drew ?_ | with_reducible refine Below.alloc ?_ (by first | omega | (simp; done) | (simp; omega)) _ | with_reducible refine Below.setCell ?_ (by first | omega | (simp; done) | (simp; omega)) _ | with_reducible refine bel_step (by assumption) (by first | omega | (simp; done) | (simp; omega)) ?_ | with_reducible refine bel_grown (by assumption) (by first | omega | (simp; done) | (simp; omega)) (by first | omega | (simp; done) | (simp; omega)) ?_))⟩
theorem C_toLook (a b c d : Int) (s : ByteArray) (w : World) :
    Calls Tryd.prog 16 #[.agg #[.int .i64 a, .int .i64 b, .int .i64 c, .int .i64 d, .string s]] w fun e w' => e = .returned (.agg #[.int .i64 a, .int .i64 b, .int .i64 c, .int .i64 d, .string s]) ∧ Below w.heap.size w w' := by
  go_enter Tryd.func16, Tryd.ntmps16
  go_wp2
  (go_light; refine bodyPost_ret (by simp (maxDischargeDepth := 3) [results, Tryd.results16, go_sem, *]; try rfl) rfl ?_)
  refine ⟨rfl, ?_⟩
  (repeat (first | with_reducible exact Below.refl _ _ | with_reducible exact below_regrown _ _ _ | with_reducible refine bel_step0 (by assumption) ?_ | with_reducible refine bel_alloc0 ?_ _ | with_reducible refine bel_regrown0 ?_ _ _ | with_reducible refine bel_regrown ?_ (by first | omega | (simp; done) | (simp; omega)) _ _ | with_reducible refine below_drewN ?_ _ | with_reducible refine Below.drew ?_ | with_reducible refine Below.alloc ?_ (by first | omega | (simp; done) | (simp; omega)) _ | with_reducible refine Below.setCell ?_ (by first | omega | (simp; done) | (simp; omega)) _ | with_reducible refine bel_step (by assumption) (by first | omega | (simp; done) | (simp; omega)) ?_ | with_reducible refine bel_grown (by assumption) (by first | omega | (simp; done) | (simp; omega)) (by first | omega | (simp; done) | (simp; omega)) ?_))

theorem C_eqLook (a b c d : Int) (s : ByteArray) (w : World) :
    Calls Tryd.prog 60 #[.agg #[.int .i64 a, .int .i64 b, .int .i64 c, .int .i64 d, .string s], .agg #[.int .i64 a, .int .i64 b, .int .i64 c, .int .i64 d, .string s]] w fun e w' => e = .returned (.bool true) ∧ Below w.heap.size w w' := by
  go_enter Tryd.func60, Tryd.ntmps60
  go_wp2
  all_goals (first | go_ret | go_ret2 | go_ret3)
  all_goals exact ⟨rfl, by (repeat (first | with_reducible exact Below.refl _ _ | with_reducible exact below_regrown _ _ _ | with_reducible refine bel_step0 (by assumption) ?_ | with_reducible refine bel_alloc0 ?_ _ | with_reducible refine bel_regrown0 ?_ _ _ | with_reducible refine bel_regrown ?_ (by first | omega | (simp; done) | (simp; omega)) _ _ | with_reducible refine below_drewN ?_ _ | with_reducible refine Below.drew ?_ | with_reducible refine Below.alloc ?_ (by first | omega | (simp; done) | (simp; omega)) _ | with_reducible refine Below.setCell ?_ (by first | omega | (simp; done) | (simp; omega)) _ | with_reducible refine bel_step (by assumption) (by first | omega | (simp; done) | (simp; omega)) ?_ | with_reducible refine bel_grown (by assumption) (by first | omega | (simp; done) | (simp; omega)) (by first | omega | (simp; done) | (simp; omega)) ?_))⟩
set_option maxHeartbeats 1000000 in
theorem C_szLookS (v : Value) (n : Nat) (R : Nat → Lk) (left : Int) (w : World) (h : LKs w v n R) (hs : ∀ j, j < n → (R j).why.size ≤ 9223372036854775807) (h0 : 0 ≤ left) (h1 : left ≤ 1048576) :
    Calls Tryd.prog 18 #[v, .int .i64 left] w fun e w' => e = .returned (.int .i64 (szT left n fun j => (R j).why)) ∧ Below w.heap.size w w' := by
  obtain ⟨A, cap, rfl, hr, hc, hm⟩ := h
  have HR := Lib.hid hr; clear hr
  have HS := Lib.hid hs; clear hs
  obtain ⟨f, hf⟩ : ∃ f : Nat → ByteArray, (fun j => (R j).why) = f := ⟨_, rfl⟩
  have HF := Lib.hid (fun j => congrFun hf j)
  rw [hf]
  clear hf
  by_cases hlt0 : left - n < 0
  · go_enter Tryd.func18, Tryd.ntmps18
    go_wp2
    go_ret
    exact ⟨ret_int (by unfold szT; rw [if_pos (by omega)]), Below.refl _ _⟩
  · go_enter Tryd.func18, Tryd.ntmps18
    go_wp2
    go_loopw [1, 5] (fun q i wr => ∃ k : Nat, k ≤ n ∧ i = .int .i64 k ∧ q = .int .i64 (left - n - sumT f k) ∧ 0 ≤ left - n - sumT f k ∧ Below w.heap.size w wr) (fun _ i _ => n - (intOf i).toNat)
    case atStart => exact ⟨0, Nat.zero_le _, rfl, by simp [sumT], by simp [sumT]; omega, Below.refl _ _⟩
    case round =>
      obtain ⟨k, hk, rfl, rfl, hq, hB⟩ := hrel
      by_cases hlt : k < n
      · obtain ⟨b, off, rfl, hb, hcell⟩ := (HR.out.below hB) (by omega)
        obtain ⟨c0, c1, c2, c3, c4⟩ := hcell k hlt
        have hsk := HS.out k hlt
        have hfk : (R k).why = f k := HF.out k
        rw [hfk] at c4 hsk
        have hsum : sumT f (k + 1) = sumT f k + (f k).size := rfl
        have HSUM := Lib.hid hsum
        have hmono := sumT_mono f (show k + 1 ≤ n from hlt)
        rw [hsum] at hmono
        clear hcell hsum hfk
        have hsz : szK (left - n - sumT f k) (f k) = if left - n - sumT f k - (f k).size < 0 then -1 else left - n - sumT f k - (f k).size := rfl
        by_cases hneg : left - n - sumT f k - (f k).size < 0
        · rw [if_pos hneg] at hsz
          have HSZ := Lib.hid hsz
          clear hsz
          go_wp2_with fail
          refine (C_szLook _ _ _ _ _ _ _ hsk hq (by omega)).mono ?_; rintro e w1 ⟨rfl, hb1⟩
          rw [HSZ.out]
          clear c0 c1 c2 c3 c4
          go_wp2
          go_ret
          exact ⟨ret_int (by unfold szT; rw [if_pos (by omega)]), bel_step0 hb1 hB⟩
        · rw [if_neg hneg] at hsz
          have HSZ := Lib.hid hsz
          clear hsz
          go_wp2_with fail
          refine (C_szLook _ _ _ _ _ _ _ hsk hq (by omega)).mono ?_; rintro e w1 ⟨rfl, hb1⟩
          rw [HSZ.out]
          clear c0 c1 c2 c3 c4
          go_wp2
          go_roundw
          case rel => exact ⟨k + 1, by omega, by go_num, by rw [HSUM.out]; go_num, by rw [HSUM.out]; omega, bel_step0 hb1 hB⟩
          case measure => simp [intOf]; omega
      · obtain rfl : k = n := by omega
        go_wp2
        go_ret
        exact ⟨ret_int (by unfold szT; rw [if_neg (by omega)]), hB⟩
theorem C_eqLookS (v v' : Value) (n : Nat) (R : Nat → Lk) (w : World) (h : LKs w v n R) (h' : LKs w v' n R) :
    Calls Tryd.prog 22 #[v, v'] w fun e w' => e = .returned (.bool true) ∧ Below w.heap.size w w' := by
  obtain ⟨A, cap, rfl, hr, hc, hm⟩ := h
  obtain ⟨A', cap', rfl, hr', hc', hm'⟩ := h'
  have HR := Lib.hid hr; clear hr
  have HR' := Lib.hid hr'; clear hr'
  go_enter Tryd.func22, Tryd.ntmps22
  go_wp2
  go_loopw [5] (fun i wr => ∃ k : Nat, k ≤ n ∧ i = .int .i64 k ∧ Below w.heap.size w wr) (fun i _ => n - (intOf i).toNat)
  case atStart => exact ⟨0, Nat.zero_le _, rfl, Below.refl _ _⟩
  case round =>
    obtain ⟨k, hk, rfl, hB⟩ := hrel; have hzB := hB.size
    by_cases hlt : k < n
    · obtain ⟨b, off, rfl, hb, hcell⟩ := (HR.out.below hB) (by omega)
      obtain ⟨b', off', rfl, hb', hcell'⟩ := (HR'.out.below hB) (by omega)
      obtain ⟨c0, c1, c2, c3, c4⟩ := hcell k hlt
      obtain ⟨d0, d1, d2, d3, d4⟩ := hcell' k hlt
      have hk0 : (0 : Int) ≤ (k : Int) := by omega
      have hk1 : (k : Int) < (n : Int) := by omega
      have g0 := cell_regrown c0; have g1 := cell_regrown c1; have g2 := cell_regrown c2; have g3 := cell_regrown c3; have g4 := cell_regrown c4
      have i0 := cell_regrown d0; have i1 := cell_regrown d1; have i2 := cell_regrown d2; have i3 := cell_regrown d3; have i4 := cell_regrown d4
      have HE : ∀ d os, Calls Tryd.prog 60 #[.agg #[.int .i64 (R k).tick, .int .i64 (R k).who, .int .i64 (R k).rid, .int .i64 (R k).kind, .string (R k).why], .agg #[.int .i64 (R k).tick, .int .i64 (R k).who, .int .i64 (R k).rid, .int .i64 (R k).kind, .string (R k).why]] (grow (redrawn wr d) os) fun e w'' => e = .returned (.bool true) ∧ ∃ p : Regrown, w'' = grow (redrawn wr p.d) p.os :=
        fun d os => Calls.regrown_of (C_eqLook _ _ _ _ _ _)
      clear hcell hcell' c0 c1 c2 c3 c4 d0 d1 d2 d3 d4
      go_wp2
      (refine wp_region_quiet_below (by kernel_rfl) (by kernel_rfl) ?_; (repeat (go_big_quiet_step (exact HE _ _))); refine wpQuiet_nil ?_; intro _ hw'; obtain ⟨⟨dq, osq⟩, hw''⟩ := hw'; subst hw'')
      go_wp2
      go_roundw
      case rel => exact ⟨k + 1, by omega, by go_num, by (repeat (first | with_reducible exact Below.refl _ _ | with_reducible exact below_regrown _ _ _ | with_reducible refine bel_step0 (by assumption) ?_ | with_reducible refine bel_alloc0 ?_ _ | with_reducible refine bel_regrown0 ?_ _ _ | with_reducible refine bel_regrown ?_ (by first | omega | (simp; done) | (simp; omega)) _ _ | with_reducible refine below_drewN ?_ _ | with_reducible refine Below.drew ?_ | with_reducible refine Below.alloc ?_ (by first | omega | (simp; done) | (simp; omega)) _ | with_reducible refine Below.setCell ?_ (by first | omega | (simp; done) | (simp; omega)) _ | with_reducible refine bel_step (by assumption) (by first | omega | (simp; done) | (simp; omega)) ?_ | with_reducible refine bel_grown (by assumption) (by first | omega | (simp; done) | (simp; omega)) (by first | omega | (simp; done) | (simp; omega)) ?_))⟩
      case measure => simp [intOf]; omega
    · go_wp2
      go_ret
      exact ⟨rfl, hB⟩
end Go.Proofs.YtmhelhjjadoiaaaDoor
