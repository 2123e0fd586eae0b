/- The tests of a query, one by one: the program's walk over the tree. No condition but those stated. -/
import Derived.Test.YtjmfkenhnfdbjaaDoorQyU
import Derived.Test.YtjmfkenhnfdbjaaDoorQyB
import Derived.Test.YtjmfkenhnfdbjaaDoorLkO
namespace Go.Proofs.YtjmfkenhnfdbjaaDoor
set_option linter.unusedVariables false
set_option linter.unusedSimpArgs false
open Go.RowKit Go.Sort
/-- The block is the variable P's, or of the row that the variable holds. -/
def OwnB (w : World) (P b : Nat) : Prop := b = P ∨ ∃ v, w.cell? ⟨P, 0, none⟩ = some v ∧ v.ownBlock = some b
/-- Nothing but the variable and its row has turned. -/
structure Kp (P : Nat) (w w' : World) : Prop where
  os : w'.os = w.os
  tape : w'.tape = w.tape
  output : w'.output = w.output
  size : w.heap.size ≤ w'.heap.size
  block : ∀ b, b < w.heap.size → ¬ OwnB w P b → w'.heap[b]? = w.heap[b]? ∧ ¬ OwnB w' P b
theorem Kp.trans {P : Nat} {a b c : World} (h : Kp P a b) (k : Kp P b c) : Kp P a c :=
  ⟨k.os.trans h.os, k.tape.trans h.tape, k.output.trans h.output, Nat.le_trans h.size k.size, fun i hi hn =>
    let ⟨e, n⟩ := h.block i hi hn
    let ⟨e2, n2⟩ := k.block i (Nat.lt_of_lt_of_le hi h.size) n
    ⟨e2.trans e, n2⟩⟩
theorem Kp.of_below {P : Nat} {w w' : World} (hP : P < w.heap.size) (hb : Below w.heap.size w w') : Kp P w w' :=
  ⟨hb.os, hb.tape, hb.output, hb.size, fun b hl hn => ⟨hb.block b hl, fun ho => hn (by
    rcases ho with e | ⟨v, hv, h2⟩
    · exact .inl e
    · exact .inr ⟨v, (hb.cell (p := ⟨P, 0, none⟩) hP).symm.trans hv, h2⟩)⟩⟩
theorem Kp.below {P : Nat} {w w' : World} (h : Kp P w w') (ho : ∀ b, OwnB w P b → P ≤ b) (hP : P ≤ w.heap.size) : Below P w w' :=
  ⟨h.os, h.tape, h.output, h.size, fun k hk => (h.block k (by omega) (fun hh => by have := ho k hh; omega)).1⟩
theorem Kp.tr {P : Nat} {w w' : World} {D : Nat → Prop} {q : Qy} {x : Tq} (h : Kp P w w') (ho : ∀ b, OwnB w P b → P ≤ b) (hd : ∀ g, D g → g < P) (ht : TR w D q x) : TR w' D q x :=
  TR.frame (fun g hg hl => (h.block g hl (fun hh => by have := ho g hh; have := hd g hg; omega)).1) h.size q x ht
theorem TR.inside {w : World} {D : Nat → Prop} : ∀ (q : Qy) (x : Tq), TR w D q x → TR w (fun g => g < w.heap.size) q x := by
  intro q
  induction q with
  | test c n => intro x h; exact h
  | neg q ih =>
    intro x h
    obtain ⟨g, k, y, e, h1, h2, h3, h6⟩ := h
    exact ⟨g, k, y, e, h2, h2, h3, ih y h6⟩
  | seq o m f ih =>
    intro x h
    obtain ⟨g, k, e, h1, h2, h3, h4, h5⟩ := h
    refine ⟨g, k, e, h2, h2, h3, h4, fun j hj => ?_⟩
    obtain ⟨y, k1, k4⟩ := h5 j hj
    exact ⟨y, k1, ih j y k4⟩
/-- A function that visits tests and keeps its state in the variable P. -/
structure Vis (P : Nat) (St : World → List (Nat × Int) → Prop) (fc : Nat) : Prop where
  own : ∀ w ts, St w ts → P < w.heap.size ∧ ∀ b, OwnB w P b → P ≤ b ∧ b < w.heap.size
  bel : ∀ w w' ts, Below w.heap.size w w' → St w ts → St w' ts
  call : ∀ (w : World) (c : Nat) (n : Int) ts, ts.length < 1048576 → St w ts → Calls Tryd.prog fc #[.agg #[.int .u8 (c : Int), .int .i64 n, .slice none 0 0], .pointer (some ⟨P, 0, none⟩)] w fun e w' => e = .returned (.tuple #[]) ∧ St w' (ts ++ [(c, n)]) ∧ Kp P w w'
def flat (qs : Nat → Qy) (j : Nat) : List (Nat × Int) := (List.range j).flatMap fun i => (qs i).tests
theorem flat_succ (qs : Nat → Qy) (j : Nat) : flat qs (j + 1) = flat qs j ++ (qs j).tests := by
  unfold flat; rw [List.range_succ, List.flatMap_append]; simp
theorem flat_le (qs : Nat → Qy) {j m : Nat} (h : j < m) : (flat qs j).length + (qs j).tests.length ≤ (flat qs m).length := by
  induction m with
  | zero => omega
  | succ m ih =>
    rw [flat_succ qs m, List.length_append]
    by_cases e : j = m
    · subst e; exact Nat.le_refl _
    · have := ih (by omega); omega
set_option maxHeartbeats 4000000 in
theorem C_eachSeq (fc P : Nat) (St : World → List (Nat × Int) → Prop) (V : Vis P St fc) (s : Int) (g m k : Nat) (y : Nat → Tq) (qs : Nat → Qy) (w : World) (ts : List (Nat × Int)) (hm : 0 < m) (hmk : m ≤ 9223372036854775807) (hg : g < P)
    (hst : St w ts) (hlen : ts.length + (flat qs m).length ≤ 1048576)
    (hc : ∀ j, j < m → w.cell? ⟨g, j * 3, none⟩ = some (.int .u8 (y j).c) ∧ w.cell? ⟨g, j * 3 + 1, none⟩ = some (.int .i64 (y j).n) ∧ w.cell? ⟨g, j * 3 + 2, none⟩ = some (.slice (y j).A (y j).m (y j).k))
    (hI : ∀ j, j < m → ∀ w' ts', St w' ts' → Kp P w w' → ts'.length + (qs j).tests.length ≤ 1048576 → Calls Tryd.prog 49 #[.agg #[.int .u8 (y j).c, .int .i64 (y j).n, .slice (y j).A (y j).m (y j).k], .func (.func fc) #[] #[.pointer (some ⟨P, 0, none⟩)]] w' fun e w'' => e = .returned (.tuple #[]) ∧ St w'' (ts' ++ (qs j).tests) ∧ Kp P w' w'') :
    Calls Tryd.prog 49 #[.agg #[.int .u8 ((⟨s, 0, some ⟨g, 0, none⟩, m, k⟩ : Tq)).c, .int .i64 ((⟨s, 0, some ⟨g, 0, none⟩, m, k⟩ : Tq)).n, .slice ((⟨s, 0, some ⟨g, 0, none⟩, m, k⟩ : Tq)).A ((⟨s, 0, some ⟨g, 0, none⟩, m, k⟩ : Tq)).m ((⟨s, 0, some ⟨g, 0, none⟩, m, k⟩ : Tq)).k], .func (.func fc) #[] #[.pointer (some ⟨P, 0, none⟩)]] w fun e w' => e = .returned (.tuple #[]) ∧ St w' (ts ++ flat qs m) ∧ Kp P w w' := by
  obtain ⟨hP, hown⟩ := V.own w ts hst
  obtain ⟨w0, hw0⟩ : ∃ w0, w0 = w.alloc (.cells #[.int .u8 ((⟨s, 0, some ⟨g, 0, none⟩, m, k⟩ : Tq)).c, .int .i64 ((⟨s, 0, some ⟨g, 0, none⟩, m, k⟩ : Tq)).n, .slice ((⟨s, 0, some ⟨g, 0, none⟩, m, k⟩ : Tq)).A ((⟨s, 0, some ⟨g, 0, none⟩, m, k⟩ : Tq)).m ((⟨s, 0, some ⟨g, 0, none⟩, m, k⟩ : Tq)).k] 62) := ⟨_, rfl⟩
  have HW0 := Lib.hid hw0.symm
  have B0 : Below w.heap.size w w0 := by rw [hw0]; exact (Below.refl _ _).alloc (Nat.le_refl _) _
  have q2 : w0.cell? ⟨w.heap.size, 2, none⟩ = some (.slice (some ⟨g, 0, none⟩) m k) := by rw [hw0]; simp
  have hne : ((m : Int) == 0) = false := by rw [beq_eq_false_iff_ne]; omega
  have HST := Lib.hid (V.bel _ _ _ B0 hst)
  have HK := Lib.hid (Kp.of_below hP B0)
  have HC := Lib.hid hc
  have HI := Lib.hid hI
  have HL := Lib.hid hlen
  have HO := Lib.hid (fun b hb => (hown b hb).1)
  have HV := Lib.hid V
  clear hc hI hlen hst hown hw0 B0 V
  go_enter Tryd.func49, Tryd.ntmps49
  go_upto_region 1 with fail
  rw [HW0.out]
  go_wp2
  clear q2
  go_loopw [16] (fun i wr => ∃ j : Nat, j ≤ m ∧ i = .int .i64 j ∧ St wr (ts ++ flat qs j) ∧ Kp P w wr) (fun i _ => m - (intOf i).toNat)
  case atStart => exact ⟨0, Nat.zero_le _, rfl, by simpa [flat] using HST.out, HK.out⟩
  case round =>
    obtain ⟨j, hj, rfl, hst, hkp⟩ := hrel
    have HS := Lib.hid hst
    have HKP := Lib.hid hkp
    clear hst HST HK
    by_cases hlt : j < m
    · obtain ⟨e0, e1, e2⟩ := HC.out j hlt
      have hblk := (hkp.block g (by omega) (fun hh => by have := HO.out g hh; omega)).1
      have d0 := (World.cell?_of_block (w := w) (a := ⟨g, j * 3, none⟩) hblk).trans e0
      have d1 := (World.cell?_of_block (w := w) (a := ⟨g, j * 3 + 1, none⟩) hblk).trans e1
      have d2 := (World.cell?_of_block (w := w) (a := ⟨g, j * 3 + 2, none⟩) hblk).trans e2
      obtain ⟨W, hW⟩ : ∃ W, W = wr.alloc (.cells #[.int .u8 (y j).c, .int .i64 (y j).n, .slice (y j).A (y j).m (y j).k] 62) := ⟨_, rfl⟩
      have BW : Below wr.heap.size wr W := by rw [hW]; exact (Below.refl _ _).alloc (Nat.le_refl _) _
      obtain ⟨x0, x1, x2⟩ : W.cell? ⟨wr.heap.size, 0, none⟩ = some (.int .u8 (y j).c) ∧ W.cell? ⟨wr.heap.size, 1, none⟩ = some (.int .i64 (y j).n) ∧ W.cell? ⟨wr.heap.size, 2, none⟩ = some (.slice (y j).A (y j).m (y j).k) := by rw [hW]; exact ⟨cell_new _ _ _ _ _ rfl, cell_new _ _ _ _ _ rfl, cell_new _ _ _ _ _ rfl⟩
      have hPr : P < wr.heap.size := Nat.lt_of_lt_of_le hP hkp.size
      have HKW := Lib.hid (hkp.trans (Kp.of_below hPr BW))
      have HSW := Lib.hid (HV.out.bel _ _ _ BW HS.out)
      have HWE := Lib.hid hW.symm
      have HFL := Lib.hid (flat_succ qs j)
      have hle := flat_le qs hlt
      have hLL := HL.out
      have HCL := Lib.hid (HI.out j hlt W (ts ++ flat qs j) HSW.out HKW.out (by rw [List.length_append]; omega))
      clear e0 e1 e2 hkp hblk hW BW hle hLL
      go_upto_region 6 with fail
      rw [HWE.out]
      go_wp2_with fail
      refine HCL.out.mono ?_; rintro e w3 ⟨rfl, hs3, hk3⟩
      have HS3 := Lib.hid hs3
      have HK3 := Lib.hid hk3
      clear hs3 hk3 x0 x1 x2 d0 d1 d2
      go_wp2
      go_roundw
      case rel => exact ⟨j + 1, by omega, by go_num, by rw [HFL.out, ← List.append_assoc]; exact HS3.out, HKW.out.trans HK3.out⟩
      case measure => simp [intOf]; omega
    · obtain rfl : j = m := by omega
      go_wp2
      go_end0
      exact ⟨rfl, HS.out, HKP.out⟩
set_option maxRecDepth 100000 in
set_option maxHeartbeats 4000000 in
theorem C_eachS (P : Nat) (St : World → List (Nat × Int) → Prop) (V : Vis P St 50) (D : Nat → Prop) (hD : ∀ g, D g → g < P) : ∀ (q : Qy) (x : Tq) (w : World) (ts : List (Nat × Int)), TR w D q x → q.wf → St w ts → ts.length + q.tests.length ≤ 1048576 →
    Calls Tryd.prog 49 #[.agg #[.int .u8 (x).c, .int .i64 (x).n, .slice (x).A (x).m (x).k], .func (.func 50) #[] #[.pointer (some ⟨P, 0, none⟩)]] w fun e w' => e = .returned (.tuple #[]) ∧ St w' (ts ++ q.tests) ∧ Kp P w w' := by
  intro q
  induction q with
  | test c n =>
    intro x w ts ht hwf hst hlen
    have ht : x = ⟨(c : Int), n, none, 0, 0⟩ := ht
    subst ht
    obtain ⟨hP, hown⟩ := V.own w ts hst
    obtain ⟨w0, hw0⟩ : ∃ w0, w0 = w.alloc (.cells #[.int .u8 ((⟨(c : Int), n, none, 0, 0⟩ : Tq)).c, .int .i64 ((⟨(c : Int), n, none, 0, 0⟩ : Tq)).n, .slice ((⟨(c : Int), n, none, 0, 0⟩ : Tq)).A ((⟨(c : Int), n, none, 0, 0⟩ : Tq)).m ((⟨(c : Int), n, none, 0, 0⟩ : Tq)).k] 62) := ⟨_, rfl⟩
    have HW0 := Lib.hid hw0.symm
    have B0 : Below w.heap.size w w0 := by rw [hw0]; exact (Below.refl _ _).alloc (Nat.le_refl _) _
    have q0 : w0.cell? ⟨w.heap.size, 0, none⟩ = some (.int .u8 (c : Int)) := by rw [hw0]; simp
    have q1 : w0.cell? ⟨w.heap.size, 1, none⟩ = some (.int .i64 n) := by rw [hw0]; simp
    have q2 : w0.cell? ⟨w.heap.size, 2, none⟩ = some (.slice none 0 0) := by rw [hw0]; simp
    have hz : w.heap.size < w0.heap.size := by rw [hw0]; simp
    have HK := Lib.hid (Kp.of_below hP B0)
    have hno : ¬ OwnB w0 P w.heap.size := by
      rintro (e | ⟨v, hv, h2⟩)
      · omega
      · have := hown w.heap.size (.inr ⟨v, (B0.cell (p := ⟨P, 0, none⟩) hP).symm.trans hv, h2⟩)
        omega
    have HNO := Lib.hid hno
    have HCL := Lib.hid (V.call w0 c n ts (by have : (Qy.test c n).tests.length = 1 := rfl; omega) (V.bel _ _ _ B0 hst))
    have HQ2 := Lib.hid q2
    clear hwf hst hlen hown hw0 B0 V hno
    go_enter Tryd.func49, Tryd.ntmps49
    go_upto_region 1 with fail
    rw [HW0.out]
    go_wp2_with fail
    refine HCL.out.mono ?_; rintro e w1 ⟨rfl, hs1, hk1⟩
    have HS1 := Lib.hid hs1
    have HK1 := Lib.hid (HK.out.trans hk1)
    have d2 := (World.cell?_of_block (w := w0) (a := ⟨w.heap.size, 2, none⟩) (hk1.block w.heap.size hz HNO.out).1).trans HQ2.out
    clear hs1 hk1 q0 q1 q2
    go_wp2
    go_loopw [16] (fun i wr => i = .int .i64 0 ∧ wr = w1) (fun _ _ => 0)
    case atStart => exact ⟨rfl, rfl⟩
    case round =>
      obtain ⟨rfl, rfl⟩ := hrel
      go_wp2
      go_end0
      exact ⟨rfl, HS1.out, HK1.out⟩
  | neg q ih =>
    intro x w ts ht hwf hst hlen
    obtain ⟨g, k, y, rfl, hd, hg, ⟨c0, c1, c2⟩, hty⟩ := ht
    obtain ⟨hP, hown⟩ := V.own w ts hst
    have e1 : flat (fun _ => q) 1 = q.tests := by simp [flat]
    have e2 : (Qy.neg q).tests = q.tests := rfl
    rw [e2] at hlen ⊢
    have := C_eachSeq 50 P St V 33 g 1 k (fun _ => y) (fun _ => q) w ts (by omega) (by omega) (hD g hd) hst (by rw [e1]; exact hlen)
      (fun j hj => by obtain rfl : j = 0 := (by omega); exact ⟨c0, c1, c2⟩)
      (fun j hj w' ts' hs' hk' hl' => ih y w' ts' (hk'.tr (fun b hb => (hown b hb).1) hD hty) hwf hs' hl')
    rw [e1] at this
    exact this
  | seq o m f ih =>
    intro x w ts ht hwf hst hlen
    obtain ⟨g, k, rfl, hd, hg, hmk, hk, hp⟩ := ht
    obtain ⟨hP, hown⟩ := V.own w ts hst
    have key : ∀ j, ∃ y : Tq, j < m → (w.cell? ⟨g, j * 3, none⟩ = some (.int .u8 y.c) ∧ w.cell? ⟨g, j * 3 + 1, none⟩ = some (.int .i64 y.n) ∧ w.cell? ⟨g, j * 3 + 2, none⟩ = some (.slice y.A y.m y.k)) ∧ TR w D (f j) y := by
      intro j
      by_cases hj : j < m
      · obtain ⟨y, hy⟩ := hp j hj
        exact ⟨y, fun _ => hy⟩
      · exact ⟨zeroQ, fun hh => absurd hh hj⟩
    obtain ⟨y, hy⟩ := Classical.axiomOfChoice key
    exact C_eachSeq 50 P St V _ g m k y f w ts hwf.1 (by omega) (hD g hd) hst hlen (fun j hj => (hy j hj).1)
      (fun j hj w' ts' hs' hk' hl' => ih j (y j) w' ts' (hk'.tr (fun b hb => (hown b hb).1) hD (hy j hj).2) (hwf.2 j hj) hs' hl')
end Go.Proofs.YtjmfkenhnfdbjaaDoor
