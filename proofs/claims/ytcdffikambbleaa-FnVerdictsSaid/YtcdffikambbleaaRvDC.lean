/- Lists of reviews that are drawn. No condition but those stated. -/
import Derived.Test.YtcdffikambbleaaRvDB
namespace Go.Proofs.Ytcdffikambbleaa
set_option linter.unusedVariables false
set_option linter.unusedSimpArgs false
open Go.RowKit Go.Sort
/-- The value v is a slice of the reviews R, in rows from base on. -/
def LR (base : Nat) (w : World) (v : Value) (n : Nat) (R : Nat → Rl) : Prop :=
  ∃ S : Nat → Value, own3 base w v n (fun i => c3 (R (i / 3)).rv (S (i / 3)) (i % 3)) ∧ ∀ j, j < n → OI base w (S j) (R j).vs
theorem LR.below {base : Nat} {w w' : World} {v : Value} {n : Nat} {R : Nat → Rl} (hb : Below w.heap.size w w') (h : LR base w v n R) : LR base w' v n R := by
  obtain ⟨S, h1, h2⟩ := h
  exact ⟨S, h1.below hb, fun j hj => (h2 j hj).below hb⟩
theorem LR.chg {base lo hi : Nat} {w w' : World} {v : Value} {n : Nat} {R : Nat → Rl} (hc : Chg lo hi w w') (hl : hi ≤ base) (h : LR base w v n R) : LR base w' v n R := by
  obtain ⟨S, h1, h2⟩ := h
  exact ⟨S, h1.of_block fun g hg => hc.block g (h1.lt g hg).2 (.inr (by have := (h1.lt g hg).1; omega)), fun j hj => (h2 j hj).chg hc hl⟩
theorem LR.rrs {base : Nat} {w : World} {v : Value} {n : Nat} {R : Nat → Rl} (h : LR base w v n R) : RRs w v n (fun j => (R j).rv) := by
  obtain ⟨S, h1, h2⟩ := h
  exact own3.rrs (R := fun j => (R j).rv) h1 fun j hj => (h2 j hj).wi.si
theorem LR.empty {base g : Nat} {w : World} (hg : w.heap.size = g) (hb : base ≤ g) (R : Nat → Rl) : LR base (w.alloc (.cells #[] 27)) (.slice (some ⟨g, 0, none⟩) 0 0) 0 R := by
  subst hg
  exact ⟨fun _ => .slice none 0 0, own3.empty hb _, fun j hj => absurd hj (by omega)⟩
theorem LR.app {base : Nat} {w w' : World} {v v' sv : Value} {n : Nat} {R : Nat → Rl} {S : Nat → Value} {x : Rl} (h1 : own3 base w v n (fun i => c3 (R (i / 3)).rv (S (i / 3)) (i % 3))) (h2 : ∀ j, j < n → OI base w (S j) (R j).vs) (hx : OI base w sv x.vs)
    (ho : own3 base w' v' (n + 1) (fun i => if i < n * 3 then c3 (R (i / 3)).rv (S (i / 3)) (i % 3) else c3 x.rv sv (i - n * 3))) (hg : w.grownBy w' v.ownBlock) : LR base w' v' (n + 1) (fun j => if j = n then x else R j) := by
  have key : ∀ s xs, OI base w s xs → OI base w' s xs := fun s xs h => h.of_block fun q hq => hg.block q (World.ownsRow.lt h q hq).2 (fun e => own_ne h1 h e.symm hq)
  refine ⟨fun j => if j = n then sv else S j, ho.congr fun i hi => ?_, fun j hj => ?_⟩
  · show _ = c3 (if i / 3 = n then x else R (i / 3)).rv (if i / 3 = n then sv else S (i / 3)) (i % 3)
    by_cases e : i < n * 3
    · rw [if_pos e, if_neg (by omega), if_neg (by omega)]
    · rw [if_neg e, show i / 3 = n by omega, if_pos rfl, if_pos rfl, show i - n * 3 = i % 3 by omega]
  · by_cases e : j = n
    · simp only [if_pos e]; exact key _ _ hx
    · simp only [if_neg e]; exact key _ _ (h2 j (by omega))
def lenV : Value → Nat
  | .slice _ n _ => n
  | _ => 0
/-- What the drawing of a list of reviews keeps. -/
structure LS (B m : Nat) (w W : World) (v : Value) (n : Nat) (R : Nat → Rl) : Prop where
  cu : Cu W B m
  ch : Chg B (B + 1) w W
  lr : LR w.heap.size W v n R
  lt : B < w.heap.size
theorem LS.step {B m m' : Nat} {w W W' : World} {v : Value} {n : Nat} {R : Nat → Rl} (h : LS B m w W v n R) (hc : Chg B (B + 1) W W') (hcu : Cu W' B m') : LS B m' w W' v n R := ⟨hcu, h.ch.trans hc, h.lr.chg hc h.lt, h.lt⟩
theorem LS.mono {B m m' : Nat} {w W : World} {v : Value} {n : Nat} {R : Nat → Rl} (h : LS B m w W v n R) (hm : m ≤ m') : LS B m' w W v n R := ⟨h.cu.mono hm, h.ch, h.lr, h.lt⟩
theorem LS.alloc {B m : Nat} {w W : World} {v : Value} {n : Nat} {R : Nat → Rl} (h : LS B m w W v n R) (o : Obj) : LS B m w (W.alloc o) v n R := h.step ((Chg.refl _ _ _).alloc o) (h.cu.alloc o)
theorem LS.grow {B m : Nat} {w W W' : World} {v v' : Value} {n n' : Nat} {R R' : Nat → Rl} (h : LS B m w W v n R) (hg : W.grownBy W' v.ownBlock) (hl : LR w.heap.size W' v' n' R') : LS B m w W' v' n' R' := by
  obtain ⟨S, h1, h2⟩ := h.lr
  have hlt := h1.lt
  have h3 := h.lt
  have hc : Chg w.heap.size (max w.heap.size W.heap.size) W W' := ⟨hg.os, hg.tape, hg.output, hg.size, fun k hk hr => hg.block k hk (fun e => by have := (hlt k e.symm).1; omega)⟩
  refine ⟨h.cu.chg hc h3, ⟨hc.os.trans h.ch.os, hc.tape.trans h.ch.tape, hc.output.trans h.ch.output, Nat.le_trans h.ch.size hc.size, fun k hk hr => ?_⟩, hl, h3⟩
  exact (hc.block k (Nat.lt_of_lt_of_le hk h.ch.size) (.inl hk)).trans (h.ch.block k hk hr)
theorem LS.form {B m : Nat} {w W : World} {v : Value} {n : Nat} {R : Nat → Rl} (h : LS B m w W v n R) : ∃ A cap, v = .slice A n cap := by
  obtain ⟨S, h1, _⟩ := h.lr
  obtain ⟨A, cap, e, _⟩ := h1.form
  exact ⟨A, cap, e⟩
set_option maxRecDepth 100000 in
set_option maxHeartbeats 4000000 in
theorem C_reviews (B m : Nat) (w : World) (hcu : Cu w B m) (hm : m ≤ 800000) :
    Calls Try.prog 96 #[.pointer (some ⟨B, 0, none⟩)] w fun e w' => ∃ (v : Value) (n : Nat) (R : Nat → Rl), e = .returned v ∧ n ≤ 11 ∧ LS B (m + 300) w w' v n R := by
  have hlt := hcu.lt
  obtain ⟨g, hg⟩ : ∃ g, g = w.heap.size := ⟨_, rfl⟩
  obtain ⟨w0, hw0⟩ : ∃ w0, w0 = w.alloc (.cells #[] 27) := ⟨_, rfl⟩
  have S0 : LS B m w w0 (.slice (some ⟨g, 0, none⟩) 0 0) 0 (fun _ => ⟨0, 0, []⟩) := by
    rw [hw0]
    exact ⟨hcu.alloc _, (Chg.refl _ _ _).alloc _, LR.empty hg.symm (by omega) _, hlt⟩
  have S0 := Lib.hid S0
  have HW0 := Lib.hid hw0.symm
  have HG := Lib.hid hg.symm
  clear hw0 hg hcu
  go_enter Try.func96, Try.ntmps96
  go_wp2_with fail
  rw [HW0.out, HG.out]
  clear HW0 HG
  refine (C_pick B m 7 w0 S0.out.cu (by omega) (by omega) (by omega)).mono ?_; rintro e w1 ⟨n0, rfl, ⟨hn0, hn1⟩, cu1, hb1⟩
  have S1 := Lib.hid (S0.out.step (Chg.of_grown hb1) cu1)
  clear cu1 hb1 S0
  go_wp2
  go_loopw [3, 4, 5] (fun o rec i wr => ∃ (k n : Nat) (R : Nat → Rl) (rc : Int), k ≤ 6 ∧ n + k ≤ 6 ∧ i = .int .i64 k ∧ rec = .int .i64 rc ∧ 0 ≤ rc ∧ rc + 3 * k ≤ 18 ∧ LS B (m + 1 + 22 * (6 - k)) w wr o n R) (fun _ _ i _ => (intOf i).toNat)
  case atStart => exact ⟨n0.toNat, 0, _, 0, by omega, by omega, by rw [Int.toNat_of_nonneg hn0], rfl, by omega, by omega, S1.out.mono (by omega)⟩
  case round =>
    clear S1 hn0 hn1
    obtain ⟨k, n, R, rc, hk, hnk, rfl, rfl, hr0, hr1, hS⟩ := hrel
    obtain ⟨A, cap, rfl⟩ := hS.form
    have HS := Lib.hid hS
    clear hS
    by_cases hlt : 0 < k
    · have hlt2 : (0 : Int) < (k : Int) := by omega
      have hk1 : Value.int .i64 ((k : Int) - 1) = .int .i64 ((k - 1 : Nat) : Int) := by rw [show ((k - 1 : Nat) : Int) = (k : Int) - 1 by omega]
      have HK1 := Lib.hid hk1
      have hM : m + 1 + 22 * (6 - k) + 1 + 1 + 20 ≤ m + 1 + 22 * (6 - (k - 1)) := by omega
      have hk5 : k - 1 ≤ 6 := by omega
      clear hk1
      go_wp2_with fail
      refine (C_pick B _ 3 _ HS.out.cu (by omega) (by omega) (by omega)).mono ?_; rintro e w2 ⟨a, rfl, ⟨ha0, ha1⟩, cu2, hb2⟩
      have S2 := Lib.hid (HS.out.step (Chg.of_grown hb2) cu2)
      clear cu2 hb2
      go_wp2_with fail
      refine (C_pick B _ 80 _ S2.out.cu (by omega) (by omega) (by omega)).mono ?_; rintro e w3 ⟨b, rfl, ⟨hb0, hb1⟩, cu3, hb3⟩
      have S3 := Lib.hid (S2.out.step (Chg.of_grown hb3) cu3)
      clear cu3 hb3 S2
      have hq0 : 0 ≤ b / 79 := by omega
      have hq1 : b / 79 ≤ 1 := by omega
      go_wp2_with fail
      refine (C_review B _ _ _ S3.out.cu (by omega)).mono ?_; rintro e w4 ⟨x, u, rfl, hou, hxl, cu4, hb4⟩
      have S4 := Lib.hid (S3.out.step (Chg.of_grown hb4) cu4)
      have HU := Lib.hid (OI.mono S3.out.ch.size hou)
      obtain ⟨UA, uc, rfl⟩ := hou.form
      clear cu4 hb4 S3 hou
      have hz4 := S4.out.ch.size
      obtain ⟨S, h1, h2⟩ := (S4.out.alloc (.cells #[.int .i64 x.rid, .int .i64 x.due, .slice UA x.vs.length uc] 27)).lr
      have HO := Lib.hid h1
      have HI := Lib.hid h2
      have HUA := Lib.hid (HU.out.alloc (.cells #[.int .i64 x.rid, .int .i64 x.due, .slice UA x.vs.length uc] 27))
      have hRD : Reads (w4.alloc (.cells #[.int .i64 x.rid, .int .i64 x.due, .slice UA x.vs.length uc] 27)) _ 3 (some ⟨w4.heap.size, 0, none⟩) 1 _ := reads3 (x := x.rv) (sv := .slice UA x.vs.length uc) (cell_new' (by simp) rfl) (cell_new' (by simp) rfl) (cell_new' (by simp) rfl) (by simp)
      have HRD := Lib.hid hRD
      have hrn : rc + 1 + a - b / 79 + 3 * ((k - 1 : Nat) : Int) ≤ 18 := by omega
      have hr00 : 0 ≤ rc + 1 + a - b / 79 := by omega
      have hnk1 : n + 1 + (k - 1) ≤ 6 := by omega
      clear h1 h2 hRD
      go_wp2_with (at_builtin; refine wp_app3 _ rfl (.tmp 22) (.tmp 26) rfl w.heap.size _ n _ rfl HO.out (some ⟨w4.heap.size, 0, none⟩) 1 1 (fun i => c3 x.rv (.slice UA x.vs.length uc) i) rfl HRD.out (fun i hi => c3_one rfl _) (by omega) (by simp; omega) ?_; intro v5 w5 ho5 hb5 hg5; have S5 := Lib.hid (LS.grow (S4.out.alloc _) hg5 (LR.app HO.out HI.out HUA.out ho5 hg5)); clear ho5 hb5 hg5)
      go_roundw
      case rel => exact ⟨k - 1, n + 1, _, _, hk5, hnk1, HK1.out, rfl, hr00, hrn, S5.out.mono hM⟩
      case measure => simp [intOf]; omega
    · obtain rfl : k = 0 := by omega
      have hz : ¬ (0 : Int) < ((0 : Nat) : Int) := by omega
      have hn6 : n ≤ 6 := by omega
      have hr18 : rc ≤ 18 := by omega
      clear hr1 hnk
      go_wp2_with fail
      refine (C_one B _ 24 _ HS.out.cu (by omega) (by omega) (by omega)).mono ?_; rintro e w7 ⟨bb, rfl, cu7, hb7⟩
      have S7 := Lib.hid (HS.out.step (Chg.of_grown hb7) cu7)
      clear cu7 hb7 HS
      cases bb
      · go_wp2_with fail
        go_ret
        exact ⟨_, n, R, rfl, by omega, S7.out.mono (by omega)⟩
      · go_wp2
        go_loopw [3, 4] (fun o rec wr => ∃ (n : Nat) (R : Nat → Rl) (rc : Int), n ≤ 11 ∧ rec = .int .i64 rc ∧ 0 ≤ rc ∧ rc ≤ 18 + n ∧ LS B (m + 200 + n) w wr o n R) (fun o _ _ => 12 - lenV o)
        case atStart => exact ⟨n, R, rc, by omega, rfl, hr0, by omega, S7.out.mono (by omega)⟩
        case round =>
          clear S7 hr0 hr18 hn6
          obtain ⟨n, R, rc, hn, rfl, hr0, hr1, hS⟩ := hrel
          obtain ⟨A, cap, rfl⟩ := hS.form
          have HS := Lib.hid hS
          clear hS
          go_wp2_with fail
          refine (C_pick B _ 2 _ HS.out.cu (by omega) (by omega) (by omega)).mono ?_; rintro e w8 ⟨a, rfl, ⟨ha0, ha1⟩, cu8, hb8⟩
          have S8 := Lib.hid (HS.out.step (Chg.of_grown hb8) cu8)
          clear cu8 hb8 HS
          by_cases hlt : (n : Int) < 10 + a
          · have hz8 := S8.out.ch.size
            have hn10 : n + 1 ≤ 11 := by omega
            have hr2 : rc + 1 ≤ 18 + ((n + 1 : Nat) : Int) := by omega
            have hr3 : 0 ≤ rc + 1 := by omega
            have hM : m + 200 + n + 1 ≤ m + 200 + (n + 1) := by omega
            obtain ⟨S, h1, h2⟩ := ((S8.out.alloc (.cells #[.int .i64 3, .int .i64 3, .int .i64 2] 3)).alloc (.cells #[.int .i64 (rc + 1), .int .i64 0, .slice (some ⟨w8.heap.size, 0, none⟩) 3 3] 27)).lr
            have HO := Lib.hid h1
            have HI := Lib.hid h2
            have HUA := Lib.hid (OI.alloc (.cells #[.int .i64 (rc + 1), .int .i64 0, .slice (some ⟨w8.heap.size, 0, none⟩) 3 3] 27) (OI.rowAt (w := w8) (g := w8.heap.size) rfl #[.int .i64 3, .int .i64 3, .int .i64 2] [3, 3, 2] w.heap.size hz8 (by rfl) (by simp)))
            have hRD : Reads ((w8.alloc (.cells #[.int .i64 3, .int .i64 3, .int .i64 2] 3)).alloc (.cells #[.int .i64 (rc + 1), .int .i64 0, .slice (some ⟨w8.heap.size, 0, none⟩) 3 3] 27)) _ 3 (some ⟨w8.heap.size + 1, 0, none⟩) 1 _ := reads3 (x := (⟨rc + 1, 0, [3, 3, 2]⟩ : Rl).rv) (sv := .slice (some ⟨w8.heap.size, 0, none⟩) 3 3) (cell_new' (by simp) rfl) (cell_new' (by simp) rfl) (cell_new' (by simp) rfl) (by simp)
            have HRD := Lib.hid hRD
            clear h1 h2 hRD
            go_wp2_with (at_builtin; refine wp_app3 _ rfl (.tmp 38) (.tmp 42) rfl w.heap.size _ n _ rfl HO.out (some ⟨w8.heap.size + 1, 0, none⟩) 1 1 (fun i => c3 (⟨rc + 1, 0, [3, 3, 2]⟩ : Rl).rv (.slice (some ⟨w8.heap.size, 0, none⟩) 3 3) i) rfl HRD.out (fun i hi => c3_one rfl _) (by omega) (by simp; omega) ?_; intro v5 w5 ho5 hb5 hg5; have S5 := Lib.hid (LS.grow ((S8.out.alloc _).alloc _) hg5 (LR.app (x := ⟨rc + 1, 0, [3, 3, 2]⟩) HO.out HI.out HUA.out ho5 hg5)); have hv5 := S5.out.form; obtain ⟨A5, c5, rfl⟩ := hv5; clear ho5 hb5 hg5)
            go_roundw
            case rel => exact ⟨n + 1, _, _, hn10, rfl, hr3, hr2, S5.out.mono hM⟩
            case measure => simp [lenV]; omega
          · go_wp2_with fail
            go_ret
            exact ⟨_, n, R, rfl, hn, S8.out.mono (by omega)⟩
end Go.Proofs.Ytcdffikambbleaa
