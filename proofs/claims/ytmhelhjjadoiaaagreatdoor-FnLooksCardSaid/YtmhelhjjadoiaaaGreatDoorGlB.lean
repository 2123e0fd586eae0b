/- Lists of looks that are drawn, and a record. No condition but those stated. -/
import Derived.Test.YtmhelhjjadoiaaaGreatDoorGlA
namespace Go.Proofs.YtmhelhjjadoiaaaGreatDoor
set_option linter.unusedVariables false
set_option linter.unusedSimpArgs false
open Go.RowKit Go.Sort
/-- What the drawing of a list of looks keeps. -/
structure LL (B m : Nat) (w W : World) (v : Value) (l : List Lk) : Prop where
  cu : Cu W B m
  ch : Chg B (B + 1) w W
  ol : OL w.heap.size W v l
  lt : B < w.heap.size
  sz : ∀ x ∈ l, smK x = true
theorem LL.step {B m m' : Nat} {w W W' : World} {v : Value} {l : List Lk} (h : LL B m w W v l) (hc : Chg B (B + 1) W W') (hcu : Cu W' B m') : LL B m' w W' v l := ⟨hcu, h.ch.trans hc, h.ol.chg hc h.lt, h.lt, h.sz⟩
theorem LL.mono {B m m' : Nat} {w W : World} {v : Value} {l : List Lk} (h : LL B m w W v l) (hm : m ≤ m') : LL B m' w W v l := ⟨h.cu.mono hm, h.ch, h.ol, h.lt, h.sz⟩
theorem LL.alloc {B m : Nat} {w W : World} {v : Value} {l : List Lk} (h : LL B m w W v l) (o : Obj) : LL B m w (W.alloc o) v l := h.step ((Chg.refl _ _ _).alloc o) (h.cu.alloc o)
theorem LL.grow {B m : Nat} {w W W' : World} {v v' : Value} {l : List Lk} {y : Lk} (h : LL B m w W v l) (hg : W.grownBy W' v.ownBlock) (ho : OL w.heap.size W' v' (l ++ [y])) (hy : smK y = true) : LL B m w W' v' (l ++ [y]) := by
  have hlt := h.ol.lt
  have h3 := h.lt
  have hc : Chg w.heap.size (max w.heap.size W.heap.size) W W' := ⟨hg.os, hg.tape, hg.output, hg.size, fun k hk hr => hg.block k hk (fun e => by have := (hlt k e.symm).1; omega)⟩
  refine ⟨h.cu.chg hc h3, ⟨hc.os.trans h.ch.os, hc.tape.trans h.ch.tape, hc.output.trans h.ch.output, Nat.le_trans h.ch.size hc.size, fun k hk hr => ?_⟩, ho, h3, fun x hx => ?_⟩
  · exact (hc.block k (Nat.lt_of_lt_of_le hk h.ch.size) (.inl hk)).trans (h.ch.block k hk hr)
  · rcases List.mem_append.1 hx with hx | hx
    · exact h.sz x hx
    · rw [List.mem_singleton.1 hx]; exact hy
theorem rk_lit (w : World) (x : Lk) (T : TypeId) : RK (w.alloc (.cells #[.int .i64 x.tick, .int .i64 x.who, .int .i64 x.rid, .int .i64 x.kind, .string x.why] T)) (some ⟨w.heap.size, 0, none⟩) [x].length (atK [x]) :=
  RK.one (by simp) (lk_lit w x T)
theorem C_record17 (B m : Nat) (w : World) (hcu : Cu w B m) (hm : m ≤ 900000) :
    Calls Tryz.prog 79 #[.pointer (some ⟨B, 0, none⟩)] w fun e w' => ∃ x : Int, e = .returned (.int .i64 x) ∧ sm7 x = true ∧ Cu w' B (m + 2) ∧ w.grownBy w' (some B) := by
  have hlt := hcu.lt
  obtain ⟨g, hg⟩ : ∃ g, g = w.heap.size := ⟨_, rfl⟩
  obtain ⟨w1, hw1⟩ : ∃ w1, w1 = w.alloc (.cells #[.int .i64 1, .int .i64 1, .int .i64 2, .int .i64 999, .int .i64 50, .int .i64 0, .int .i64 1000] 3) := ⟨_, rfl⟩
  have rg : w1.rowIs g 3 7 (fun j => (#[.int .i64 1, .int .i64 1, .int .i64 2, .int .i64 999, .int .i64 50, .int .i64 0, .int .i64 1000] : Array Value).getD j undef) := by rw [hw1, hg]; exact row_lit w _ _
  have cu1 : Cu w1 B m := by rw [hw1]; exact hcu.alloc _
  have ch1 : Chg B (B + 1) w w1 := by rw [hw1]; exact (Chg.refl _ _ _).alloc _
  have hgB : g ≠ B := by omega
  have HW := Lib.hid hw1.symm
  have HG := Lib.hid hg.symm
  clear hw1 hg hcu
  go_enter Tryz.func79, Tryz.ntmps79
  go_wp2_with fail
  rw [HW.out, HG.out]
  refine (C_pick B m 24 w1 cu1 (by omega) (by omega) (by omega)).mono ?_; rintro e w2 ⟨a, rfl, ⟨ha0, ha1⟩, cu2, hb2⟩
  have R2 := Lib.hid (rg.of_block (hb2.block g rg.lt (by intro e; injection e with e; exact hgB e)))
  have ch2 := Lib.hid (ch1.trans (Chg.of_grown hb2))
  clear hb2 rg cu1 ch1
  obtain ⟨q, hq⟩ : ∃ q : Nat, (q : Int) = a / 11 := ⟨(a / 11).toNat, by omega⟩
  have hq2 : q ≤ 2 := by omega
  have hd1 : (0 : Int) ≤ 5 + a / 11 := by omega
  have hd2 : 5 + a / 11 ≤ 7 := by omega
  have hd3 : (5 + a / 11).toNat = 5 + q := by omega
  go_wp2_with fail
  refine (C_amongR B (m + 1) #[.int .i64 1, .int .i64 1, .int .i64 2, .int .i64 999, .int .i64 50, .int .i64 0, .int .i64 1000] (5 + q) _ g w2 3 R2.out hgB cu2 (by omega) (by omega) (by simp; omega) (by omega) sm7 (by decide)).mono ?_; rintro e w3 ⟨x, rfl, hx, cu3, hb3⟩
  have HX := Lib.hid hx
  have ch3 := Lib.hid (ch2.out.trans (Chg.of_grown hb3))
  clear hx hd1 hd2 hd3 hq cu2 R2
  go_wp2_with fail
  go_ret
  exact ⟨x, rfl, HX.out, cu3, ch3.out.grown⟩
def lenK : Value → Nat
  | .slice _ n _ => n
  | _ => 0
set_option maxRecDepth 100000 in
set_option maxHeartbeats 8000000 in
theorem C_looks (B m : Nat) (w : World) (hcu : Cu w B m) (hm : m ≤ 700000) :
    Calls Tryz.prog 48 #[.pointer (some ⟨B, 0, none⟩)] w fun e w' => ∃ (v : Value) (l : List Lk), e = .returned v ∧ l.length ≤ 16 ∧ LL B (m + 200) w w' v l := by
  have hlt := hcu.lt
  obtain ⟨w0, hw0⟩ : ∃ w0, w0 = w.alloc (.cells #[] 37) := ⟨_, rfl⟩
  have L0 : LL B m w w0 (.slice (some ⟨w.heap.size, 0, none⟩) 0 0) [] := by
    rw [hw0]
    exact ⟨hcu.alloc _, (Chg.refl _ _ _).alloc _, OL.emptyAt rfl (Nat.le_refl _), hlt, fun x hx => by cases hx⟩
  have L0 := Lib.hid L0
  have HZ := Lib.hid (show w0.heap.size = w.heap.size + 1 by rw [hw0]; simp)
  have HW := Lib.hid hw0.symm
  clear hw0 hcu
  go_enter Tryz.func48, Tryz.ntmps48
  go_wp2_with fail
  rw [HW.out]
  refine (C_amongLc B m _ 3 3 _ w0 _ HZ.out L0.out.cu (by omega) (by omega) (by decide) (by omega) (fun x => decide (0 ≤ x) && decide (x ≤ 1000000)) (by decide)).mono ?_; rintro e w1 ⟨t, rfl, ht, cu1, hb1⟩
  have L1 := Lib.hid (L0.out.step (Chg.of_grown hb1) cu1)
  rw [Bool.and_eq_true, decide_eq_true_eq, decide_eq_true_eq] at ht
  obtain ⟨ht0, ht1⟩ := ht
  clear cu1 hb1 L0 HZ HW
  go_wp2_with fail
  refine (C_pick B _ 11 w1 L1.out.cu (by omega) (by omega) (by omega)).mono ?_; rintro e w2 ⟨n0, rfl, ⟨hn0, hn1⟩, cu2, hb2⟩
  have L2 := Lib.hid (L1.out.step (Chg.of_grown hb2) cu2)
  clear cu2 hb2 L1
  go_wp2
  go_loopw [3, 4, 5] (fun o tk i wr => ∃ (k : Nat) (l : List Lk) (t : Int), k ≤ 10 ∧ l.length + k ≤ 10 ∧ i = .int .i64 k ∧ tk = .int .i64 t ∧ -1100 + 110 * k ≤ t ∧ t + 110 * k ≤ 1001100 ∧ LL B (m + 2 + 10 * (10 - k)) w wr o l) (fun _ _ i _ => (intOf i).toNat)
  case atStart => exact ⟨n0.toNat, [], t, by omega, by simp; omega, by rw [Int.toNat_of_nonneg hn0], rfl, by omega, by omega, L2.out.mono (by omega)⟩
  case round =>
    clear L2 hn0 hn1 ht0 ht1
    obtain ⟨k, l, t, hk, hlk, rfl, rfl, ht0, ht1, hL⟩ := hrel
    obtain ⟨A, cap, rfl⟩ := hL.ol.form
    obtain ⟨n, hn⟩ : ∃ n, l.length = n := ⟨_, rfl⟩
    rw [hn] at hL hlk ⊢
    have HN := Lib.hid hn
    have HL := Lib.hid hL
    clear hL hn
    by_cases hlt : 0 < k
    · have hlt2 : (0 : Int) < (k : Int) := by omega
      have hk1 : Value.int .i64 ((k : Int) - 1) = .int .i64 ((k - 1 : Nat) : Int) := by rw [show ((k - 1 : Nat) : Int) = (k : Int) - 1 by omega]
      have HK1 := Lib.hid hk1
      clear hk1
      go_wp2_with fail
      refine (C_look B _ t _ HL.out.cu (by omega) (by omega) (by omega)).mono ?_; rintro e w3 ⟨x, rfl, hx, cu3, hb3⟩
      have L3 := Lib.hid (HL.out.step (Chg.of_grown hb3) cu3)
      have HX := Lib.hid hx
      clear cu3 hb3 HL hx
      have HO := Lib.hid (L3.out.alloc (.cells #[.int .i64 x.tick, .int .i64 x.who, .int .i64 x.rid, .int .i64 x.kind, .string x.why] 37))
      have HRK := Lib.hid (rk_lit w3 x 37)
      have hz3 := L3.out.ch.size
      have hpl : l.length + 1 ≤ 1099511627776 := by rw [HN.out]; omega
      go_wp2_with (at_builtin; refine wp_appL _ rfl (.tmp 17) (.tmp 21) rfl w.heap.size _ l rfl HO.out.ol (some ⟨w3.heap.size, 0, none⟩) 1 1 [x] rfl rfl HRK.out hpl (by simp; omega) ?_; intro v4 w4 ho4 hg4 _; have L4 := Lib.hid (LL.grow HO.out hg4 ho4 HX.out); obtain ⟨A4, c4, rfl⟩ := OL.formN HN.out ho4; clear ho4 hg4)
      refine (C_amongLc B _ _ 4 4 _ w4 _ (by rfl) L4.out.cu (by omega) (by omega) (by decide) (by omega) (fun x => decide (0 ≤ x) && decide (x ≤ 100)) (by decide)).mono ?_; rintro e w5 ⟨d, rfl, hd, cu5, hb5⟩
      have L5 := Lib.hid (L4.out.step (Chg.of_grown hb5) cu5)
      rw [Bool.and_eq_true, decide_eq_true_eq, decide_eq_true_eq] at hd
      obtain ⟨hd0, hd1⟩ := hd
      clear cu5 hb5 L4 HO L3 HRK
      go_wp2_with fail
      refine (C_pick B _ 120 w5 L5.out.cu (by omega) (by omega) (by omega)).mono ?_; rintro e w6 ⟨r, rfl, ⟨hr0, hr1⟩, cu6, hb6⟩
      have L6 := Lib.hid (L5.out.step (Chg.of_grown hb6) cu6)
      have hq0 : 0 ≤ r / 119 := by omega
      have hq1 : r / 119 ≤ 1 := by omega
      clear cu6 hb6 L5
      go_wp2_with fail
      go_roundw
      case rel => exact ⟨k - 1, l ++ [x], _, by omega, by simp; rw [HN.out]; omega, HK1.out, rfl, by omega, by omega, L6.out.mono (by omega)⟩
      case measure => simp [intOf]; omega
    · obtain rfl : k = 0 := by omega
      have hz : ¬ (0 : Int) < ((0 : Nat) : Int) := by omega
      clear ht0 ht1
      go_wp2_with fail
      refine (C_one B _ 24 _ HL.out.cu (by omega) (by omega) (by omega)).mono ?_; rintro e w7 ⟨b, rfl, cu7, hb7⟩
      have L7 := Lib.hid (HL.out.step (Chg.of_grown hb7) cu7)
      clear cu7 hb7 HL
      cases b
      · go_wp2_with fail
        go_ret
        exact ⟨_, l, rfl, by rw [HN.out]; omega, L7.out.mono (by omega)⟩
      · have L8 : LL B (m + 103) w (w7.alloc (.cells #[] 37)) (.slice (some ⟨w7.heap.size, 0, none⟩) 0 0) [] := by
          have h2 := L7.out.alloc (.cells #[] 37)
          exact ⟨h2.cu.mono (by omega), h2.ch, OL.emptyAt rfl L7.out.ch.size, h2.lt, fun x hx => by cases hx⟩
        have L8 := Lib.hid L8
        clear L7 HN hlk
        go_wp2
        go_loopw [3, 6] (fun o i wr => ∃ l : List Lk, l.length ≤ 16 ∧ i = .int .i64 (l.length : Nat) ∧ LL B (m + 103 + l.length) w wr o l) (fun _ i _ => 17 - (intOf i).toNat)
        case atStart => exact ⟨[], by simp, rfl, L8.out⟩
        case round =>
          clear L8
          obtain ⟨l, hl, rfl, hL⟩ := hrel
          obtain ⟨A, cap, rfl⟩ := hL.ol.form
          obtain ⟨n, hn⟩ : ∃ n, l.length = n := ⟨_, rfl⟩
          rw [hn] at hL hl ⊢
          have HN := Lib.hid hn
          have HL := Lib.hid hL
          clear hL hn
          go_wp2_with fail
          refine (C_pick B _ 2 _ HL.out.cu (by omega) (by omega) (by omega)).mono ?_; rintro e w8 ⟨a, rfl, ⟨ha0, ha1⟩, cu8, hb8⟩
          have L8 := Lib.hid (HL.out.step (Chg.of_grown hb8) cu8)
          clear cu8 hb8 HL
          by_cases hlt : (n : Int) < 15 + a
          · have hz8 := L8.out.ch.size
            have hpl : l.length + 1 ≤ 1099511627776 := by rw [HN.out]; omega
            obtain ⟨x, hx⟩ : ∃ x : Lk, x = ⟨3 * (n : Int), 1, 1 + (n : Int) % 4, (n : Int) % 3, ⟨#[97, 117, 100, 105, 116]⟩⟩ := ⟨_, rfl⟩
            have HO := Lib.hid (L8.out.alloc (.cells #[.int .i64 (3 * (n : Int)), .int .i64 1, .int .i64 (1 + (n : Int) % 4), .int .i64 ((n : Int) % 3), .string ⟨#[97, 117, 100, 105, 116]⟩] 37))
            have HRK := Lib.hid (rk_lit w8 ⟨3 * (n : Int), 1, 1 + (n : Int) % 4, (n : Int) % 3, ⟨#[97, 117, 100, 105, 116]⟩⟩ 37)
            have HS := Lib.hid (show smK ⟨3 * (n : Int), 1, 1 + (n : Int) % 4, (n : Int) % 3, ⟨#[97, 117, 100, 105, 116]⟩⟩ = true from smK_mk (by show -3000000 ≤ 3 * (n : Int); omega) (by show 3 * (n : Int) ≤ 3000000; omega) (by rfl))
            clear hx
            go_wp2_with (at_builtin; refine wp_appL _ rfl (.tmp 43) (.tmp 52) rfl w.heap.size _ l rfl HO.out.ol (some ⟨w8.heap.size, 0, none⟩) 1 1 [_] rfl rfl HRK.out hpl (by simp; omega) ?_; intro v4 w4 ho4 hg4 _; have L4 := Lib.hid (LL.grow HO.out hg4 ho4 HS.out); obtain ⟨A4, c4, rfl⟩ := OL.formN HN.out ho4; clear ho4 hg4)
            go_roundw
            case rel => exact ⟨l ++ [⟨3 * (n : Int), 1, 1 + (n : Int) % 4, (n : Int) % 3, ⟨#[97, 117, 100, 105, 116]⟩⟩], by simp; rw [HN.out]; omega, by rw [List.length_append, HN.out]; go_num, L4.out.mono (by simp; rw [HN.out]; omega)⟩
            case measure => simp [intOf]; omega
          · go_wp2_with fail
            go_ret
            exact ⟨_, l, rfl, by rw [HN.out]; exact hl, L8.out.mono (by omega)⟩
end Go.Proofs.YtmhelhjjadoiaaaGreatDoor
