/- A dictionary that is drawn. No condition but those stated. -/
import Derived.Test.YtnhkejbgcjebmaaDoorClDA
namespace Go.Proofs.YtnhkejbgcjebmaaDoor
set_option linter.unusedVariables false
set_option linter.unusedSimpArgs false
open Go.RowKit Go.Sort
def words11 : Array Value := #[.string ⟨#[97, 100, 97, 109]⟩, .string ⟨#[97, 110, 110, 97]⟩, .string ⟨#[97, 110, 110, 101]⟩, .string ⟨#[98, 101, 108, 97]⟩, .string ⟨#[98, 111]⟩, .string ⟨#[99, 97, 114, 108]⟩, .string ⟨#[99, 111, 114, 97]⟩, .string ⟨#[100, 97, 110]⟩, .string ⟨#[101, 118, 101]⟩, .string ⟨#[101, 118, 101, 108, 121, 110]⟩, .string ⟨#[122, 111, 101]⟩]
theorem words11_ok : words11.toList.all (fun v => isT v && sh20 (unT v)) = true := by decide
theorem words11_size : words11.size = 11 := rfl
theorem OT.form1 {base : Nat} {w : World} {v : Value} {xs : List ByteArray} {y : ByteArray} (h : OT base w v (xs ++ [y])) : ∃ A cap, v = .slice A (xs.length + 1) cap := by
  obtain ⟨A, cap, e⟩ := h.form
  exact ⟨A, cap, by rw [e]; simp⟩
theorem OT.form1N {base n : Nat} {w : World} {v : Value} {xs : List ByteArray} {y : ByteArray} (hn : xs.length = n) (h : OT base w v (xs ++ [y])) : ∃ A cap, v = .slice A (n + 1) cap := by
  subst hn; exact h.form1
theorem cell_new' {w : World} {cs : Array Value} {t : TypeId} {i B : Nat} {v : Value} (hB : B = w.heap.size) (h : cs[i]? = some v) : (w.alloc (.cells cs t)).cell? ⟨B, i, none⟩ = some v := by
  subst hB; exact cell_new w cs t i v h
def lenT : Value → Nat
  | .slice _ n _ => n
  | _ => 0
theorem OT.emptyAt {base g : Nat} {w : World} (hg : w.heap.size = g) (hb : base ≤ w.heap.size) : OT base (w.alloc (.cells #[] 9)) (.slice (some ⟨g, 0, none⟩) 0 0) [] := by
  subst hg; exact OT.empty hb
set_option maxRecDepth 100000 in
set_option maxHeartbeats 4000000 in
theorem C_dictionary (B m : Nat) (w : World) (hcu : Cu w B m) (hm : m ≤ 800000) :
    Calls Tryd.prog 74 #[.pointer (some ⟨B, 0, none⟩)] w fun e w' => ∃ (v : Value) (xs : List ByteArray), e = .returned v ∧ xs.length ≤ 13 ∧ LT B (m + 100) w w' v xs := by
  have hlt := hcu.lt
  obtain ⟨g, hg⟩ : ∃ g, g = w.heap.size + 1 := ⟨_, rfl⟩
  obtain ⟨w0, hw0⟩ : ∃ w0, w0 = (w.alloc (.cells #[] 9)).alloc (.cells #[.string ⟨#[97, 100, 97, 109]⟩, .string ⟨#[97, 110, 110, 97]⟩, .string ⟨#[97, 110, 110, 101]⟩, .string ⟨#[98, 101, 108, 97]⟩, .string ⟨#[98, 111]⟩, .string ⟨#[99, 97, 114, 108]⟩, .string ⟨#[99, 111, 114, 97]⟩, .string ⟨#[100, 97, 110]⟩, .string ⟨#[101, 118, 101]⟩, .string ⟨#[101, 118, 101, 108, 121, 110]⟩, .string ⟨#[122, 111, 101]⟩] 9) := ⟨_, rfl⟩
  have L0 : LT B m w w0 (.slice (some ⟨w.heap.size, 0, none⟩) 0 0) [] := by
    rw [hw0]
    exact ⟨(hcu.alloc _).alloc _, ((Chg.refl _ _ _).alloc _).alloc _, (OT.empty (Nat.le_refl _)).alloc _, hlt, fun x hx => by cases hx⟩
  have R0 : RowW words11 B w0 (.slice (some ⟨w.heap.size, 0, none⟩) 0 0) g := by
    rw [hw0, hg]
    have := row_lit (w.alloc (.cells #[] 9)) words11 9
    rw [World.size_alloc] at this
    exact ⟨this, fun q hq => by (have : w.heap.size = q := (by simpa [Value.ownBlock] using hq)); omega, by omega⟩
  have L0 := Lib.hid L0
  have R0 := Lib.hid R0
  have HW := Lib.hid hw0.symm
  have HG := Lib.hid hg.symm
  clear hw0 hg hcu
  go_enter Tryd.func74, Tryd.ntmps74
  go_wp2_with fail
  rw [HW.out, HG.out]
  go_loopw [3, 9] (fun o i wr => ∃ (k : Nat) (xs : List ByteArray), k ≤ 11 ∧ i = .int .i64 k ∧ xs.length ≤ k ∧ LT B (m + k) w wr o xs ∧ RowW words11 B wr o g) (fun _ i _ => 11 - (intOf i).toNat)
  case atStart => exact ⟨0, [], by omega, rfl, by simp, L0.out, R0.out⟩
  case round =>
    clear L0 R0 HW HG
    obtain ⟨k, xs, hk, rfl, hxs, hL, hR⟩ := hrel
    obtain ⟨A, cap, rfl⟩ := hL.ot.form
    have HL := Lib.hid hL
    have HR := Lib.hid hR
    clear hL hR
    by_cases hlt : k < 11
    · obtain ⟨y, hy, hy20⟩ := HR.out.word words11_ok (show k < words11.size by rw [words11_size]; omega)
      have HY := Lib.hid hy20
      have hk0 : (0 : Int) ≤ (k : Int) := by omega
      have hk1 : (k : Int) < 11 := by omega
      clear hy20
      go_wp2_with fail
      refine (C_one B _ 2 _ HL.out.cu (by omega) (by omega) (by omega)).mono ?_; rintro e w1 ⟨b, rfl, cu1, hb1⟩
      have L1 := Lib.hid (HL.out.step (Chg.of_grown hb1) cu1)
      have R1 := Lib.hid (HR.out.step (Chg.of_grown hb1))
      clear cu1 hb1 hy HL HR
      cases b
      · go_wp2_with fail
        go_roundw
        case rel => exact ⟨k + 1, xs, by omega, by go_num, by omega, L1.out, R1.out⟩
        case measure => simp [intOf]; omega
      · have HO := Lib.hid ((L1.out.alloc (.cells #[.string y] 9)).ot)
        have hz1 := L1.out.ch.size
        have hpl : xs.length ≤ 1099511627776 := by omega
        go_wp2_with (at_builtin; refine wp_appT2 _ rfl (.tmp 15) (.tmp 17) rfl w.heap.size _ xs rfl HO.out w1.heap.size y rfl (by simp) hpl (by simp; omega) ?_; intro v3 w3 ho3 hg3 hv3; have L3 := Lib.hid (LT.grow (L1.out.alloc _) hg3 ho3 HY.out); have R3 := Lib.hid (RowW.grow (R1.out.alloc _) hg3 hv3); obtain ⟨A3, c3, rfl⟩ := OT.form1 ho3; clear ho3 hg3 hv3)
        go_roundw
        case rel => exact ⟨k + 1, xs ++ [y], by omega, by go_num, by simp; omega, L3.out, R3.out⟩
        case measure => simp [intOf]; omega
    · obtain rfl : k = 11 := by omega
      clear HR
      go_wp2_with fail
      refine (C_pick B _ 32 _ HL.out.cu (by omega) (by omega) (by omega)).mono ?_; rintro e w1 ⟨r, rfl, ⟨hr0, hr1⟩, cu1, hb1⟩
      have L1 := Lib.hid (HL.out.step (Chg.of_grown hb1) cu1)
      clear cu1 hb1 HL
      by_cases h0 : r = 0
      · subst h0
        go_wp2_with fail
        refine (C_ofL B (m + 11 + 1) _ 4 4 _ w1 _ (by rfl) L1.out.cu (by omega) (by omega) (by decide) (by omega) sh20 (by decide)).mono ?_; rintro e w2 ⟨y, rfl, hy, cu2, hb2⟩
        have L2 := Lib.hid (L1.out.step (Chg.of_grown hb2) cu2)
        have HY := Lib.hid hy
        clear cu2 hb2 hy
        have HO := Lib.hid ((L2.out.alloc (.cells #[.string y] 9)).ot)
        have hz1 := L2.out.ch.size
        have hpl : xs.length ≤ 1099511627776 := by omega
        go_wp2_with (at_builtin; refine wp_appT2 _ rfl (.tmp 24) (.tmp 28) rfl w.heap.size _ xs rfl HO.out w2.heap.size y rfl (by simp) hpl (by simp; omega) ?_; intro v3 w3 ho3 hg3 hv3; have L3 := Lib.hid (LT.grow (L2.out.alloc _) hg3 ho3 HY.out); obtain ⟨A3, c3, rfl⟩ := OT.form1 ho3; clear ho3 hg3 hv3)
        go_ret
        exact ⟨_, xs ++ [y], rfl, by simp; omega, L3.out.mono (by omega)⟩
      · have h0b : (r == 0) = false := by simpa using h0
        by_cases h1 : r = 1
        · subst h1
          have hz1 := L1.out.ch.size
          have L2 : LT B (m + 11 + 1) w (w1.alloc (.cells #[] 9)) (.slice (some ⟨w1.heap.size, 0, none⟩) 0 0) [] := by
            have h2 := L1.out.alloc (.cells #[] 9)
            exact ⟨h2.cu, h2.ch, OT.empty hz1, h2.lt, fun x hx => by cases hx⟩
          have L2 := Lib.hid L2
          clear h0
          go_wp2
          go_loopw [3] (fun o wr => ∃ xs : List ByteArray, xs.length ≤ 13 ∧ LT B (m + 12 + xs.length) w wr o xs) (fun o _ => 14 - lenT o)
          case atStart => exact ⟨[], by simp, L2.out⟩
          case round =>
            clear L1 L2 hxs
            obtain ⟨xs, hxs, hL⟩ := hrel
            obtain ⟨A, cap, rfl⟩ := hL.ot.form
            obtain ⟨n, hn⟩ : ∃ n, xs.length = n := ⟨_, rfl⟩
            rw [hn] at hL hxs ⊢
            have HN := Lib.hid hn
            have HL := Lib.hid hL
            clear hL hn
            go_wp2_with fail
            refine (C_pick B _ 2 _ HL.out.cu (by omega) (by omega) (by omega)).mono ?_; rintro e w2 ⟨r, rfl, ⟨hr0, hr1⟩, cu2, hb2⟩
            have L2 := Lib.hid (HL.out.step (Chg.of_grown hb2) cu2)
            clear cu2 hb2 HL
            by_cases hlt : (n : Int) < 12 + r
            · have hn12 : n ≤ 12 := by omega
              have hz2 := L2.out.ch.size
              have hcv := fun c => conv2 w2 97 c
              have hpl : xs.length ≤ 1099511627776 := by rw [HN.out]; omega
              have HLA := Lib.hid (fun c => ((L2.out.alloc (.cells #[.int .u8 97, .int .u8 c] 5)).alloc (.cells #[.string (strOfNums [97, c])] 9)))
              have HCE := Lib.hid (fun c => cell_new' (w := w2.alloc (.cells #[.int .u8 97, .int .u8 c] 5)) (cs := #[.string (strOfNums [97, c])]) (t := 9) (i := 0) (B := w2.heap.size + 1) (v := .string (strOfNums [97, c])) (by simp) rfl)
              go_wp2_with (at_builtin; refine wp_appT2 _ rfl (.tmp 39) (.tmp 46) rfl w.heap.size _ xs rfl (HLA.out _).ot (w2.heap.size + 1) (strOfNums [97, 97 + (n : Int)]) rfl (HCE.out _) hpl (by simp; omega) ?_; intro v3 w3 ho3 hg3 hv3; have L3 := Lib.hid (LT.grow (HLA.out _) hg3 ho3 (by rfl)); obtain ⟨A3, c3, rfl⟩ := OT.form1N HN.out ho3; clear ho3 hg3 hv3)
              go_roundw
              case rel => exact ⟨xs ++ [strOfNums [97, 97 + (n : Int)]], by simp; rw [HN.out]; omega, L3.out.mono (by simp; rw [HN.out]; omega)⟩
              case measure => simp [lenT]; omega
            · go_wp2_with fail
              go_ret
              exact ⟨_, xs, rfl, by rw [HN.out]; exact hxs, L2.out.mono (by omega)⟩
        · have h1b : (r == 1) = false := by simpa using h1
          go_wp2
          go_ret
          exact ⟨_, xs, rfl, by omega, L1.out.mono (by omega)⟩
end Go.Proofs.YtnhkejbgcjebmaaDoor
