/- How the program's SameReason compares two reasons. No condition but those stated. -/
import Derived.Test.YtmhelhjjadoiaaaDoorCmp
import Derived.Test.YtmhelhjjadoiaaaDoorMapC
namespace Go.Proofs.YtmhelhjjadoiaaaDoor
set_option linter.unusedVariables false
set_option linter.unusedSimpArgs false
open Go.RowKit Go.Sort Go.WideMaps Go.Maps
theorem lawStr : Keyed Tryd.prog 9 := string_keyed Tryd.underlying9
/-- The key of a text. -/
def kS (s : ByteArray) : Lit := .string s.data.toList
theorem key_str {s : ByteArray} (h : s.size ≤ 9223372036854775807) : keyOf Tryd.prog 9 (.string s) = some (kS s) := keyOf_string_mk Tryd.underlying9 (by unfold maxLen; exact h)
def cmpR (c : Lit → Int) (a b : ByteArray) : Int := orI (cmpI (c (kS b)) (c (kS a))) (cmpS a b)
theorem C_Same1 (a b : ByteArray) (g B n : Nat) (c : Lit → Int) (w : World) (ha : a.size ≤ 9223372036854775807) (hb : b.size ≤ 9223372036854775807) (hg : w.cell? ⟨g, 0, none⟩ = some (.map (some B))) (hc : CM 9 w B n c) :
    Calls Tryd.prog 84 #[.string a, .string b, .pointer (some ⟨g, 0, none⟩)] w fun e w' => e = .returned (.int .i64 (cmpR c a b)) ∧ ∃ o, w' = w.alloc o := by
  have HC := Lib.hid hc
  have HA := Lib.hid (key_str ha)
  have HB := Lib.hid (key_str hb)
  clear hc ha hb
  go_enter Tryd.func84, Tryd.ntmps84
  go_wp2_with (first
    | (at_lookup; refine wp_lookC _ rfl (.tmp 6) (.tmp 7) 83 9 rfl lawStr Tryd.underlying83 B n c rfl HC.out _ _ rfl HB.out ?_)
    | (at_lookup; refine wp_lookC _ rfl (.tmp 9) (.tmp 10) 83 9 rfl lawStr Tryd.underlying83 B n c rfl HC.out _ _ rfl HA.out ?_)
    | (go_at_call 77; refine (C_CompareI _ _ _).mono ?_; rintro e w' ⟨rfl, rfl⟩)
    | (go_at_call 86; refine (C_CompareS _ _ _).mono ?_; rintro e w' ⟨rfl, rfl⟩)
    | (go_at_call 85; refine (C_Or2 _ _ _ _ (cell_new _ _ _ 0 _ (by rfl)) (cell_new _ _ _ 1 _ (by rfl))).mono ?_; rintro e w' ⟨rfl, rfl⟩))
  go_ret
  exact ⟨rfl, _, rfl⟩
end Go.Proofs.YtmhelhjjadoiaaaDoor
