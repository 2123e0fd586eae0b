/- Marks on slices of texts. No condition but those stated. -/
import Derived.Test.YtmhelhjjadoiaaaGreatDoorTxtD
import Derived.Laws.BytesArg
namespace Go.Proofs.YtmhelhjjadoiaaaGreatDoor
set_option linter.unusedVariables false
set_option linter.unusedSimpArgs false
open Go.RowKit Go.Sort
/-- The digits of a number, ahead of a text. -/
def mkD (k : Nat) (o : ByteArray) : ByteArray := if h : k = 0 then o else mkD (k / 10) (strOfNums [48 + (k : Int) % 10] ++ o)
termination_by k
decreasing_by omega
theorem mkD_zero (o : ByteArray) : mkD 0 o = o := by rw [mkD]; simp
theorem mkD_pos {k : Nat} (h : 0 < k) (o : ByteArray) : mkD k o = mkD (k / 10) (strOfNums [48 + (k : Int) % 10] ++ o) := by rw [mkD, dif_neg (by omega)]
def mText (k : Nat) : ByteArray := ⟨#[109]⟩ ++ mkD k ⟨#[]⟩
theorem conv1 (w : World) (b : Int) : (convert 22 9 (.slice (some ⟨w.heap.size, 0, none⟩) 1 1)).run Tryz.prog (w.alloc (.cells #[.int .u8 b] 5)) = .ok (.string (strOfNums [b])) (w.alloc (.cells #[.int .u8 b] 5)) :=
  run_convert_bytes_arg _ 22 5 Tryz.underlying22 Tryz.underlying5 _ 0 1 1 [b] rfl (fun i hi => by obtain rfl : i = 0 := (by omega); simp) 9 Tryz.underlying9
theorem str1_size (b : Int) : (strOfNums [b]).size = 1 := rfl
end Go.Proofs.YtmhelhjjadoiaaaGreatDoor
