import Derived.Test.YtkeleoneecofhaaDoorEngZ
import Derived.Test.YtkeleoneecofhaaDoorShelf
set_option linter.all false
namespace Go.Proofs.YtkeleoneecofhaaDoor.Gr
open Eng
set_option maxRecDepth 10000
theorem repeat_ok (s : List UInt8) (c : Nat) (hc : s.length * c ≤ 140737488355328) (hc2 : c ≤ 9223372036854775807) : SpecR Tryd.prog 21 [.str s, .int .i64 c] (.str (Lib.repeatL s c)) :=
  spec_below rfl rfl (fun w => Tryd.strings_Repeat ⟨s.toArray⟩ c w hc2 (by simpa [ByteArray.size] using hc))
theorem trimRight_ok (s : List UInt8) (c : UInt8) (hc : c.toNat < 128) (hs : s.length ≤ 9223372036854775807) : SpecR Tryd.prog 22 [.str s, .str [c]] (.str (Lib.trimRightB s c)) :=
  spec_same rfl rfl (fun w => Tryd.strings_TrimRight_one ⟨s.toArray⟩ c hc w (by simpa [ByteArray.size] using hs))
/- small whole numbers as floats -/
def f2iOK (n : Nat) : Bool := floatToIntVal .f64 (FloatKind.f64.nearest (n : Int)) .i64 == some (n : Int)
theorem f2i_all : (List.range 256).all f2iOK = true := by kernel_rfl
theorem f2i {k : Int} (h : 0 ≤ k ∧ k ≤ 255) : floatToIntVal .f64 (FloatKind.f64.nearest k) .i64 = some k := by
  obtain ⟨n, rfl⟩ := Int.eq_ofNat_of_zero_le h.1
  have := List.all_eq_true.1 f2i_all n (List.mem_range.2 (by omega))
  simpa [f2iOK] using this
end Go.Proofs.YtkeleoneecofhaaDoor.Gr
