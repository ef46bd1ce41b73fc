/-
  bytes.Equal, by the shelf's contract, laid at this translation.
-/
import Derived.Shelf.Bytes.SlSearch0
import Derived.Shelf.Bytes.SlEqualAll
import Derived.Shelf.Bytes.Small
import Derived.Test.YtejpcgoblgaieaaProg
set_option linter.unusedVariables false
set_option linter.unusedSimpArgs false
namespace Go.Proofs.Ytejpcgoblgaieaa
open Go.Shelf Go.RowKit Go.Lib
def laysnb115_ren : Go.Shelf.Ren := ⟨fun | 115 => 65 | n => n, fun | 37 => 48 | 4 => 4 | 9 => 9 | 5 => 5 | n => n, fun | n => n⟩
theorem laysnb115 : Go.Proofs.Lays.nb115 Try.prog laysnb115_ren := {
  mixed := by kernel_rfl
  f115 := Try.func65.trans (congrArg some (by kernel_rfl))
  t4 := Try.underlying4
  a4 := Try.isAgg4
  z4 := Try.sizeOf4
  v4 := Try.zeroValue4
  t9 := Try.underlying9
  a9 := Try.isAgg9
  z9 := Try.sizeOf9
  v9 := Try.zeroValue9
  t37 := Try.underlying48
  a37 := Try.isAgg48
  z37 := Try.sizeOf48
  v37 := Try.zeroValue48
  t5 := Try.underlying5
  a5 := Try.isAgg5
  z5 := Try.sizeOf5
  v5 := Try.zeroValue5 }
theorem bytes_Equal_all (p1 p2 : Option Addr) (n c m d : Nat) (xs ys : List Int) (w : World) (hx : xs.length = n) (hy : ys.length = m) (h1 : Lib.BytesIn w p1 n xs) (h2 : Lib.BytesIn w p2 m ys) :
    Calls Try.prog 65 #[.slice p1 n c, .slice p2 m d] w fun e w' => e = .returned (.bool (Lib.bytesOf xs == Lib.bytesOf ys)) ∧ w' = w := Any.bytes_Equal_all laysnb115 p1 p2 n c m d xs ys w hx hy h1 h2
end Go.Proofs.Ytejpcgoblgaieaa
