/-
  Four bytes, put together by 'or', are a number: plain lemmas.
-/
import Derived.Test.YtejpcgoblgaieaaBitsPlain
import Derived.Laws.Bits64b
set_option linter.unusedVariables false
namespace Go.Proofs.Ytejpcgoblgaieaa
theorem bits_or_i64_nat (a b : Nat) (ha : a < 9223372036854775808) (hb : b < 9223372036854775808) :
    bits .or .i64 (a : Int) (b : Int) = ((a ||| b : Nat) : Int) := by
  have hx : a ||| b < 2 ^ 63 := Nat.or_lt_two_pow (by omega) (by omega)
  have h1 : (BitVec.ofInt 64 (a : Int)).toNat = a := by
    rw [BitVec.ofInt_natCast, BitVec.toNat_ofNat]; exact Nat.mod_eq_of_lt (by omega)
  have h2 : (BitVec.ofInt 64 (b : Int)).toNat = b := by
    rw [BitVec.ofInt_natCast, BitVec.toNat_ofNat]; exact Nat.mod_eq_of_lt (by omega)
  show IntKind.i64.wrap ((BitVec.ofInt 64 (a : Int) ||| BitVec.ofInt 64 (b : Int)).toNat : Int) = _
  rw [BitVec.toNat_or, h1, h2]
  rw [IntKind.wrap_i64]; omega
theorem or_add (k a b : Nat) (hb : b < 2 ^ k) : a * 2 ^ k ||| b = a * 2 ^ k + b := by
  have := Nat.two_pow_add_eq_or_of_lt hb a
  rw [Nat.mul_comm a]; exact this.symm
set_option maxRecDepth 10000 in
theorem or_four (x0 x1 x2 x3 : Nat) (h0 : x0 < 256) (h1 : x1 < 256) (h2 : x2 < 256) (h3 : x3 < 256) :
    bits .or .i64 (bits .or .i64 (bits .or .i64 ((x0 : Int) * 16777216) ((x1 : Int) * 65536)) ((x2 : Int) * 256)) (x3 : Int) = (x0 : Int) * 16777216 + (x1 : Int) * 65536 + (x2 : Int) * 256 + (x3 : Int) := by
  have e0 : (x0 : Int) * 16777216 = ((x0 * 16777216 : Nat) : Int) := by omega
  have e1 : (x1 : Int) * 65536 = ((x1 * 65536 : Nat) : Int) := by omega
  have e2 : (x2 : Int) * 256 = ((x2 * 256 : Nat) : Int) := by omega
  have o1 := or_add 24 x0 (x1 * 65536) (by omega)
  have o2 := or_add 16 (x0 * 256 + x1) (x2 * 256) (by omega)
  have o3 := or_add 8 (x0 * 65536 + x1 * 256 + x2) x3 (by omega)
  simp only [Nat.reducePow] at o1 o2 o3
  rw [e0, e1, e2, bits_or_i64_nat _ _ (by omega) (by omega), o1, show x0 * 16777216 + x1 * 65536 = (x0 * 256 + x1) * 65536 by omega, bits_or_i64_nat _ _ (by omega) (by omega), o2,
    show (x0 * 256 + x1) * 65536 + x2 * 256 = (x0 * 65536 + x1 * 256 + x2) * 256 by omega, bits_or_i64_nat _ _ (by omega) (by omega), o3]
  omega
end Go.Proofs.Ytejpcgoblgaieaa
