/-
  Package table: Bare: walked once.
-/
import Derived.Test.YtejpcgoblgaieaaTableEq
set_option linter.unusedVariables false
set_option linter.unusedSimpArgs false
namespace Go.Proofs.Ytejpcgoblgaieaa
open Go.RowKit
/-- A leaf's numbers. -/
def leafN (X : List Int) (i : Nat) : List Int := (X.drop (i * 128)).take 128
theorem leafN_length (X : List Int) (i : Nat) (hl : X.length = 512) (hi : i < 4) : (leafN X i).length = 128 := by
  simp [leafN, hl]; omega
theorem leafN_nums (X : List Int) (i : Nat) : (leafL X i).toArray = nums (leafN X i) := by
  simp [leafL, numL, nums, leafN, List.map_take, List.map_drop]
theorem zero115 : Try.zeroCells115 = nums (List.replicate 128 0) := by kernel_rfl
section
variable {w : World} {p : Nat} {X : List Int}
set_option maxRecDepth 100000 in
set_option maxHeartbeats 4000000 in
theorem tbare_at (h : TabAt w p X) (i : Nat) (hi : i < 4) :
    Calls Try.prog 37 #[.pointer (some ⟨p, 0, none⟩), .int .i64 (i : Int)] w fun e w' => e = .returned (.bool (decide (leafN X i = List.replicate 128 0))) ∧ w = w' := by
  have hd1 : decide ((i : Int) < 4) = true := by simp; omega
  have HR := Lib.hid (h.leaf i hi)
  have hl := h.len
  have HI := Lib.hid (show (Try.prog.info? 115).map (·.size) = some (leafL X i).length by rw [leafL_length X i hl hi]; exact info115)
  have heq := eql_leaf w (leafN X i) (List.replicate 128 0) (leafN_length X i hl hi) List.length_replicate
  rw [← leafN_nums, ← zero115] at heq
  have HE := Lib.hid heq
  clear h hl heq
  go_enter Try.func37, Try.ntmps37
  go_wp2_with (first | (go_at_call 66; refine (tpart_at _).mono ?_; rintro e w' ⟨rfl, rfl⟩) | (refine wpList_load_wanted rfl 115 _ rfl p _ rfl (leafL X i) _ HR.out Try.underlying115 rfl HI.out ?_) | (refine wpList_eql_wanted rfl 115 _ _ _ rfl _ _ rfl rfl guard115 _ HE.out ?_))
  go_ret
  exact ⟨rfl, rfl⟩
end
end Go.Proofs.Ytejpcgoblgaieaa
