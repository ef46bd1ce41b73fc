/-
  Package table: Leaf and Bare where there is no such leaf; when a leaf's bytes are all 0.
-/
import Derived.Test.YtejpcgoblgaieaaTable8
set_option linter.unusedVariables false
set_option linter.unusedSimpArgs false
namespace Go.Proofs.Ytejpcgoblgaieaa
open Go.RowKit
theorem leafB_getD (X : List Int) (i : Nat) (j r : Nat) (hr : r < 4) : ∀ k, j < k → (leafB X i k).getD (4 * j + r) 0 = (four (X.getD (i * 128 + j) 0).toNat).getD r 0
  | 0, h => by omega
  | k + 1, h => by
    rw [leafB_succ, List.getD_eq_getElem?_getD, List.getElem?_append, leafB_length]
    by_cases hlt : j < k
    · rw [if_pos (by omega), ← List.getD_eq_getElem?_getD, leafB_getD X i j r hr k hlt]
    · obtain rfl : j = k := by omega
      rw [if_neg (by omega), show 4 * j + r - 4 * j = r by omega, ← List.getD_eq_getElem?_getD]
theorem val4_leafB {X : List Int} (hX : Told X) (i j k : Nat) (hj : j < k) : val4 (leafB X i k) (4 * j) = X.getD (i * 128 + j) 0 := by
  have h0 := leafB_getD X i j 0 (by omega) k hj
  have h1 := leafB_getD X i j 1 (by omega) k hj
  have h2 := leafB_getD X i j 2 (by omega) k hj
  have h3 := leafB_getD X i j 3 (by omega) k hj
  have hto := hX.at (i * 128 + j)
  obtain ⟨n, hn⟩ : ∃ n : Nat, X.getD (i * 128 + j) 0 = n := ⟨(X.getD (i * 128 + j) 0).toNat, by omega⟩
  rw [hn] at h0 h1 h2 h3 hto ⊢
  unfold val4
  rw [show 4 * j = 4 * j + 0 by omega, h0, show 4 * j + 0 + 1 = 4 * j + 1 by omega, h1, show 4 * j + 0 + 2 = 4 * j + 2 by omega, h2, show 4 * j + 0 + 3 = 4 * j + 3 by omega, h3]
  simp only [four, Int.toNat_natCast, List.getD_cons_zero, List.getD_cons_succ]
  omega
theorem leafN_getD (X : List Int) (i j : Nat) (hj : j < 128) : (leafN X i).getD j 0 = X.getD (i * 128 + j) 0 := by
  rw [List.getD_eq_getElem?_getD, List.getD_eq_getElem?_getD, leafN, List.getElem?_take, if_pos hj, List.getElem?_drop]
theorem val4_zeros (n k : Nat) : val4 (List.replicate n 0) k = 0 := by simp only [val4, zeros_getD]; rfl
theorem leafB_bytes {X : List Int} (hX : Told X) (i k : Nat) : Bytes (leafB X i k) := by
  intro x hx
  simp only [leafB, List.mem_flatMap, List.mem_range] at hx
  obtain ⟨j, _, hj⟩ := hx
  have := hX.at (i * 128 + j)
  obtain ⟨n, hn⟩ : ∃ n : Nat, X.getD (i * 128 + j) 0 = n := ⟨(X.getD (i * 128 + j) 0).toNat, by omega⟩
  rw [hn] at hj this
  simp only [four, Int.toNat_natCast, List.mem_cons, List.not_mem_nil, or_false] at hj
  rcases hj with rfl | rfl | rfl | rfl <;> omega
theorem leafB_inj {X Y : List Int} (hX : Told X) (hY : Told Y) (hl : X.length = 512) (hm : Y.length = 512) (i i' : Nat) (hi : i < 4) (hi' : i' < 4) (h : leafB X i 128 = leafB Y i' 128) : leafN X i = leafN Y i' := by
  refine ext_getD ((leafN_length X i hl hi).trans (leafN_length Y i' hm hi').symm) (fun j hj => ?_)
  rw [leafN_length X i hl hi] at hj
  rw [leafN_getD X i j hj, leafN_getD Y i' j hj, ← val4_leafB hX i j 128 hj, ← val4_leafB hY i' j 128 hj, h]
theorem leafB_congr {X Y : List Int} (i i' : Nat) (h : leafN X i = leafN Y i') : leafB X i 128 = leafB Y i' 128 := by
  have hk : ∀ k, k ≤ 128 → leafB X i k = leafB Y i' k := by
    intro k
    induction k with
    | zero => intro _; rfl
    | succ k ih =>
      intro hk
      rw [leafB_succ, leafB_succ, ih (by omega), ← leafN_getD X i k (by omega), ← leafN_getD Y i' k (by omega), h]
  exact hk 128 (Nat.le_refl _)
theorem leafB_zeros : leafB (List.replicate 512 0) 0 128 = List.replicate 512 0 := by decide +kernel
theorem leafN_zeros : leafN (List.replicate 512 0) 0 = List.replicate 128 0 := by decide +kernel
theorem told_0 : Told (List.replicate 512 0) := fun x hx => .inl (List.eq_of_mem_replicate hx)
/-- A leaf's bytes are all 0 just if it tells of nothing. -/
theorem bare_bytes {X : List Int} (hX : Told X) (hl : X.length = 512) (i : Nat) (hi : i < 4) : (leafB X i 128 = List.replicate 512 0) ↔ (leafN X i = List.replicate 128 0) := by
  constructor
  · intro h
    rw [← leafB_zeros] at h
    rw [← leafN_zeros]
    exact leafB_inj hX told_0 hl List.length_replicate i 0 hi (by omega) h
  · intro h
    rw [← leafN_zeros] at h
    rw [← leafB_zeros]
    exact leafB_congr i 0 h
section
variable {w : World} {p : Nat} {X : List Int}
theorem part_bad {i : Int} (hi : i < 0 ∨ 3 < i) (W : World) : Calls Try.prog 66 #[.int .i64 i] W fun e w' => e = .returned (.bool false) ∧ W = w' := by
  have := tpart_at (w := W) i
  have hd : (decide (0 ≤ i) && decide (i < 4)) = false := by
    rcases hi with h | h
    · simp; omega
    · simp; omega
  rwa [hd] at this
theorem tleaf_bad (i : Int) (hi : i < 0 ∨ 3 < i) :
    Calls Try.prog 36 #[.pointer (some ⟨p, 0, none⟩), .int .i64 i] w fun e w' => e = .returned (.slice none 0 0) ∧ w = w' := by
  have HP := Lib.hid (part_bad hi w)
  clear hi
  go_enter Try.func36, Try.ntmps36
  go_wp2_with (go_at_call 66; refine HP.out.mono ?_; rintro e w' ⟨rfl, rfl⟩)
  go_ret
  exact ⟨rfl, rfl⟩
theorem tbare_bad (i : Int) (hi : i < 0 ∨ 3 < i) :
    Calls Try.prog 37 #[.pointer (some ⟨p, 0, none⟩), .int .i64 i] w fun e w' => e = .returned (.bool true) ∧ w = w' := by
  have HP := Lib.hid (part_bad hi w)
  clear hi
  go_enter Try.func37, Try.ntmps37
  go_wp2_with (go_at_call 66; refine HP.out.mono ?_; rintro e w' ⟨rfl, rfl⟩)
  go_ret
  exact ⟨rfl, rfl⟩
end
end Go.Proofs.Ytejpcgoblgaieaa
