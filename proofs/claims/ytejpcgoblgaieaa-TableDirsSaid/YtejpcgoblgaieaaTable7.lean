/-
  Package table: sized and take: walked once.
-/
import Derived.Test.YtejpcgoblgaieaaTable6
import Derived.Test.YtejpcgoblgaieaaOr
set_option linter.unusedVariables false
set_option linter.unusedSimpArgs false
namespace Go.Proofs.Ytejpcgoblgaieaa
open Go.RowKit
section
variable {w : World}
/-- Why bytes are no page. -/
def sizedE (n : Nat) : Int := if n < 512 then 3 else if 512 < n then 2 else 0
theorem tsized_at (A : Option Addr) (n c : Nat) : Calls Try.prog 71 #[.slice A n c] w fun e w' => e = .returned (.int .i64 (sizedE n)) ∧ w = w' := by
  by_cases h : n < 512
  · have hd : decide ((n : Int) < 512) = true := by simp; omega
    have HE := Lib.hid (show sizedE n = 3 by simp [sizedE, h])
    clear h
    go_enter Try.func71, Try.ntmps71
    go_wp2
    go_ret
    exact ⟨ret_int HE.out.symm, rfl⟩
  · have hd : decide ((n : Int) < 512) = false := by simp; omega
    by_cases h2 : 512 < n
    · have hd2 : decide ((512 : Int) < n) = true := by simp; omega
      have HE := Lib.hid (show sizedE n = 2 by simp [sizedE, h, h2])
      clear h h2
      go_enter Try.func71, Try.ntmps71
      go_wp2
      go_ret
      exact ⟨ret_int HE.out.symm, rfl⟩
    · have hd2 : decide ((512 : Int) < n) = false := by simp; omega
      have HE := Lib.hid (show sizedE n = 0 by simp [sizedE, h, h2])
      clear h h2
      go_enter Try.func71, Try.ntmps71
      go_wp2
      go_ret
      exact ⟨ret_int HE.out.symm, rfl⟩
theorem ttake_at (b o n c : Nat) (x0 x1 x2 x3 : Nat) (h4 : 4 ≤ n) (c0 : w.cell? ⟨b, o, none⟩ = some (.int .u8 x0)) (c1 : w.cell? ⟨b, o + 1, none⟩ = some (.int .u8 x1)) (c2 : w.cell? ⟨b, o + 2, none⟩ = some (.int .u8 x2)) (c3 : w.cell? ⟨b, o + 3, none⟩ = some (.int .u8 x3))
    (l0 : x0 < 256) (l1 : x1 < 256) (l2 : x2 < 256) (l3 : x3 < 256) :
    Calls Try.prog 72 #[.slice (some ⟨b, o, none⟩) n c] w fun e w' => e = .returned (.int .i64 (x0 * 16777216 + x1 * 65536 + x2 * 256 + x3)) ∧ w.drew = w' := by
  have i0 : 0 < n := by omega
  have hw0 : IntKind.i64.wrap (x0 : Int) = x0 := by rw [IntKind.wrap_i64]; omega
  have hx1 : IntKind.i64.wrap (x1 : Int) = x1 := by rw [IntKind.wrap_i64]; omega
  have hx2 : IntKind.i64.wrap (x2 : Int) = x2 := by rw [IntKind.wrap_i64]; omega
  have hx3 : IntKind.i64.wrap (x3 : Int) = x3 := by rw [IntKind.wrap_i64]; omega
  have hy0 : IntKind.i64.wrap ((x0 : Int) * 16777216) = (x0 : Int) * 16777216 := by rw [IntKind.wrap_i64]; omega
  have hy1 : IntKind.i64.wrap ((x1 : Int) * 65536) = (x1 : Int) * 65536 := by rw [IntKind.wrap_i64]; omega
  have hy2 : IntKind.i64.wrap ((x2 : Int) * 256) = (x2 : Int) * 256 := by rw [IntKind.wrap_i64]; omega
  have HO := Lib.hid (or_four x0 x1 x2 x3 l0 l1 l2 l3)
  have i1 : (1 : Int) < n := by omega
  have i2 : (2 : Int) < n := by omega
  have i3 : (3 : Int) < n := by omega
  go_enter Try.func72, Try.ntmps72
  go_upto_region 1 with fail
  go_region_held3 (fun w' => w'.cell? ⟨b, o, none⟩ = some (.int .u8 x0) ∧ w'.cell? ⟨b, o + 1, none⟩ = some (.int .u8 x1) ∧ w'.cell? ⟨b, o + 2, none⟩ = some (.int .u8 x2) ∧ w'.cell? ⟨b, o + 3, none⟩ = some (.int .u8 x3))
    (go_keep) (fail)
  all_goals
    go_wp2
    go_ret
    exact ⟨ret_int HO.out, rfl⟩
/-- The number of four bytes. -/
def val4 (xs : List Int) (at_ : Nat) : Int := xs.getD at_ 0 * 16777216 + xs.getD (at_ + 1) 0 * 65536 + xs.getD (at_ + 2) 0 * 256 + xs.getD (at_ + 3) 0
/-- Bytes. -/
def Bytes (xs : List Int) : Prop := ∀ x ∈ xs, 0 ≤ x ∧ x < 256
theorem Bytes.at {xs : List Int} (h : Bytes xs) (i : Nat) : ∃ n : Nat, xs.getD i 0 = n ∧ n < 256 := by
  rw [List.getD_eq_getElem?_getD]
  by_cases hlt : i < xs.length
  · rw [List.getElem?_eq_getElem hlt]
    have := h xs[i] (List.getElem_mem _)
    exact ⟨xs[i].toNat, by simp; omega, by omega⟩
  · rw [List.getElem?_eq_none (by omega)]; exact ⟨0, rfl, by omega⟩
/-- The reference's value. -/
theorem value_at (b o n c k : Nat) (xs : List Int) (hx : Bytes xs) (hn : xs.length = n) (hn2 : n ≤ 1000000) (hk : k + 4 ≤ n) (hc : ∀ i, i < n → w.cell? ⟨b, o + i, none⟩ = some (.int .u8 (xs.getD i 0))) :
    Calls Try.prog 69 #[.slice (some ⟨b, o, none⟩) n c, .int .i64 (k : Int)] w fun e w' => e = .returned (.int .i64 (val4 xs k)) ∧ w.drew = w' := by
  obtain ⟨x0, e0, l0⟩ := hx.at k
  obtain ⟨x1, e1, l1⟩ := hx.at (k + 1)
  obtain ⟨x2, e2, l2⟩ := hx.at (k + 2)
  obtain ⟨x3, e3, l3⟩ := hx.at (k + 3)
  have c0 := hc k (by omega)
  have c1 := hc (k + 1) (by omega)
  have c2 := hc (k + 2) (by omega)
  have c3 := hc (k + 3) (by omega)
  rw [e0] at c0
  rw [e1] at c1
  rw [e2] at c2
  rw [e3] at c3
  have HV := Lib.hid (show val4 xs k = (x0 : Int) * 16777216 + (x1 : Int) * 65536 + (x2 : Int) * 256 + x3 by rw [val4, e0, e1, e2, e3])
  have i0 : (k : Int) < n := by omega
  have i1 : (k : Int) + 1 < n := by omega
  have i2 : (k : Int) + 2 < n := by omega
  have i3 : (k : Int) + 3 < n := by omega
  have t2 : ((k : Int) + 2).toNat = k + 2 := by omega
  have t3 : ((k : Int) + 3).toNat = k + 3 := by omega
  have j1 : (0 : Int) ≤ (k : Int) + 1 := by omega
  have j2 : (0 : Int) ≤ (k : Int) + 2 := by omega
  have j3 : (0 : Int) ≤ (k : Int) + 3 := by omega
  have hx0 : IntKind.i64.wrap (x0 : Int) = x0 := by rw [IntKind.wrap_i64]; omega
  have hx1 : IntKind.i64.wrap (x1 : Int) = x1 := by rw [IntKind.wrap_i64]; omega
  have hx2 : IntKind.i64.wrap (x2 : Int) = x2 := by rw [IntKind.wrap_i64]; omega
  have hx3 : IntKind.i64.wrap (x3 : Int) = x3 := by rw [IntKind.wrap_i64]; omega
  have hy0 : IntKind.i64.wrap ((x0 : Int) * 16777216) = (x0 : Int) * 16777216 := by rw [IntKind.wrap_i64]; omega
  have hy1 : IntKind.i64.wrap ((x1 : Int) * 65536) = (x1 : Int) * 65536 := by rw [IntKind.wrap_i64]; omega
  have hy2 : IntKind.i64.wrap ((x2 : Int) * 256) = (x2 : Int) * 256 := by rw [IntKind.wrap_i64]; omega
  have hz1 : IntKind.i64.wrap ((x0 : Int) * 16777216 + (x1 : Int) * 65536) = (x0 : Int) * 16777216 + (x1 : Int) * 65536 := by rw [IntKind.wrap_i64]; omega
  have hz2 : IntKind.i64.wrap ((x0 : Int) * 16777216 + (x1 : Int) * 65536 + (x2 : Int) * 256) = (x0 : Int) * 16777216 + (x1 : Int) * 65536 + (x2 : Int) * 256 := by rw [IntKind.wrap_i64]; omega
  have hz3 : IntKind.i64.wrap ((x0 : Int) * 16777216 + (x1 : Int) * 65536 + (x2 : Int) * 256 + (x3 : Int)) = (x0 : Int) * 16777216 + (x1 : Int) * 65536 + (x2 : Int) * 256 + (x3 : Int) := by rw [IntKind.wrap_i64]; omega
  have w1 : IntKind.i64.wrap ((k : Int) + 1) = (k : Int) + 1 := by rw [IntKind.wrap_i64]; omega
  have w2 : IntKind.i64.wrap ((k : Int) + 2) = (k : Int) + 2 := by rw [IntKind.wrap_i64]; omega
  have w3 : IntKind.i64.wrap ((k : Int) + 3) = (k : Int) + 3 := by rw [IntKind.wrap_i64]; omega
  clear hc hx hn hk e0 e1 e2 e3
  go_enter Try.func69, Try.ntmps69
  go_upto_region 1 with fail
  go_region_held3 (fun w' => w'.cell? ⟨b, o + k, none⟩ = some (.int .u8 x0) ∧ w'.cell? ⟨b, o + (k + 1), none⟩ = some (.int .u8 x1) ∧ w'.cell? ⟨b, o + (k + 2), none⟩ = some (.int .u8 x2) ∧ w'.cell? ⟨b, o + (k + 3), none⟩ = some (.int .u8 x3))
    (go_keep) (fail)
  all_goals
    go_wp2
    go_ret
    exact ⟨ret_int HV.out.symm, rfl⟩
end
end Go.Proofs.Ytejpcgoblgaieaa
