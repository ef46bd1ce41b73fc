/-
  What the document's answers of layer 7 say of a row of 512 numbers: each walked once.
-/
import Derived.Test.YtejpcgoblgaieaaTable2
import Derived.Deep.RegionHeld3
import Derived.Laws.ResultCell
set_option linter.unusedVariables false
set_option linter.unusedSimpArgs false
namespace Go.Proofs.Ytejpcgoblgaieaa
open Go.RowKit

/-- A row of numbers in memory. -/
structure ArrAt (w : World) (b : Nat) (X : List Int) : Prop where
  hp : w.heap[b]? = some (.cells (nums X) 57 (0, 0))
  len : X.length = 512
theorem ArrAt.cell {w : World} {b : Nat} {X : List Int} (h : ArrAt w b X) (i : Nat) (hi : i < 512) : w.cell? ⟨b, i, none⟩ = some (.int .i64 (X.getD i 0)) :=
  (cell_at h.hp i).trans (nums_get X i (by rw [h.len]; exact hi))
theorem ArrAt.free {w : World} {b : Nat} {X : List Int} (h : ArrAt w b X) (i : Nat) : w.frozen? ⟨b, i, none⟩ = false := frozen_at h.hp i
theorem ArrAt.plt {w : World} {b : Nat} {X : List Int} (h : ArrAt w b X) : b < w.heap.size := lt_of_block h.hp
theorem ArrAt.upd {S : Nat → Prop} {w w' : World} {b : Nat} {X : List Int} (h : ArrAt w b X) (hu : Upd S w w') (hn : ¬ S b) : ArrAt w' b X := ⟨hu.at h.hp hn, h.len⟩
theorem ArrAt.upd0 {w w' : World} {b : Nat} {X : List Int} (h : ArrAt w b X) (hu : Upd noB w w') : ArrAt w' b X := h.upd hu (fun x => x)
theorem ArrAt.store {w : World} {b : Nat} {X : List Int} (h : ArrAt w b X) (i : Nat) (x : Int) : ArrAt (w.setCell ⟨b, i, none⟩ (.int .i64 x)) b (X.set i x) :=
  ⟨by rw [setCell_at h.hp, nums_set], by rw [List.length_set]; exact h.len⟩
/-- The cells of a row of numbers. -/
def numL (X : List Int) : List Value := X.map (Value.int .i64)
theorem numL_length (X : List Int) : (numL X).length = X.length := by simp [numL]
theorem numL_one (X : List Int) : ∀ v ∈ numL X, v.oneCell' = true := by
  intro v hv
  simp [numL] at hv
  obtain ⟨a, _, rfl⟩ := hv
  rfl
theorem ArrAt.range {w : World} {b : Nat} {X : List Int} (h : ArrAt w b X) : w.rangeAt b 0 (numL X) := by
  intro j v hv
  rw [Nat.zero_add, cell_at h.hp j]
  simpa [nums, numL] using hv
theorem ArrAt.there {w : World} {b : Nat} {X : List Int} (h : ArrAt w b X) : w.there b 0 512 := by
  intro j hj
  rw [Nat.zero_add]
  exact ⟨by rw [h.cell j hj]; rfl, h.free j⟩
theorem info57 : (Try.prog.info? 57).map (·.size) = some 512 := by kernel_rfl
theorem zero57 : Try.zeroCells57 = nums (List.replicate 512 0) := by kernel_rfl
theorem load57 {w : World} {b : Nat} {X : List Int} (h : ArrAt w b X) : (Instr.loadAt 57 (.pointer (some ⟨b, 0, none⟩))).run Try.prog w = .ok (.agg (nums X)) w :=
  run_loadAt_mid w b 0 _ (numL X) _ h.range Try.underlying57 rfl (by rw [numL_length, h.len]; exact info57)
section
variable {w : World} {p : Nat} {X : List Int}

theorem page_ref (l : Int) : Calls Try.prog 70 #[.int .i64 l] w fun e w' => e = .returned (.bool (okP l)) ∧ w = w' := by
  by_cases h : 2 ≤ l
  · have hd : decide (1 < l) = true := by simp; omega
    have hd2 : decide (2 ≤ l) = true := by simpa using h
    go_enter Try.func70, Try.ntmps70
    go_wp2
    go_ret
    exact ⟨by simp [okP, hd2], rfl⟩
  · have hd : decide (1 < l) = false := by simp; omega
    have hd2 : decide (2 ≤ l) = false := by simpa using h
    go_enter Try.func70, Try.ntmps70
    go_wp2
    go_ret
    exact ⟨by simp [okP, hd2], rfl⟩

set_option maxHeartbeats 1000000 in
/-- **Gap.** -/
theorem gap_ref (hl : X.length = 512) (hX : Told X) (l : Int) :
    Calls Try.prog 81 #[.agg (nums X), .int .i64 l] w fun e w' => e = .returned (.int .i64 (findFrom (occ X) l.toNat false)) ∧ Upd noB w w' := by
  have hlen : (occ X).length = 512 := by rw [occ_length, hl]
  have HL := Lib.hid hl
  clear hl
  go_enter Try.func81, Try.ntmps81
  go_upto_region 1 with fail
  have hb : ArrAt (w.alloc (.cells (nums X) 57)) w.heap.size X := ⟨heap_alloc_new _ _, HL.out⟩
  have hu : Upd noB w (w.alloc (.cells (nums X) 57)) := (Upd.refl _ _).alloc _
  obtain ⟨wc, hwc⟩ : ∃ W, W = w.alloc (.cells (nums X) 57) := ⟨_, rfl⟩
  obtain ⟨b, hbb⟩ : ∃ b, b = w.heap.size := ⟨_, rfl⟩
  rw [← hwc] at hb hu ⊢
  rw [← hbb] at hb ⊢
  have hb := Lib.hid hb
  have hu := Lib.hid hu
  clear hwc hbb
  by_cases hneg : l < 0
  all_goals
    go_wp2
    go_loop [1] (fun t => ∃ k : Nat, t = .int .i64 k ∧ Hid (findFrom (occ X) k false = findFrom (occ X) l.toNat false)) (fun t => 512 - (intOf t).toNat)
    case atStart => exact ⟨l.toNat, congrArg (Value.int .i64) (by omega), rfl⟩
    case round =>
      obtain ⟨k, rfl, hk⟩ := hrel
      by_cases hlt : k < 512
      · have hcell := hb.out.cell k hlt
        have hd : decide ((k : Int) < 512) = true := by simp; omega
        have hhit := findFrom_hit (occ X) k false (by rw [hlen]; exact hlt)
        have hmiss := findFrom_miss (occ X) k false (by rw [hlen]; exact hlt)
        rw [tr_occ] at hhit hmiss
        have hto := hX.at k
        obtain ⟨x, hx⟩ : ∃ x, X.getD k 0 = x := ⟨_, rfl⟩
        rw [hx] at hcell hhit hmiss hto
        clear hx
        by_cases hx : x = 0
        · have HF := Lib.hid (hk.out.symm.trans (hhit (by simp [hx])))
          have hd2 : (x == 0) = true := by simpa using hx
          clear hk hhit hmiss hto hx
          go_wp2
          go_ret
          exact ⟨ret_int HF.out.symm, hu.out⟩
        · have HF := Lib.hid ((hmiss (by simp; omega)).symm.trans hk.out)
          have hd2 : (x == 0) = false := by simpa using hx
          clear hk hhit hmiss hto hx
          go_wp2
          go_round
          case rel => exact ⟨k + 1, by go_num, HF.out⟩
          case measure => simp [intOf]; omega
      · have HF := Lib.hid (hk.out.symm.trans (findFrom_out _ k false (by rw [hlen]; omega)))
        have hd : decide ((k : Int) < 512) = false := by simp; omega
        clear hk
        go_wp2
        go_ret
        exact ⟨ret_int HF.out.symm, hu.out⟩
end
end Go.Proofs.Ytejpcgoblgaieaa
