/-
  What same of hibernaclelaw07 does: a table tells what a row of the same numbers does.
-/
import Derived.Test.YtejpcgoblgaieaaRef07
set_option linter.unusedVariables false
set_option linter.unusedSimpArgs false
namespace Go.Proofs.Ytejpcgoblgaieaa.Law07
open Go.RowKit Go.Proofs.Ytejpcgoblgaieaa
section
variable {w : World} {p : Nat} {X : List Int}
set_option maxRecDepth 100000 in
set_option maxHeartbeats 4000000 in
/-- **same**. -/
theorem same07_at (h : TabAt w p X) (hX : Told X) :
    Calls Try.prog 27 #[.pointer (some ⟨p, 0, none⟩), .agg (nums X)] w fun e w' => e = .returned (.bool true) ∧ Upd noB w w' := by
  have hl := h.len
  have hlen : (occ X).length = 512 := by rw [occ_length, hl]
  have H := Lib.hid h
  have HL := Lib.hid hl
  have HLEN := Lib.hid hlen
  have hle := countT_le X
  rw [hl] at hle
  clear h hl hlen
  go_enter Try.func27, Try.ntmps27
  go_upto_region 1 with fail
  have hb : ArrAt (w.alloc (.cells (nums X) 57)) w.heap.size X := ⟨heap_alloc_new _ _, HL.out⟩
  have hu : Upd noB w (w.alloc (.cells (nums X) 57)) := (Upd.refl _ _).alloc _
  obtain ⟨wc, hwc⟩ : ∃ W, W = w.alloc (.cells (nums X) 57) := ⟨_, rfl⟩
  obtain ⟨b, hbb⟩ : ∃ b, b = w.heap.size := ⟨_, rfl⟩
  rw [← hwc] at hb hu ⊢
  rw [← hbb] at hb ⊢
  have HB := Lib.hid hb
  have HT := Lib.hid (H.out.upd0 hu)
  have hu := Lib.hid hu
  clear hwc hbb hb
  go_wp2
  go_loop [5, 6] (fun t i => ∃ (k c : Nat), t = .int .i64 (c : Int) ∧ i = .int .i64 (k : Int) ∧ k ≤ 512 ∧ Hid (c + (numsFrom (occ X) k).length = countT (occ X))) (fun _ i => 512 - (intOf i).toNat)
  case atStart => exact ⟨0, 0, rfl, rfl, by omega, by show 0 + _ = _; rw [Nat.zero_add]; rfl⟩
  case round =>
    obtain ⟨k, c, rfl, rfl, hk, hc⟩ := hrel
    by_cases hlt : k < 512
    · have hcell := HB.out.cell k hlt
      have hd : decide ((k : Int) < 512) = true := by simp; omega
      have hg := get_at HT.out hX (k : Int)
      rw [atI_nat X k hlt] at hg
      have hhit := numsFrom_hit (occ X) k (by rw [HLEN.out]; exact hlt)
      have hmiss := numsFrom_miss (occ X) k (by rw [HLEN.out]; exact hlt)
      rw [tr_occ] at hhit hmiss
      have hto := hX.at k
      obtain ⟨x, hx⟩ : ∃ x, X.getD k 0 = x := ⟨_, rfl⟩
      rw [hx] at hcell hhit hmiss hto hg
      clear hx
      by_cases hx : x = 0
      · have hc2 := hc.out
        rw [hmiss (by simp [hx])] at hc2
        have HC := Lib.hid hc2
        have hd2 : (x != 0) = false := by simp [hx]
        have hd3 : decide (0 < x) = false := by simp [hx]
        rw [hd3] at hg
        have Hg := Lib.hid hg
        clear hc hc2 hhit hmiss hto hx hg
        go_wp2_with (go_at_call 61; refine Hg.out.mono ?_; rintro e w' ⟨rfl, rfl⟩)
        go_round
        case rel => exact ⟨k + 1, c, rfl, by go_num, by omega, HC.out⟩
        case measure => simp [intOf]; omega
      · have hc2 := hc.out
        have hpos : 0 < x := by rcases hto with h0 | h0 <;> omega
        rw [hhit (by simpa using hpos)] at hc2
        rw [List.length_cons] at hc2
        have hcb : c < 512 := by omega
        have HC := Lib.hid (show (c + 1) + (numsFrom (occ X) (k + 1)).length = countT (occ X) by omega)
        have hd2 : (x != 0) = true := by simp [hx]
        have hd3 : decide (0 < x) = true := by simpa using hpos
        rw [hd3] at hg
        have Hg := Lib.hid hg
        clear hc hc2 hhit hmiss hto hx hg hpos
        go_wp2_with (go_at_call 61; refine Hg.out.mono ?_; rintro e w' ⟨rfl, rfl⟩)
        go_round
        case rel => exact ⟨k + 1, c + 1, by go_num, by go_num, by omega, HC.out⟩
        case measure => simp [intOf]; omega
    · have hd : decide ((k : Int) < 512) = false := by simp; omega
      have hc2 := hc.out
      rw [numsFrom_out (occ X) k (by rw [HLEN.out]; omega)] at hc2
      have hc3 : ((countT (occ X) : Int) == (c : Int)) = true := by simp at hc2 ⊢; omega
      clear hc hc2
      have HLE := Lib.hid (tlen_at HT.out hX)
      go_wp2_with (go_at_call 29; refine HLE.out.mono ?_; rintro e w' ⟨rfl, hu2⟩)
      go_ret
      exact ⟨rfl, hu.out.then0 hu2⟩
end
end Go.Proofs.Ytejpcgoblgaieaa.Law07
