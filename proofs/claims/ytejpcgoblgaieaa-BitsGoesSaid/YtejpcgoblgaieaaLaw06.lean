/-
  What the inner functions of hibernaclelaw06 do: each walked once.
-/
import Derived.Test.YtejpcgoblgaieaaRef06
import Derived.Test.YtejpcgoblgaieaaBitsIterLaw
import Derived.Shelf.RegionOpen
set_option linter.unusedVariables false
set_option linter.unusedSimpArgs false
namespace Go.Proofs.Ytejpcgoblgaieaa.Law06
open Go.RowKit Go.Proofs.Ytejpcgoblgaieaa Go.Proofs.Ytejpcgoblgaieaa.Law Go.Proofs.Ytejpcgoblgaieaa.Ref06
section
variable {w : World}

theorem few_at (n : Int) : Calls Try.prog 13 #[.int .i64 n] w fun e w' => e = .returned (.bool (decide (n ≤ 200))) ∧ w = w' := by
  go_enter Try.func13, Try.ntmps13
  go_wp2
  go_ret
  exact ⟨rfl, rfl⟩

/-- An argument of type []int. -/
def IntsIn (w : World) (A : Option Addr) (zs : List Int) : Prop :=
  0 < zs.length → ∃ b o, A = some ⟨b, o, none⟩ ∧ b < w.heap.size ∧ ∀ i, i < zs.length → w.cell? ⟨b, o + i, none⟩ = some (.int .i64 (zs.getD i 0))
theorem IntsIn.upd0 {w w' : World} {A : Option Addr} {zs : List Int} (h : IntsIn w A zs) (hu : Upd noB w w') : IntsIn w' A zs := fun h0 => by
  obtain ⟨b, o, h1, h2, h3⟩ := h h0
  exact ⟨b, o, h1, Nat.lt_of_lt_of_le h2 hu.size, fun i hi => hu.cell (h3 i hi) (fun x => x)⟩

set_option maxHeartbeats 4000000 in
/-- **alike**: a set, and the row of its own truths. -/
theorem alike_true {p g c : Nat} {S : List Bool} {v : Value} (h : SetAt w p g c S) (hv : BRow w v S) (hs : S.length ≤ 200) :
    Calls Try.prog 18 #[.pointer (some ⟨p, 0, none⟩), v] w fun e w' => e = .returned (.bool true) ∧ Upd noB w w' := by
  obtain ⟨A, cc, rfl, h2, h3, h4⟩ := hv.form
  have H := Lib.hid h
  have HV := Lib.hid hv
  have H4 := Lib.hid h4
  clear h hv h4
  go_enter Try.func18, Try.ntmps18
  go_upto_region 1 with fail
  go_cut [25] (fun b W => b = .bool false ∧ Hid (Upd noB w W))
  case first =>
    go_region_with (first
      | (go_at_call 14; refine (size_at (H.out.upd0 (by first | exact Upd.refl _ _ | exact (Upd.refl _ _).drew | assumption))).mono ?_; rintro e w' ⟨rfl, rfl⟩)
      | (go_at_call 25; refine (bytes_new (H.out.upd0 (by first | exact Upd.refl _ _ | exact (Upd.refl _ _).drew | assumption))).mono ?_; rintro e w2 ⟨r, d, rfl, hr, hg, hu2⟩
         have hU2 : Upd noB w w2 := Upd.then0 (by first | exact Upd.refl _ _ | exact (Upd.refl _ _).drew | assumption) hu2
         have hcv2 := row_string (P := Try.prog) 48 5 9 5 Try.underlying48 Try.underlying5 Try.underlying9 hr
         have HR2 := Lib.hid hr
         clear hr hg hu2)
      | (go_at_call 35; refine (bytes_ref (HV.out.upd0 (by first | exact Upd.refl _ _ | exact (Upd.refl _ _).drew | assumption)) (by omega)).mono ?_; rintro e w3 ⟨rfl, hu3⟩
         have hU3 : Upd noB w w3 := Upd.then0 (by assumption) hu3
         have hcv3 := row_string (P := Try.prog) 48 5 9 5 Try.underlying48 Try.underlying5 Try.underlying9 (ownsRow_upd HR2.out hu3 (fun _ _ x => x))
         clear hu3)
      | (go_at_call 51; refine (count_at (H.out.upd0 (by assumption))).mono ?_; rintro e w4 ⟨rfl, hu4⟩
         have hU4 : Upd noB w w4 := Upd.then0 (by assumption) hu4
         clear hu4)
      | (go_at_call 53; refine (count_ref (HV.out.upd0 (by assumption)) (by omega)).mono ?_; rintro e w' ⟨rfl, rfl⟩))
    all_goals (go_wp2_with fail; go_meet; exact ⟨rfl, by assumption⟩)
  case rest =>
    obtain ⟨rfl, hu⟩ := hcut
    have HS := Lib.hid (H.out.upd0 hu.out)
    have HW := Lib.hid (HV.out.upd0 hu.out)
    go_wp2
    go_loop [5] (fun t => ∃ i : Int, t = .int .i64 i ∧ -1 ≤ i ∧ i ≤ S.length + 1) (fun t => (S.length + 1 - intOf t).toNat)
    case atStart => exact ⟨-1, rfl, by omega, by omega⟩
    case round =>
      obtain ⟨i, rfl, hi1, hi2⟩ := hrel
      have HA := Lib.hid (has_at HS.out i)
      have HN := Lib.hid (next_at HS.out i)
      have HG := Lib.hid (gap_at HS.out i)
      have HF := Lib.hid (fun x => find_ref HW.out (by omega) i x)
      have rel : ∀ j : Int, -1 ≤ j → j ≤ S.length → ∃ i : Int, Value.int .i64 (j + 1) = .int .i64 i ∧ -1 ≤ i ∧ i ≤ S.length + 1 := fun j h1 h2 => ⟨j + 1, rfl, by omega, by omega⟩
      have REL := Lib.hid rel
      clear rel
      by_cases h1 : (S.length : Int) < i
      · go_wp2
        go_ret
        exact ⟨rfl, hu.out⟩
      · by_cases h0 : i < 0
        · have hv : trI S i = false := trI_out S i (.inl h0)
          have HA2 := Lib.hid (HA.out.mono (R' := fun e w' => e = .returned (.bool false) ∧ wc = w') (fun e w' hh => ⟨by rw [hh.1, hv], hh.2⟩))
          have hd : decide (0 ≤ i) = false := by simp; omega
          clear hv
          go_wp2_with (first
            | (go_at_call 22; refine HA2.out.mono ?_; rintro e w' ⟨rfl, rfl⟩)
            | (go_at_call 54; refine HN.out.mono ?_; rintro e w' ⟨rfl, rfl⟩)
            | (go_at_call 56; refine HG.out.mono ?_; rintro e w' ⟨rfl, rfl⟩)
            | (go_at_call 55; refine (HF.out _).mono ?_; rintro e w' ⟨rfl, rfl⟩))
          go_round
          case rel => exact REL.out i hi1 (by omega)
          case measure => simp [intOf]; omega
        · obtain ⟨j, rfl⟩ := Int.eq_ofNat_of_zero_le (show 0 ≤ i by omega)
          by_cases hj : j < S.length
          · obtain ⟨g', rfl, _, _, hc⟩ := H4.out (by omega)
            have hcell := hu.out.cell (hc j hj) (fun x => x)
            have HA2 := Lib.hid (HA.out.mono (R' := fun e w' => e = .returned (.bool (tr S j)) ∧ wc = w') (fun e w' hh => ⟨by rw [hh.1, trI_nat], hh.2⟩))
            clear hc
            go_wp2_with (first
            | (go_at_call 22; refine HA2.out.mono ?_; rintro e w' ⟨rfl, rfl⟩)
            | (go_at_call 54; refine HN.out.mono ?_; rintro e w' ⟨rfl, rfl⟩)
            | (go_at_call 56; refine HG.out.mono ?_; rintro e w' ⟨rfl, rfl⟩)
            | (go_at_call 55; refine (HF.out _).mono ?_; rintro e w' ⟨rfl, rfl⟩))
            go_round
            case rel => exact REL.out j hi1 (by omega)
            case measure => simp [intOf]; omega
          · have hv : trI S j = false := trI_out S j (.inr (by omega))
            have HA2 := Lib.hid (HA.out.mono (R' := fun e w' => e = .returned (.bool false) ∧ wc = w') (fun e w' hh => ⟨by rw [hh.1, hv], hh.2⟩))
            clear hv
            go_wp2_with (first
            | (go_at_call 22; refine HA2.out.mono ?_; rintro e w' ⟨rfl, rfl⟩)
            | (go_at_call 54; refine HN.out.mono ?_; rintro e w' ⟨rfl, rfl⟩)
            | (go_at_call 56; refine HG.out.mono ?_; rintro e w' ⟨rfl, rfl⟩)
            | (go_at_call 55; refine (HF.out _).mono ?_; rintro e w' ⟨rfl, rfl⟩))
            go_round
            case rel => exact REL.out j hi1 (by omega)
            case measure => simp [intOf]; omega

end
end Go.Proofs.Ytejpcgoblgaieaa.Law06
