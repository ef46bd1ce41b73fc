/-
  hibernaclelaw06.BitsOf: walked once: for every size and every bytes it returns true.
-/
import Derived.Test.YtejpcgoblgaieaaLaw06c
import Derived.Test.YtejpcgoblgaieaaRef06Of
import Derived.Test.YtejpcgoblgaieaaBitsSameLaw
set_option linter.unusedVariables false
set_option linter.unusedSimpArgs false
namespace Go.Proofs.Ytejpcgoblgaieaa.BitsOf
open Go.RowKit Go.Proofs.Ytejpcgoblgaieaa Go.Proofs.Ytejpcgoblgaieaa.Law Go.Proofs.Ytejpcgoblgaieaa.Ref06 Go.Proofs.Ytejpcgoblgaieaa.Law06

theorem arg_string {P : Program} {w : World} {A : Option Addr} {c : Nat} {xs : List Int} (src e dst : TypeId) (hs : P.underlying src = some (.slice e)) (he : P.underlying e = some (.int .u8)) (hd : P.underlying dst = some .string)
    (h : Lib.BytesIn w A xs.length xs) : (convert src dst (.slice A xs.length c)).run P w = .ok (.string (strOfNums xs)) w := by
  by_cases h0 : xs.length = 0
  · obtain rfl : xs = [] := List.eq_nil_of_length_eq_zero h0
    exact run_convert_bytes_zero w src e hs he A c dst hd
  · obtain ⟨b, o, rfl, hc⟩ := h (by omega)
    exact run_convert_bytes_arg w src e hs he b o _ c xs rfl hc dst hd
theorem bytesIn_upd {w w' : World} {A : Option Addr} {n : Nat} {xs : List Int} (h : Lib.BytesIn w A n xs) (hu : Upd noB w w') : Lib.BytesIn w' A n xs := fun h0 => by
  obtain ⟨b, o, h1, h2⟩ := h h0
  exact ⟨b, o, h1, fun i hi => hu.cell (h2 i hi) (fun x => x)⟩

set_option maxRecDepth 100000 in
set_option maxHeartbeats 8000000 in
theorem walk (n : Int) (A : Option Addr) (cp : Nat) (xs : List Int) (w : World) (hl : xs.length ≤ 140737488355328) (hr : ∀ x ∈ xs, 0 ≤ x ∧ x < 256) (hA : Lib.BytesIn w A xs.length xs) :
    Calls Try.prog 5 #[.int .i64 n, .slice A xs.length cp] w fun e w' => e = .returned (.bool true) ∧ Upd noB w w' := by
  have HA := Lib.hid hA
  have HL := Lib.hid (fun w : World => lives_true (w := w))
  have HRR := Lib.hid hr
  clear hA hr
  by_cases h500 : 500 < xs.length
  · have hd : decide ((500 : Int) < xs.length) = true := by simp; omega
    go_enter Try.func5, Try.ntmps5
    go_wp2_with (go_at_call 12; refine (HL.out _).mono ?_; rintro e w' ⟨rfl, hu⟩)
    go_ret
    exact ⟨rfl, hu⟩
  have hd0 : decide ((500 : Int) < xs.length) = false := by simp; omega
  by_cases hbad : n < 0 ∨ 2048 < n
  · have H := Lib.hid (fun w : World => Law.of_bad (w := w) n hbad (.slice A xs.length cp))
    have H' := Lib.hid (fun w : World => Ref06.of_bad (w := w) n hbad (.slice A xs.length cp))
    have hda : (decide ((200 : Int) < n) && decide (n ≤ 2048)) = false := by simp; omega
    by_cases h2 : 200 < n
    · have hd1 : decide ((200 : Int) < n) = true := by simp; omega
      have hd2 : decide (n ≤ 2048) = false := by simp; omega
      go_enter Try.func5, Try.ntmps5
      go_wp2_with (first | (go_at_call 23; refine (H.out _).mono ?_; rintro e w' ⟨rfl, rfl⟩) | (go_at_call 24; refine (H'.out _).mono ?_; rintro e w' ⟨rfl, rfl⟩) | (go_at_call 12; refine (HL.out _).mono ?_; rintro e w' ⟨rfl, hu⟩))
      go_ret
      exact ⟨rfl, hu⟩
    · have hd1 : decide ((200 : Int) < n) = false := by simp; omega
      go_enter Try.func5, Try.ntmps5
      go_wp2_with (first | (go_at_call 23; refine (H.out _).mono ?_; rintro e w' ⟨rfl, rfl⟩) | (go_at_call 24; refine (H'.out _).mono ?_; rintro e w' ⟨rfl, rfl⟩) | (go_at_call 12; refine (HL.out _).mono ?_; rintro e w' ⟨rfl, hu⟩))
      go_ret
      exact ⟨rfl, hu⟩
  obtain ⟨n, rfl⟩ := Int.eq_ofNat_of_zero_le (show 0 ≤ n by omega)
  have hn : n ≤ 2048 := by omega
  clear hbad
  by_cases h2 : 200 < n
  · have hd1 : decide ((200 : Int) < n) = true := by simp; omega
    have hd2 : decide ((n : Int) ≤ 2048) = true := by simp; omega
    go_enter Try.func5, Try.ntmps5
    go_wp2_with (go_at_call 12; refine (HL.out _).mono ?_; rintro e w' ⟨rfl, hu⟩)
    go_ret
    exact ⟨rfl, hu⟩
  have hd1 : decide ((200 : Int) < n) = false := by simp; omega
  go_enter Try.func5, Try.ntmps5
  go_wp2_with fail
  refine (of_at n hn A cp xs hl HRR.out HA.out).mono ?_
  rintro e w1 ⟨hu1, hcase⟩
  have HA1 := Lib.hid (bytesIn_upd HA.out hu1)
  have HU1 := Lib.hid hu1
  clear hu1
  rcases hcase with ⟨hx, rfl⟩ | ⟨hx, rfl⟩ | ⟨hx, hst, rfl⟩ | ⟨hx, hst, p, g, c, rfl, hs, q1, q2⟩
  · go_wp2_with fail
    refine (of_ref n hn A cp xs hl HRR.out HA1.out).mono ?_
    rintro e w2 ⟨hu2, hcase⟩
    have HU2 := Lib.hid (HU1.out.then0 hu2)
    clear hu2
    obtain rfl : e = .returned (.tuple #[.slice none 0 0, .int .i64 2]) := by
      rcases hcase with ⟨hy, rfl⟩ | ⟨hy, rfl⟩ | ⟨hy, hst, rfl⟩ | ⟨hy, hst, v, rfl, hs⟩
      · rfl
      · omega
      · omega
      · omega
    clear hcase
    go_wp2_with (go_at_call 12; refine (HL.out _).mono ?_; rintro e w' ⟨rfl, hu⟩)
    go_ret
    exact ⟨rfl, HU2.out.then0 hu⟩
  · go_wp2_with fail
    refine (of_ref n hn A cp xs hl HRR.out HA1.out).mono ?_
    rintro e w2 ⟨hu2, hcase⟩
    have HU2 := Lib.hid (HU1.out.then0 hu2)
    clear hu2
    obtain rfl : e = .returned (.tuple #[.slice none 0 0, .int .i64 3]) := by
      rcases hcase with ⟨hy, rfl⟩ | ⟨hy, rfl⟩ | ⟨hy, hst, rfl⟩ | ⟨hy, hst, v, rfl, hs⟩
      · omega
      · rfl
      · omega
      · omega
    clear hcase
    go_wp2_with (go_at_call 12; refine (HL.out _).mono ?_; rintro e w' ⟨rfl, hu⟩)
    go_ret
    exact ⟨rfl, HU2.out.then0 hu⟩
  · have HX := Lib.hid hx
    have HST := Lib.hid hst
    clear hx hst
    go_wp2_with fail
    refine (of_ref n hn A cp xs hl HRR.out HA1.out).mono ?_
    rintro e w2 ⟨hu2, hcase⟩
    have HU2 := Lib.hid (HU1.out.then0 hu2)
    clear hu2
    obtain rfl : e = .returned (.tuple #[.slice none 0 0, .int .i64 4]) := by
      have hx := HX.out
      have hst := HST.out
      rcases hcase with ⟨hy, rfl⟩ | ⟨hy, rfl⟩ | ⟨hy, hst', rfl⟩ | ⟨hy, hst', v, rfl, hs⟩
      · omega
      · omega
      · rfl
      · rw [hst] at hst'; exact absurd hst' (by simp)
    clear hcase
    go_wp2_with (go_at_call 12; refine (HL.out _).mono ?_; rintro e w' ⟨rfl, hu⟩)
    go_ret
    exact ⟨rfl, HU2.out.then0 hu⟩
  · have HS1 := Lib.hid hs
    have HX := Lib.hid hx
    have HST := Lib.hid hst
    clear hs hx hst
    go_wp2_with fail
    refine (of_ref n hn A cp xs hl HRR.out HA1.out).mono ?_
    rintro e w2 ⟨hu2, hcase⟩
    obtain ⟨v, rfl, hv⟩ : ∃ v, e = .returned (.tuple #[v, .int .i64 0]) ∧ BRow w2 v (truths n xs) := by
      have hx := HX.out
      have hst := HST.out
      rcases hcase with ⟨hy, rfl⟩ | ⟨hy, rfl⟩ | ⟨hy, hst', rfl⟩ | ⟨hy, hst', v, rfl, hs⟩
      · omega
      · omega
      · rw [hst] at hst'; exact absurd hst' (by simp)
      · exact ⟨v, rfl, hs⟩
    have HU2 := Lib.hid (HU1.out.then0 hu2)
    have HA2 := Lib.hid (bytesIn_upd HA1.out hu2)
    have HS2 := Lib.hid (HS1.out.upd0 hu2)
    have HV2 := Lib.hid hv
    clear hu2 hv hcase
    have hlen : (truths n xs).length ≤ 200 := by rw [truths_length]; omega
    go_upto_region 9 with fail
    go_region_with (first
      | (go_at_call 18; refine (alike_true (HS2.out.upd0 (by first | exact Upd.refl _ _ | exact (Upd.refl _ _).drew | assumption)) (HV2.out.upd0 (by first | exact Upd.refl _ _ | exact (Upd.refl _ _).drew | assumption)) hlen).mono ?_; rintro e w3 ⟨rfl, hu3⟩
         have hU3 : Upd noB w2 w3 := Upd.then0 (by first | exact Upd.refl _ _ | exact (Upd.refl _ _).drew | assumption) hu3
         have hcw3 := arg_string (P := Try.prog) (c := cp) 48 5 9 Try.underlying48 Try.underlying5 Try.underlying9 (bytesIn_upd HA2.out hU3)
         clear hu3)
      | (go_at_call 25; refine (bytes_new (HS2.out.upd0 (by assumption))).mono ?_; rintro e w4 ⟨r, d, rfl, hr4, hg, hu4⟩
         have hU4 : Upd noB w2 w4 := Upd.then0 (by assumption) hu4
         have hcv4 := row_string (P := Try.prog) 48 5 9 5 Try.underlying48 Try.underlying5 Try.underlying9 hr4
         rw [bytesOf_truths HX.out HRR.out HST.out] at hcv4
         have hcw4 := arg_string (P := Try.prog) (c := cp) 48 5 9 Try.underlying48 Try.underlying5 Try.underlying9 (bytesIn_upd HA2.out hU4)
         clear hr4 hg hu4)
      | (go_at_call 12; refine (HL.out _).mono ?_; rintro e w5 ⟨rfl, hu5⟩
         have hU5 : Upd noB w2 w5 := Upd.then0 (by assumption) hu5
         clear hu5))
    all_goals (go_wp2_with fail; go_ret; exact ⟨rfl, HU2.out.then0 (by assumption)⟩)
end Go.Proofs.Ytejpcgoblgaieaa.BitsOf
