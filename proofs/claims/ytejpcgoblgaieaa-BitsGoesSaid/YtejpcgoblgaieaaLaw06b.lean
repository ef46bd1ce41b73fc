/-
  What lives and made of hibernaclelaw06 do: each walked once.
-/
import Derived.Test.YtejpcgoblgaieaaRef06
import Derived.Test.YtejpcgoblgaieaaBitsIterLaw
set_option linter.unusedVariables false
set_option linter.unusedSimpArgs false
namespace Go.Proofs.Ytejpcgoblgaieaa.Law06
open Go.RowKit Go.Proofs.Ytejpcgoblgaieaa Go.Proofs.Ytejpcgoblgaieaa.Law Go.Proofs.Ytejpcgoblgaieaa.Ref06
section
variable {w : World}
/-- A row of truths lives on where a set is written. -/
theorem BRow.past {w' : World} {v : Value} {S S' : List Bool} {p g c : Nat} (h : BRow w v S) (hs : SetAt w p g c S') (hu : Upd (oneB g) w w') : BRow w' v S := by
  obtain ⟨cs, hcs⟩ := hs.gtyped
  exact Row.upd h hu (fun k hk e => Row.ne h hcs (by decide) hk e)
theorem str_lives : ((strOfNums (bytesOf (putI (putI (putI (List.replicate 10 false) 1 true) 2 true) 9 true))).toList == [6, 2]) = true := by decide +kernel
theorem count_lives : ((countT (putI (putI (putI (List.replicate 10 false) 1 true) 2 true) 9 true) : Int) == 3) = true := by
  have e : putI (putI (putI (List.replicate 10 false) 1 true) 2 true) 9 true = [false, true, true, false, false, false, false, false, false, true] := by decide +kernel
  rw [e]
  have h : numsFrom [false, true, true, false, false, false, false, false, false, true] 0 = [1, 2, 9] := by
    rw [numsFrom_miss _ 0 (by decide) (by decide), numsFrom_hit _ 1 (by decide) (by decide), numsFrom_hit _ 2 (by decide) (by decide), numsFrom_miss _ 3 (by decide) (by decide), numsFrom_miss _ 4 (by decide) (by decide), numsFrom_miss _ 5 (by decide) (by decide), numsFrom_miss _ 6 (by decide) (by decide), numsFrom_miss _ 7 (by decide) (by decide), numsFrom_miss _ 8 (by decide) (by decide), numsFrom_hit _ 9 (by decide) (by decide), numsFrom_out _ 10 (by decide)]
  unfold countT; rw [h]; decide
set_option maxRecDepth 5000 in
set_option maxHeartbeats 4000000 in
/-- **lives**: the chapter's example. -/
theorem lives_true : Calls Try.prog 12 #[] w fun e w' => e = .returned (.bool true) ∧ Upd noB w w' := by
  go_enter Try.func12, Try.ntmps12
  go_wp2_with fail
  refine (new_ok 10 (by decide)).mono ?_
  rintro e w1 ⟨p, g, c, rfl, h1, u1, q1, q2⟩
  go_wp2_with fail
  refine (put_at h1 1).mono ?_
  rintro e w2 ⟨rfl, h2, u2⟩
  go_wp2_with fail
  refine (put_at h2 2).mono ?_
  rintro e w3 ⟨rfl, h3, u3⟩
  go_wp2_with fail
  refine (put_at h3 9).mono ?_
  rintro e w4 ⟨rfl, h4, u4⟩
  obtain ⟨T, hT⟩ : ∃ T, T = putI (putI (putI (List.replicate 10 false) 1 true) 2 true) 9 true := ⟨_, rfl⟩
  rw [← hT] at h4
  have hst : ((strOfNums (bytesOf T)).toList == [6, 2]) = true := by rw [hT]; exact str_lives
  have hct : ((countT T : Int) == 3) = true := by rw [hT]; exact count_lives
  clear hT h1 h2 h3
  have hU : Upd noB w w4 := ((u1.trans u2 (fun k e => by cases e; exact .inr q2)).trans u3 (fun k e => by cases e; exact .inr q2)).trans u4 (fun k e => by cases e; exact .inr q2)
  go_wp2_with fail
  refine (bytes_new h4).mono ?_
  rintro e w5 ⟨r, d, rfl, hr, hg, u5⟩
  have hcv := row_string (P := Try.prog) 48 5 9 5 Try.underlying48 Try.underlying5 Try.underlying9 hr
  have H5 := Lib.hid (h4.upd0 u5)
  have HU := Lib.hid (hU.then0 u5)
  clear hU h4 u5 hr hg u1 u2 u3 u4 q1 q2
  go_wp2_with fail
  refine (count_at H5.out).mono ?_
  rintro e w6 ⟨rfl, u6⟩
  go_wp2
  go_ret
  exact ⟨rfl, HU.out.then0 u6⟩
end
end Go.Proofs.Ytejpcgoblgaieaa.Law06
