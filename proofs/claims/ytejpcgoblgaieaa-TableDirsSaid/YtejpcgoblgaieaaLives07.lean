/-
  What lives of hibernaclelaw07 does: walked once.
-/
import Derived.Test.YtejpcgoblgaieaaTable6
import Derived.Test.YtejpcgoblgaieaaSame07
set_option linter.unusedVariables false
set_option linter.unusedSimpArgs false
namespace Go.Proofs.Ytejpcgoblgaieaa.Law07
open Go.RowKit Go.Proofs.Ytejpcgoblgaieaa
/-- The example's row. -/
def L7 : List Int := (List.replicate 512 0).set 130 7
theorem l7_byte : (u8s (leafB L7 1 128))[11]? = some (.int .u8 7) := by kernel_rfl
theorem l7_len : (u8s (leafB L7 1 128)).length = 512 := by simp [u8s, leafB_length]
theorem l7_chg : chg (told L7) 4 = [.int .i64 1] := by kernel_rfl
theorem l7_set : setX (List.replicate 512 0) 130 7 = L7 := by rfl
theorem told_zeros : Told (List.replicate 512 0) := fun x hx => .inl (List.eq_of_mem_replicate hx)
theorem told_l7 : Told L7 := told_zeros.set 130 7 (.inr ⟨by decide, by decide⟩)
set_option maxRecDepth 100000 in
set_option maxHeartbeats 4000000 in
/-- **lives**: the chapter's example. -/
theorem lives07_true (w : World) : Calls Try.prog 30 #[] w fun e w' => e = .returned (.bool true) ∧ Upd noB w w' := by
  go_enter Try.func30, Try.ntmps30
  go_wp2_with (go_at_call 41; refine tnew_at.mono ?_; rintro e W1 ⟨p, rfl, ht1, hu1, hp1⟩)
  have H1 := Lib.hid ht1
  have U1 := Lib.hid hu1
  clear ht1 hu1
  have hs := set_at H1.out 130 7
  simp only [show (inT 130 && okP 7) = true from by decide, if_true] at hs
  have HS := Lib.hid hs
  clear hs
  go_wp2_with (go_at_call 63; refine HS.out.mono ?_; rintro e W2 ⟨rfl, ht2, hu2⟩)
  rw [l7_set] at ht2
  have hpl := H1.out.plt
  have H2 := Lib.hid ht2
  have U2 := Lib.hid (U1.out.trans hu2 (fun k e => by cases e; exact .inr hp1))
  clear ht2 hu2 H1 U1
  go_wp2_with (go_at_call 36; refine (tleaf_at H2.out told_l7 1 (by omega)).mono ?_; rintro e W3 ⟨v3, rfl, hr3, hu3, hn3⟩)
  obtain ⟨A3, c3, rfl, hc3, hm3, hcs3⟩ := hr3.form
  have R3 := Lib.hid hr3
  have H3 := Lib.hid (H2.out.upd0 hu3)
  have U3 := Lib.hid (U2.out.then0 hu3)
  have C3 := Lib.hid hcs3
  clear hr3 hu3 hcs3
  rw [l7_len] at hc3 ⊢
  go_wp2_with (go_at_call 42; refine (tchanged_nil H3.out).mono ?_; rintro e W4 ⟨v4, rfl, hr4, hu4, hn4⟩)
  rw [l7_chg] at hr4
  obtain ⟨A4, c4, rfl, hc4, hm4, hcs4⟩ := hr4.form
  obtain ⟨g3, rfl, hg3, hf3, hd3⟩ := C3.out (by omega)
  obtain ⟨g4, rfl, hg4, hf4, hd4⟩ := hcs4 (by simp at hc4; omega)
  have hcell4 : W4.cell? ⟨g4, 0, none⟩ = some (.int .i64 1) := hd4 0 (by simp)
  have hcell3 : W4.cell? ⟨g3, 11, none⟩ = some (.int .u8 7) := by
    have := hd3 11 (by rw [l7_len]; omega)
    have h2 := l7_byte
    rw [List.getElem?_eq_getElem (by rw [l7_len]; omega)] at h2
    rw [Option.some.inj h2] at this
    exact hu4.cell this (fun x => x)
  have U4 := Lib.hid (U3.out.then0 hu4)
  clear hd3 hd4 hcs4 hf3 hf4 hu4 hr4
  have hi3 := run_indexAt_slice (P := Try.prog) (w := W4) 48 ⟨g3, 0, none⟩ 512 c3 .i64 11 (by go_simp)
  have hi4 := run_indexAt_slice (P := Try.prog) (w := W4) 22 ⟨g4, 0, none⟩ 1 c4 .i64 0 (by go_simp)
  simp only [List.length_cons, List.length_nil, Nat.zero_add]
  clear hc3 hm3 hn3 hc4 hm4 hn4 HS hpl hp1
  go_wp2
  go_simp
  go_wp2
  go_ret
  exact ⟨rfl, U4.out⟩
end Go.Proofs.Ytejpcgoblgaieaa.Law07
