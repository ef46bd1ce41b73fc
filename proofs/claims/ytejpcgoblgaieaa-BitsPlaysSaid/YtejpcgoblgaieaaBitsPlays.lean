/-
  hibernaclelaw06.BitsPlays: walked once: for every size and every row of numbers it returns true.
-/
import Derived.Test.YtejpcgoblgaieaaLaw06
import Derived.Test.YtejpcgoblgaieaaLaw06b
set_option linter.unusedVariables false
set_option linter.unusedSimpArgs false
namespace Go.Proofs.Ytejpcgoblgaieaa.BitsPlays
open Go.RowKit Go.Proofs.Ytejpcgoblgaieaa Go.Proofs.Ytejpcgoblgaieaa.Law Go.Proofs.Ytejpcgoblgaieaa.Ref06 Go.Proofs.Ytejpcgoblgaieaa.Law06

theorem in_tr (S : List Bool) (i : Int) : (inI S i && (trI S i != false)) = trI S i := by
  rcases int_cases S i with h | ⟨n, rfl, h⟩
  · rw [inI_out S i h, trI_out S i h]; rfl
  · rw [inI_nat S n h]; simp
theorem bne_not (b : Bool) : (b != true) = !b := by cases b <;> rfl
/-- The loop. -/
def PRel (w : World) (n p g c len : Nat) (t i : Value) (wr : World) : Prop :=
  ∃ (k : Nat) (S : List Bool), i = .int .i64 (k : Int) ∧ k ≤ len ∧ S.length = n ∧ SetAt wr p g c S ∧ BRow wr t S ∧ Upd noB w wr
/-- Whole numbers of 64 bits. -/
def I64s (zs : List Int) : Prop := ∀ z ∈ zs, -9223372036854775808 ≤ z ∧ z ≤ 9223372036854775807

set_option maxRecDepth 100000 in
set_option maxHeartbeats 8000000 in
theorem walk (n : Int) (A : Option Addr) (cp : Nat) (zs : List Int) (w : World) (hl : zs.length ≤ 1000000000000000) (hz : I64s zs) (hA : IntsIn w A zs) :
    Calls Try.prog 3 #[.int .i64 n, .slice A zs.length cp] w fun e w' => e = .returned (.bool true) ∧ Upd noB w w' := by
  have HA := Lib.hid hA
  have HZ := Lib.hid hz
  clear hA hz
  by_cases hbad : n < 0 ∨ 2048 < n
  · have H := Lib.hid (new_bad (w := w) n hbad)
    have HL := Lib.hid (lives_true (w := w))
    rcases hbad with hb | hb
    · go_enter Try.func3, Try.ntmps3
      go_wp2_with (first | (go_at_call 11; refine H.out.mono ?_; rintro e w' ⟨rfl, rfl⟩) | (go_at_call 12; refine HL.out.mono ?_; rintro e w' ⟨rfl, hu⟩))
      go_ret
      exact ⟨rfl, hu⟩
    · have hd : decide (n < 0) = false := by simp; omega
      go_enter Try.func3, Try.ntmps3
      go_wp2_with (first | (go_at_call 11; refine H.out.mono ?_; rintro e w' ⟨rfl, rfl⟩) | (go_at_call 12; refine HL.out.mono ?_; rintro e w' ⟨rfl, hu⟩))
      go_ret
      exact ⟨rfl, hu⟩
  obtain ⟨n, rfl⟩ := Int.eq_ofNat_of_zero_le (show 0 ≤ n by omega)
  have hn : n ≤ 2048 := by omega
  have hd1 : decide ((n : Int) < 0) = false := by simp
  have hd2 : decide ((2048 : Int) < n) = false := by simp; omega
  clear hbad
  go_enter Try.func3, Try.ntmps3
  go_wp2_with fail
  refine (new_ok n hn).mono ?_
  rintro e w1 ⟨p, g, c, rfl, h1, u1, q1, q2⟩
  by_cases hfew : 200 < n ∨ 60 < zs.length
  · have H1 := Lib.hid h1
    have U1 := Lib.hid u1
    clear h1 u1
    rcases hfew with hf | hf
    · have hd3 : decide ((n : Int) ≤ 200) = false := by simp; omega
      go_wp2_with (first | (go_at_call 13; refine (few_at _).mono ?_; rintro e w' ⟨rfl, rfl⟩) | (go_at_call 14; refine (size_at H1.out).mono ?_; rintro e w' ⟨rfl, rfl⟩) | (go_at_call 12; refine lives_true.mono ?_; rintro e w' ⟨rfl, hu⟩))
      go_ret
      exact ⟨rfl, U1.out.then0 hu⟩
    · by_cases h200 : n ≤ 200
      · have hd3 : decide ((n : Int) ≤ 200) = true := by simp; omega
        go_wp2_with (first | (go_at_call 13; refine (few_at _).mono ?_; rintro e w' ⟨rfl, rfl⟩) | (go_at_call 14; refine (size_at H1.out).mono ?_; rintro e w' ⟨rfl, rfl⟩) | (go_at_call 12; refine lives_true.mono ?_; rintro e w' ⟨rfl, hu⟩))
        go_ret
        exact ⟨rfl, U1.out.then0 hu⟩
      · have hd3 : decide ((n : Int) ≤ 200) = false := by simp; omega
        go_wp2_with (first | (go_at_call 13; refine (few_at _).mono ?_; rintro e w' ⟨rfl, rfl⟩) | (go_at_call 14; refine (size_at H1.out).mono ?_; rintro e w' ⟨rfl, rfl⟩) | (go_at_call 12; refine lives_true.mono ?_; rintro e w' ⟨rfl, hu⟩))
        go_ret
        exact ⟨rfl, U1.out.then0 hu⟩
  · have hn200 : n ≤ 200 := by omega
    have hz60 : zs.length ≤ 60 := by omega
    have hd3 : decide ((n : Int) ≤ 200) = true := by simp; omega
    have hd4 : decide ((60 : Int) < zs.length) = false := by simp; omega
    clear hfew
    have hmk := make_run (P := Try.prog) 31 4 (.bool false) 1 Try.underlying31 info_bool rfl (n : Int) n rfl (by omega) (by omega)
    have hr0 : BRow (w1.alloc (.cells (madeCells #[.bool false] n) 4)) (.slice (some ⟨w1.heap.size, 0, none⟩) n n) (List.replicate n false) := by
      have := ownsRow_made w1 4 (.bool false) n (by omega)
      unfold BRow Row bools
      simpa [List.map_replicate] using this
    have H1 := Lib.hid (h1.upd0 ((Upd.refl noB w1).alloc (.cells (madeCells #[.bool false] n) 4)))
    have U1 := Lib.hid (u1.alloc (.cells (madeCells #[.bool false] n) 4))
    have R0 := Lib.hid hr0
    clear h1 u1 hr0
    go_wp2_with (go_at_call 13; refine (few_at _).mono ?_; rintro e w' ⟨rfl, rfl⟩)
    clear hmk
    go_loopw [7, 8, 9] (fun t i _ wr => PRel w n p g c zs.length t i wr) (fun _ i _ _ => zs.length - (intOf i).toNat)
    case atStart => exact ⟨0, List.replicate n false, rfl, Nat.zero_le _, by simp, H1.out, R0.out, U1.out⟩
    case round =>
      obtain ⟨k, S, rfl, hk, hSl, hS, hR, hU⟩ := hrel
      have HS := Lib.hid hS
      have HR := Lib.hid hR
      have HU := Lib.hid hU
      have HSL := Lib.hid hSl
      have hs1 : S.length ≤ 200 := by omega
      clear hS hR hU hSl
      by_cases hlt : k < zs.length
      · obtain ⟨b, o, rfl, hb, hc⟩ := HA.out (by omega)
        have hcell := HU.out.cell (hc k hlt) (fun x => x)
        have hzz := HZ.out (zs.getD k 0) (by rw [List.getD_eq_getElem?_getD, List.getElem?_eq_getElem hlt]; exact List.getElem_mem _)
        obtain ⟨z, hz⟩ : ∃ z, zs.getD k 0 = z := ⟨_, rfl⟩
        rw [hz] at hcell hzz
        obtain ⟨hz1, hz2⟩ := hzz
        clear hz hc
        by_cases hpos : 0 ≤ z
        · go_wp2_with fail
          refine (with_ref HR.out (by omega) z true).mono ?_
          rintro e w2 ⟨v', rfl, hr2, hu2⟩
          have hcell2 := hu2.cell hcell (fun x => x)
          have HS2 := Lib.hid (HS.out.upd0 hu2)
          have HR2 := Lib.hid hr2
          have HU2 := Lib.hid (HU.out.then0 hu2)
          clear hr2 hu2
          go_wp2_with fail
          refine (put_at HS2.out z).mono ?_
          rintro e w3 ⟨rfl, hs3, hu3⟩
          have HR3 := Lib.hid (BRow.past HR2.out HS2.out hu3)
          have HU3 := Lib.hid (HU2.out.trans hu3 (fun k e => by cases e; exact .inr q2))
          have HS3 := Lib.hid hs3
          clear hs3 hu3 hcell hcell2
          go_wp2
          go_roundw
          case rel => exact ⟨k + 1, putI S z true, by go_num, by omega, by rw [putI_length]; exact HSL.out, HS3.out, HR3.out, HU3.out⟩
          case measure => simp [intOf]; omega
        · have hd5 : decide (0 ≤ z) = false := by simpa using hpos
          go_wp2_with fail
          refine (with_ref HR.out (by omega) _ false).mono ?_
          rintro e w2 ⟨v', rfl, hr2, hu2⟩
          have hcell2 := hu2.cell hcell (fun x => x)
          have HS2 := Lib.hid (HS.out.upd0 hu2)
          have HR2 := Lib.hid hr2
          have HU2 := Lib.hid (HU.out.then0 hu2)
          clear hr2 hu2
          rw [in_tr]
          go_wp2_with fail
          refine (drop_at HS2.out _).mono ?_
          rintro e w3 ⟨rfl, hs3, hu3⟩
          have HR3 := Lib.hid (BRow.past HR2.out HS2.out hu3)
          have HU3 := Lib.hid (HU2.out.trans hu3 (fun k e => by cases e; exact .inr q2))
          have HS3 := Lib.hid hs3
          clear hs3 hu3 hcell hcell2
          go_wp2
          go_roundw
          case rel => exact ⟨k + 1, putI S _ false, by go_num, by omega, by rw [putI_length]; exact HSL.out, HS3.out, HR3.out, HU3.out⟩
          case measure => simp [intOf]; omega
      · go_wp2_with (first | (go_at_call 18; refine (alike_true HS.out HR.out hs1).mono ?_; rintro e w' ⟨rfl, hu4⟩) | (go_at_call 12; refine lives_true.mono ?_; rintro e w' ⟨rfl, hu⟩))
        go_ret
        exact ⟨rfl, (HU.out.then0 hu4).then0 hu⟩
end Go.Proofs.Ytejpcgoblgaieaa.BitsPlays
