/-
  What made of hibernaclelaw06 does: a set and a row of one list of numbers say the same.
-/
import Derived.Test.YtejpcgoblgaieaaLaw06
import Derived.Test.YtejpcgoblgaieaaLaw06b
set_option linter.unusedVariables false
set_option linter.unusedSimpArgs false
namespace Go.Proofs.Ytejpcgoblgaieaa.Law06
open Go.RowKit Go.Proofs.Ytejpcgoblgaieaa Go.Proofs.Ytejpcgoblgaieaa.Law Go.Proofs.Ytejpcgoblgaieaa.Ref06
section
variable {w : World}
/-- The loop. -/
def MRel (w : World) (n p g c len : Nat) (t i : Value) (wr : World) : Prop :=
  ∃ (k : Nat) (S : List Bool), i = .int .i64 (k : Int) ∧ k ≤ len ∧ S.length = n ∧ SetAt wr p g c S ∧ BRow wr t S ∧ Upd noB w wr
/-- What made gives. -/
def MadePost (w : World) (n : Nat) (e : Ending) (w' : World) : Prop :=
  ∃ (p g c : Nat) (v : Value) (S : List Bool), e = .returned (.tuple #[.pointer (some ⟨p, 0, none⟩), v]) ∧ S.length = n ∧ SetAt w' p g c S ∧ BRow w' v S ∧ Upd noB w w' ∧ w.heap.size ≤ p ∧ w.heap.size ≤ g

set_option maxRecDepth 100000 in
set_option maxHeartbeats 8000000 in
theorem made_at (n : Nat) (hn : n ≤ 200) (A : Option Addr) (cp : Nat) (zs : List Int) (hA : IntsIn w A zs) :
    Calls Try.prog 19 #[.int .i64 (n : Int), .slice A zs.length cp] w (MadePost w n) := by
  have HA := Lib.hid hA
  clear hA
  have hmk := make_run (P := Try.prog) 31 4 (.bool false) 1 Try.underlying31 info_bool rfl (n : Int) n rfl (by omega) (by omega)
  go_enter Try.func19, Try.ntmps19
  go_wp2_with (go_at_call 11; refine (new_ok n (by omega)).mono ?_; rintro e w1 ⟨p, g, c, rfl, h1, u1, q1, q2⟩)
  clear hmk
  have hr0 : BRow (w1.alloc (.cells (madeCells #[.bool false] n) 4)) (.slice (some ⟨w1.heap.size, 0, none⟩) n n) (List.replicate n false) := by
    have := ownsRow_made w1 4 (.bool false) n (by omega)
    unfold BRow Row bools
    simpa [List.map_replicate] using this
  have H1 := Lib.hid (h1.upd0 ((Upd.refl noB w1).alloc (.cells (madeCells #[.bool false] n) 4)))
  have U1 := Lib.hid (u1.alloc (.cells (madeCells #[.bool false] n) 4))
  have R0 := Lib.hid hr0
  clear h1 u1 hr0
  go_loopw [8, 9] (fun t i wr => MRel w n p g c zs.length t i wr) (fun _ i _ => zs.length - (intOf i).toNat)
  case atStart => exact ⟨0, List.replicate n false, rfl, Nat.zero_le _, by simp, H1.out, R0.out, U1.out⟩
  case round =>
    obtain ⟨k, S, rfl, hk, hSl, hS, hR, hU⟩ := hrel
    have HS := Lib.hid hS
    have HR := Lib.hid hR
    have HU := Lib.hid hU
    have HSL := Lib.hid hSl
    have hs1 : S.length ≤ 200 := by omega
    clear hS hR hU hSl
    by_cases hlt : k < zs.length
    · by_cases h100 : k < 100
      · obtain ⟨b, o, rfl, hb, hc⟩ := HA.out (by omega)
        have hcell := HU.out.cell (hc k hlt) (fun x => x)
        obtain ⟨z, hz⟩ : ∃ z, zs.getD k 0 = z := ⟨_, rfl⟩
        rw [hz] at hcell
        clear hz hc

        have hbg : ¬ oneB g b := by
          rintro rfl
          exact absurd q2 (by omega)
        have hd1 : decide ((k : Int) < zs.length) = true := by simp; omega
        have hd2 : decide ((k : Int) < 100) = true := by simp; omega
        go_wp2_with fail
        refine (put_at HS.out z).mono ?_
        rintro e w3 ⟨rfl, hs3, hu3⟩
        have hcell2 := hu3.cell hcell hbg
        have HR3 := Lib.hid (BRow.past HR.out HS.out hu3)
        have HU3 := Lib.hid (HU.out.trans hu3 (fun k e => by cases e; exact .inr q2))
        have HS3 := Lib.hid hs3
        clear hs3 hu3 hcell
        go_wp2_with fail
        refine (with_ref HR3.out (by omega) z true).mono ?_
        rintro e w2 ⟨v', rfl, hr2, hu2⟩
        have HS2 := Lib.hid (HS3.out.upd0 hu2)
        have HR2 := Lib.hid hr2
        have HU2 := Lib.hid (HU3.out.then0 hu2)
        clear hr2 hu2
        go_wp2
        go_roundw
        case rel => exact ⟨k + 1, putI S z true, by go_num, by omega, by rw [putI_length]; exact HSL.out, HS2.out, HR2.out, HU2.out⟩
        case measure => simp [intOf]; omega
      · have hd1 : decide ((k : Int) < zs.length) = true := by simp; omega
        have hd2 : decide ((k : Int) < 100) = false := by simp; omega
        go_wp2
        go_ret2
        exact ⟨p, g, c, _, S, rfl, HSL.out, HS.out, HR.out, HU.out, q1, q2⟩
    · have hd1 : decide ((k : Int) < zs.length) = false := by simp; omega
      go_wp2
      go_ret2
      exact ⟨p, g, c, _, S, rfl, HSL.out, HS.out, HR.out, HU.out, q1, q2⟩
end
end Go.Proofs.Ytejpcgoblgaieaa.Law06
