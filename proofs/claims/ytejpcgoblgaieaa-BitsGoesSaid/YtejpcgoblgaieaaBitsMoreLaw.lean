/-
  Drop, Next and Gap of package bits, at the kind hibernacle/hibernaclelaw06.Page of numbers.
-/
import Derived.Test.YtejpcgoblgaieaaBitsLaw
set_option linter.unusedVariables false
set_option linter.unusedSimpArgs false
namespace Go.Proofs.Ytejpcgoblgaieaa.Law
open Go.RowKit Go.Proofs.Ytejpcgoblgaieaa
section
variable {p g c : Nat} {S : List Bool} {w : World}

set_option maxHeartbeats 1000000 in
/-- Drop of a number that is in. -/
theorem drop_in (h : SetAt w p g c S) (i : Nat) (hi : i < S.length) (hx : tr S i = true) :
    Calls Try.prog 17 #[.pointer (some ⟨p, 0, none⟩), .int .i64 i] w fun e w' => e = .returned (.bool true) ∧ SetAt w' p g c (S.set i false) ∧ Upd (oneB g) w w' := by
  have H2 := Lib.hid ((has_in h i hi).mono (R' := fun e w' => e = .returned (.bool true) ∧ w = w') (fun e w' hh => ⟨by rw [hh.1, hx], hh.2⟩))
  have h1 := h.cell1
  have hb := h.byte (i / 8) (by unfold need; omega)
  have hf := h.free (i / 8)
  have hs := h.small
  have H3 := Lib.hid h
  clear h hx
  have h8 : i / 8 < need S.length := by unfold need; omega
  go_enter Try.func17, Try.ntmps17
  go_wp2_with (go_at_call 22; refine H2.out.mono ?_; rintro e w' ⟨rfl, rfl⟩)
  go_region
  go_wp2
  go_ret
  refine ⟨rfl, ?_, ?_⟩
  · have := H3.out.store i false hi
    rw [bits_drop' S i hi]
    exact this.upd0 ((Upd.refl _ _).drew)
  · refine Upd.drew (Upd.setCell (Upd.refl _ _) ?_ _); exact .inl rfl
theorem drop_no (h : SetAt w p g c S) (i : Int) (hi : trI S i = false) :
    Calls Try.prog 17 #[.pointer (some ⟨p, 0, none⟩), .int .i64 i] w fun e w' => e = .returned (.bool false) ∧ w = w' := by
  have H2 := Lib.hid ((has_at h i).mono (R' := fun e w' => e = .returned (.bool false) ∧ w = w') (fun e w' hh => ⟨by rw [hh.1, hi], hh.2⟩))
  clear h hi
  go_enter Try.func17, Try.ntmps17
  go_wp2_with (go_at_call 22; refine H2.out.mono ?_; rintro e w' ⟨rfl, rfl⟩)
  go_ret
  exact ⟨rfl, rfl⟩
theorem drop_nil (i : Int) :
    Calls Try.prog 17 #[.pointer none, .int .i64 i] w fun e w' => e = .returned (.bool false) ∧ w = w' := by
  go_enter Try.func17, Try.ntmps17
  go_wp2_with (go_at_call 22; refine (has_nil i).mono ?_; rintro e w' ⟨rfl, rfl⟩)
  go_ret
  exact ⟨rfl, rfl⟩
/-- **Drop.** -/
theorem drop_at (h : SetAt w p g c S) (i : Int) :
    Calls Try.prog 17 #[.pointer (some ⟨p, 0, none⟩), .int .i64 i] w fun e w' => e = .returned (.bool (trI S i)) ∧ SetAt w' p g c (putI S i false) ∧ Upd (oneB g) w w' := by
  rcases int_cases S i with hi | ⟨n, rfl, hn⟩
  · refine (drop_no h i (trI_out S i hi)).mono fun e w' ⟨h1, h2⟩ => ?_
    subst h2
    exact ⟨by rw [h1, trI_out S i hi], by rw [putI_out S i _ hi]; exact h, Upd.refl _ _⟩
  · rw [trI_nat, putI_nat S n _ hn]
    cases hx : tr S n with
    | true => exact drop_in h n hn hx
    | false =>
      refine (drop_no h n (by rw [trI_nat]; exact hx)).mono fun e w' ⟨h1, h2⟩ => ?_
      subst h2
      exact ⟨h1, by rw [set_tr_self S n false hx hn]; exact h, Upd.refl _ _⟩

set_option maxHeartbeats 1000000 in
/-- find: from i on (an i below 0 is as 0). -/
theorem find_at (h : SetAt w p g c S) (i : Int) (x : Bool) :
    Calls Try.prog 78 #[.pointer (some ⟨p, 0, none⟩), .int .i64 i, .bool x] w fun e w' => e = .returned (.int .i64 (findFrom S i.toNat x)) ∧ w = w' := by
  have hs := h.small
  have Hh := Lib.hid h
  clear h
  go_enter Try.func78, Try.ntmps78
  go_wp2
  go_loop [1] (fun t => ∃ k : Nat, t = .int .i64 k ∧ Hid (findFrom S k x = findFrom S i.toNat x)) (fun t => S.length - (intOf t).toNat)
  case atStart => exact ⟨i.toNat, by rw [show max i 0 = (i.toNat : Int) by omega], rfl⟩
  case round =>
    obtain ⟨k, rfl, hk⟩ := hrel
    by_cases hlt : k < S.length
    · have Hs := Lib.hid (size_at Hh.out)
      have Hg := Lib.hid (has_in Hh.out k hlt)
      by_cases hx : tr S k = x
      · have hfin : findFrom S k x = k := findFrom_hit S k x hlt hx
        have HF := Lib.hid (hk.out.symm.trans hfin)
        clear hk hfin
        have hb : (tr S k == x) = true := by simp [hx]
        clear hx
        go_wp2_with (first | (go_at_call 14; refine Hs.out.mono ?_; rintro e w' ⟨rfl, rfl⟩) | (go_at_call 22; refine Hg.out.mono ?_; rintro e w' ⟨rfl, rfl⟩))
        go_ret
        exact ⟨ret_int HF.out.symm, rfl⟩
      · have hfin : findFrom S k x = findFrom S (k + 1) x := findFrom_miss S k x hlt hx
        have HF := Lib.hid (hfin.symm.trans hk.out)
        clear hk hfin
        have hb : (tr S k == x) = false := by simp [hx]
        clear hx
        go_wp2_with (first | (go_at_call 14; refine Hs.out.mono ?_; rintro e w' ⟨rfl, rfl⟩) | (go_at_call 22; refine Hg.out.mono ?_; rintro e w' ⟨rfl, rfl⟩))
        go_round
        case rel => exact ⟨k + 1, by go_num, HF.out⟩
        case measure => simp [intOf]; omega
    · have Hs := Lib.hid (size_at Hh.out)
      have HF := Lib.hid (hk.out.symm.trans (findFrom_out S k x (by omega)))
      clear hk
      go_wp2_with (go_at_call 14; refine Hs.out.mono ?_; rintro e w' ⟨rfl, rfl⟩)
      go_ret
      exact ⟨ret_int HF.out.symm, rfl⟩
set_option maxHeartbeats 1000000 in
theorem find_nil (i : Int) (x : Bool) :
    Calls Try.prog 78 #[.pointer none, .int .i64 i, .bool x] w fun e w' => e = .returned (.int .i64 (-1)) ∧ w = w' := by
  go_enter Try.func78, Try.ntmps78
  go_wp2
  go_loop [1] (fun t => ∃ k : Nat, t = .int .i64 k) (fun t => 0)
  case atStart => exact ⟨i.toNat, by rw [show max i 0 = (i.toNat : Int) by omega]⟩
  case round =>
    obtain ⟨k, rfl⟩ := hrel
    have hd : decide ((k : Int) < 0) = false := by simp
    go_wp2_with (go_at_call 14; refine size_nil.mono ?_; rintro e w' ⟨rfl, rfl⟩)
    go_ret
    exact ⟨rfl, rfl⟩
theorem next_at (h : SetAt w p g c S) (i : Int) :
    Calls Try.prog 54 #[.pointer (some ⟨p, 0, none⟩), .int .i64 i] w fun e w' => e = .returned (.int .i64 (findFrom S i.toNat true)) ∧ w = w' := by
  have H := Lib.hid (find_at h i true)
  clear h
  go_enter Try.func54, Try.ntmps54
  go_wp2_with (go_at_call 78; refine H.out.mono ?_; rintro e w' ⟨rfl, rfl⟩)
  go_ret
  exact ⟨rfl, rfl⟩
theorem next_nil (i : Int) :
    Calls Try.prog 54 #[.pointer none, .int .i64 i] w fun e w' => e = .returned (.int .i64 (-1)) ∧ w = w' := by
  go_enter Try.func54, Try.ntmps54
  go_wp2_with (go_at_call 78; refine (find_nil i true).mono ?_; rintro e w' ⟨rfl, rfl⟩)
  go_ret
  exact ⟨rfl, rfl⟩
theorem gap_at (h : SetAt w p g c S) (i : Int) :
    Calls Try.prog 56 #[.pointer (some ⟨p, 0, none⟩), .int .i64 i] w fun e w' => e = .returned (.int .i64 (findFrom S i.toNat false)) ∧ w = w' := by
  have H := Lib.hid (find_at h i false)
  clear h
  go_enter Try.func56, Try.ntmps56
  go_wp2_with (go_at_call 78; refine H.out.mono ?_; rintro e w' ⟨rfl, rfl⟩)
  go_ret
  exact ⟨rfl, rfl⟩
theorem gap_nil (i : Int) :
    Calls Try.prog 56 #[.pointer none, .int .i64 i] w fun e w' => e = .returned (.int .i64 (-1)) ∧ w = w' := by
  go_enter Try.func56, Try.ntmps56
  go_wp2_with (go_at_call 78; refine (find_nil i false).mono ?_; rintro e w' ⟨rfl, rfl⟩)
  go_ret
  exact ⟨rfl, rfl⟩

end
end Go.Proofs.Ytejpcgoblgaieaa.Law
