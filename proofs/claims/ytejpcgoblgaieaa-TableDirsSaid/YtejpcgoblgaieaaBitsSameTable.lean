/-
  Same, Of, Or, Less of package bits, at the kind hibernacle/table.Page of numbers.
-/
import Derived.Test.YtejpcgoblgaieaaBitsTable
import Derived.Test.YtejpcgoblgaieaaShEqual
set_option linter.unusedVariables false
set_option linter.unusedSimpArgs false
namespace Go.Proofs.Ytejpcgoblgaieaa.Table
open Go.RowKit Go.Proofs.Ytejpcgoblgaieaa
attribute [local go_sem] Oper.semAt_some
section
variable {p g c p' g' c' : Nat} {S S' : List Bool} {w : World}

theorem SetAt.bytesIn (h : SetAt w p g c S) : Lib.BytesIn w (some ⟨g, 0, none⟩) (need S.length) (bytesOf S) := by
  refine Lib.BytesIn.of_cells (fun i hi => ?_)
  rw [add0, h.byte i hi]; simp [bytesOf, List.getD_eq_getElem?_getD, List.getElem?_range hi]
theorem same_bytes (hl : S.length = S'.length) : (Lib.bytesOf (bytesOf S) == Lib.bytesOf (bytesOf S')) = decide (S = S') := by
  rw [Bool.eq_iff_iff, beq_iff_eq, decide_eq_true_eq]
  constructor
  · intro h; exact bytesOf_inj hl (libBytes_inj (bytesOf_range S) (bytesOf_range S') h)
  · intro h; rw [h]
set_option maxHeartbeats 1000000 in
/-- **Same.** -/
theorem same_at (h : SetAt w p g c S) (h' : SetAt w p' g' c' S') :
    Calls Try.prog 50 #[.pointer (some ⟨p, 0, none⟩), .pointer (some ⟨p', 0, none⟩)] w fun e w' => e = .returned (.bool (decide (S = S'))) ∧ ∃ n, w' = w.drewN n := by
  by_cases hl : S.length = S'.length
  · have hd : ((S.length : Int) == S'.length) = true := by simp; omega
    have a0 := h.cell0
    have a1 := h'.cell0
    have b0 := h.cell1
    have b1 := h'.cell1
    have HE := Lib.hid (fun n => bytes_Equal_all (some ⟨g, 0, none⟩) (some ⟨g', 0, none⟩) (need S.length) c (need S'.length) c' (bytesOf S) (bytesOf S') (w.drewN n) (bytesOf_length S) (bytesOf_length S') (h.upd0 ((Upd.refl _ w).drewN n)).bytesIn (h'.upd0 ((Upd.refl _ w).drewN n)).bytesIn)
    have HS := Lib.hid (same_bytes hl)
    clear h h' hl
    go_enter Try.func50, Try.ntmps50
    go_wp2_with fail
    go_quiet ((go_at_call 65; exact Calls.quiet_of_same (HE.out _)))
    go_wp2
    go_ret
    exact ⟨ret_bool HS.out, _, rfl⟩
  · have hd : ((S.length : Int) == S'.length) = false := by simp; omega
    have a0 := h.cell0
    have a1 := h'.cell0
    clear h h'
    go_enter Try.func50, Try.ntmps50
    go_wp2_with fail
    go_quiet (fail)
    go_wp2
    go_ret
    exact ⟨ret_bool (by simp; intro e; exact hl (congrArg _ e)), _, rfl⟩
theorem eql_nil (v : Option Addr) (W : World) : (binOp .eql 80 (.pointer v) (.pointer none)).run Try.prog W = .ok (.bool v.isNone) W := by
  exact run_eql_pointer_nil W _ v (by kernel_rfl)
theorem eql_nil_l (a : Addr) (W : World) : (binOp .eql 80 (.pointer none) (.pointer (some a))).run Try.prog W = .ok (.bool false) W := by
  exact run_eql_nil_ptr W (some a) Try.underlying80
theorem same_nils : Calls Try.prog 50 #[.pointer none, .pointer none] w fun e w' => e = .returned (.bool true) ∧ w = w' := by
  have he := eql_nil none
  go_enter Try.func50, Try.ntmps50
  go_wp2
  clear he
  go_ret
  exact ⟨rfl, rfl⟩
theorem same_nil_l : Calls Try.prog 50 #[.pointer none, .pointer (some ⟨p, 0, none⟩)] w fun e w' => e = .returned (.bool false) ∧ w = w' := by
  have he := eql_nil_l ⟨p, 0, none⟩
  go_enter Try.func50, Try.ntmps50
  go_wp2
  clear he
  go_ret
  exact ⟨rfl, rfl⟩
theorem same_nil_r : Calls Try.prog 50 #[.pointer (some ⟨p, 0, none⟩), .pointer none] w fun e w' => e = .returned (.bool false) ∧ w = w' := by
  have he := eql_nil (some ⟨p, 0, none⟩)
  go_enter Try.func50, Try.ntmps50
  go_wp2
  clear he
  go_ret
  exact ⟨rfl, rfl⟩
/-- What Of hands back where the size is one. -/
def OfPost (w : World) (n : Nat) (xs : List Int) (e : Ending) (w' : World) : Prop :=
  Upd noB w w' ∧ ((xs.length > need n ∧ e = .returned (.tuple #[.pointer none, .int .i64 2])) ∨ (xs.length < need n ∧ e = .returned (.tuple #[.pointer none, .int .i64 3])) ∨
    (xs.length = need n ∧ stray n xs = true ∧ e = .returned (.tuple #[.pointer none, .int .i64 4])) ∨
    (xs.length = need n ∧ stray n xs = false ∧ ∃ p g c, e = .returned (.tuple #[.pointer (some ⟨p, 0, none⟩), .int .i64 0]) ∧ SetAt w' p g c (truths n xs) ∧ w.heap.size ≤ p ∧ w.heap.size ≤ g))
theorem of_bad (n : Int) (hn : n < 0 ∨ 2048 < n) (v : Value) :
    Calls Try.prog 77 #[.int .i64 n, v] w fun e w' => e = .returned (.tuple #[.pointer none, .int .i64 1]) ∧ w = w' := by
  have H := Lib.hid (new_bad (w := w) n hn)
  clear hn
  go_enter Try.func77, Try.ntmps77
  go_wp2_with (go_at_call 43; refine H.out.mono ?_; rintro e w' ⟨rfl, rfl⟩)
  go_ret2
  exact ⟨rfl, rfl⟩
theorem size_u8 : (Try.prog.info? 5).map (·.size) = some 1 := by kernel_rfl
set_option maxHeartbeats 4000000 in
/-- **Of**, of a size that may be. -/
theorem of_at (n : Nat) (hn : n ≤ 2048) (A : Option Addr) (cp : Nat) (xs : List Int) (hm : xs.length ≤ 140737488355328) (hr : ∀ x ∈ xs, 0 ≤ x ∧ x < 256) (hb : Lib.BytesIn w A xs.length xs) :
    Calls Try.prog 77 #[.int .i64 n, .slice A xs.length cp] w (OfPost w n xs) := by
  have H := Lib.hid (new_ok (w := w) n hn)
  have hnd : need n ≤ 257 := by unfold need; omega
  by_cases h1 : need n < xs.length
  · have HO := Lib.hid hb
    clear hb
    go_enter Try.func77, Try.ntmps77
    go_wp2_with fail
    refine H.out.mono ?_
    rintro e w' ⟨p, g, c, rfl, hs, hu, hp, hg⟩
    have hc1 := hs.cell1
    simp only [List.length_replicate] at hc1
    go_wp2
    go_ret2
    exact ⟨hu, .inl ⟨h1, rfl⟩⟩
  by_cases h2 : xs.length < need n
  · have HO := Lib.hid hb
    clear hb
    go_enter Try.func77, Try.ntmps77
    go_wp2_with fail
    refine H.out.mono ?_
    rintro e w' ⟨p, g, c, rfl, hs, hu, hp, hg⟩
    have hc1 := hs.cell1
    simp only [List.length_replicate] at hc1
    have hd : decide (need n < xs.length) = false := by simp; omega
    go_wp2
    go_ret2
    exact ⟨hu, .inr (.inl ⟨h2, rfl⟩)⟩
  have hl : xs.length = need n := by omega
  have HO := Lib.hid hb
  have HL := Lib.hid hl
  have HR := Lib.hid hr
  clear hb hr
  have hd : decide (need n < xs.length) = false := by simp; omega
  have hd2 : decide (xs.length < need n) = false := by simp; omega
  have hl256 : xs.length ≤ 257 := by omega
  clear h1 h2 hl hm
  go_enter Try.func77, Try.ntmps77
  go_wp2_with fail
  refine H.out.mono ?_
  rintro e w1 ⟨p, g, c, rfl, hs, hu, hp, hg⟩
  have hc1 := hs.cell1
  have hrow := hs.row
  simp only [List.length_replicate] at hc1 hrow
  obtain ⟨hrl, hrr⟩ := hrow
  rcases hrr with ⟨q, _⟩ | ⟨g0, cap0, cur, q, _, hcur, hcap, hcm, hcs, htk⟩
  · cases q
  injection q with q0 q1 q2
  injection q0 with q0
  injection q0 with q0
  subst q0 q2
  have HP := Lib.hid hs
  have hpg := hs.ne
  have HC := Lib.hid hcur
  have HS := Lib.hid hcs
  have HT := Lib.hid htk
  have HU := Lib.hid hu
  clear hs hcur hcs htk hu hrl q1
  go_wp2_with ((with_reducible refine wpList_copy_upd rfl (.tmp 39) (.tmp 40) 48 48 rfl 5 Try.underlying48 size_u8 (some ⟨g, 0, none⟩) A (need n) c xs.length cp rfl rfl g 0 cur.toList 5 ?c1 (xs.map (Value.int .u8)) ?c2 ?c3 ?c4 ?c5 ?_))
  case c1 => simpa using HC.out
  case c2 => have := HL.out; simp [this]
  case c3 =>
    intro h0
    obtain ⟨b, o, rfl, hc⟩ := HO.out (by simpa using h0)
    refine ⟨_, rfl, fun j v hv => ?_⟩
    have hj : j < xs.length := by have := (List.getElem?_eq_some_iff.1 hv).1; simpa using this
    have := HU.out.cell (hc j hj) (fun x => x)
    have e : (⟨b, o, none⟩ : Addr).add j = ⟨b, o + j, none⟩ := by unfold Addr.add; split <;> simp_all
    rw [e, this]
    simp [List.getElem?_eq_getElem hj] at hv
    rw [← hv]; simp [List.getD_eq_getElem?_getD, List.getElem?_eq_getElem hj]
  case c4 => have h1 := HS.out; have h2 := HL.out; simp; omega
  case c5 => intro v hv; obtain ⟨q, _, rfl⟩ := List.mem_map.1 hv; rfl
  intro w2 hB2 hu2
  have hc2 : w2.cell? ⟨p, 1, none⟩ = some (.slice (some ⟨g, 0, none⟩) (need n) c) := hu2.cell hc1 hpg
  have HU2 := Lib.hid (HU.out.from0 hu2 (fun k e => by cases e; exact hg))
  have HP2 := Lib.hid (hu2.at HP.out.hp hpg)
  clear hc1
  have hn8 : n ≤ 8 * xs.length := by have := HL.out; unfold need at this; omega
  go_wp2
  go_loop [8] (fun t => ∃ k : Nat, t = .int .i64 k ∧ n ≤ k ∧ k ≤ 8 * xs.length ∧ Hid (∀ i, n ≤ i → i < k → bitOf xs i = false)) (fun t => 8 * xs.length - (intOf t).toNat)
  case atStart => exact ⟨n, rfl, Nat.le_refl _, hn8, fun i h1 h2 => by omega⟩
  case round =>
    obtain ⟨k, rfl, hk1, hk2, hk3⟩ := hrel
    by_cases hlt : k < 8 * xs.length
    · obtain ⟨b, o, rfl, hc⟩ := HO.out (by omega)
      have hx := HR.out (xs.getD (k / 8) 0) (by rw [List.getD_eq_getElem?_getD, List.getElem?_eq_getElem (show k / 8 < xs.length by omega)]; exact List.getElem_mem _)
      obtain ⟨x, hx2⟩ : ∃ x : Nat, xs.getD (k / 8) 0 = (x : Int) := ⟨(xs.getD (k / 8) 0).toNat, by omega⟩
      have hcell : w2.cell? ⟨b, o + k / 8, none⟩ = some (.int .u8 (x : Int)) := by
        rw [← hx2]; exact HU2.out.cell (hc (k / 8) (by omega)) (fun x => x)
      have h8 : k / 8 < xs.length := by omega
      have hbit : (bits .and .u8 ((x : Int) / 2 ^ (k % 8)) 1 == 1) = bitOf xs k := by
        rw [bits_bit x (by omega)]; unfold bitOf; rw [hx2]; rfl
      clear hx hx2 hc
      cases hv : bitOf xs k with
      | true =>
        rw [hv] at hbit
        have HV := Lib.hid hv
        clear hv
        go_wp2
        go_ret2
        exact ⟨HU2.out, .inr (.inr (.inl ⟨HL.out, stray_of hk1 hlt HV.out, rfl⟩))⟩
      | false =>
        rw [hv] at hbit
        have HV := Lib.hid hv
        clear hv
        go_wp2
        go_round
        case rel =>
          refine ⟨k + 1, by go_num, by omega, by omega, fun i h1 h2 => ?_⟩
          by_cases e : i = k
          · rw [e]; exact HV.out
          · exact hk3.out i h1 (by omega)
        case measure => simp [intOf]; omega
    · go_wp2
      go_ret2
      have hstr : stray n xs = false := stray_none (fun i h1 h2 => hk3.out i h1 (by omega))
      refine ⟨HU2.out, .inr (.inr (.inr ⟨HL.out, hstr, p, g, c, rfl, ⟨?_, ?_, ?_⟩, hp, hg⟩))⟩
      · have := HP2.out
        rw [truths_length]
        simpa using this
      · rw [truths_length, bytesOf_truths HL.out HR.out hstr]
        refine ⟨by simpa using HL.out, .inr ⟨g, c, _, rfl, Nat.zero_le _, hB2.out, hcap, hcm, ?_, ?_⟩⟩
        · have h1 := HS.out; have h2 := HL.out; simp [splice]; omega
        · have h2 := HL.out
          simp only [splice, List.take_zero, List.nil_append, Nat.mul_one]
          rw [← h2, List.take_append_of_le_length (by simp), List.take_of_length_le (by simp)]
      · rw [truths_length]; exact hn
end
end Go.Proofs.Ytejpcgoblgaieaa.Table
