/-
  What hibernacleref06.Of does: walked once.
-/
import Derived.Test.YtejpcgoblgaieaaRef06
import Derived.Shelf.Bytes.SlSmallAll
set_option linter.unusedVariables false
set_option linter.unusedSimpArgs false
namespace Go.Proofs.Ytejpcgoblgaieaa.Ref06
open Go.RowKit Go.Proofs.Ytejpcgoblgaieaa
section
variable {w : World}
/-- What Of hands back where the size is one. -/
def OfPost (w : World) (n : Nat) (xs : List Int) (e : Ending) (w' : World) : Prop :=
  Upd noB w w' ∧ ((xs.length > need n ∧ e = .returned (.tuple #[.slice none 0 0, .int .i64 2])) ∨ (xs.length < need n ∧ e = .returned (.tuple #[.slice none 0 0, .int .i64 3])) ∨
    (xs.length = need n ∧ stray n xs = true ∧ e = .returned (.tuple #[.slice none 0 0, .int .i64 4])) ∨
    (xs.length = need n ∧ stray n xs = false ∧ ∃ v, e = .returned (.tuple #[v, .int .i64 0]) ∧ BRow w' v (truths n xs)))
theorem of_bad (n : Int) (hn : n < 0 ∨ 2048 < n) (v : Value) :
    Calls Try.prog 24 #[.int .i64 n, v] w fun e w' => e = .returned (.tuple #[.slice none 0 0, .int .i64 1]) ∧ w = w' := by
  rcases hn with hn | hn
  · go_enter Try.func24, Try.ntmps24
    go_wp2
    go_ret2
    exact ⟨rfl, rfl⟩
  · have h0 : decide (n < 0) = false := by simp; omega
    go_enter Try.func24, Try.ntmps24
    go_wp2
    go_ret2
    exact ⟨rfl, rfl⟩
/-- The outer loop. -/
def OfRel (w : World) (n : Nat) (xs : List Int) (t i : Value) (wr : World) : Prop :=
  ∃ k : Nat, i = .int .i64 (k : Int) ∧ k ≤ 8 * xs.length ∧ BRow wr t ((truths n xs).take k) ∧ Upd noB w wr ∧ (∀ b, t.ownBlock = some b → w.heap.size ≤ b) ∧ ∀ j, n ≤ j → j < k → bitOf xs j = false
/-- The inner loop. -/
def ShRel (x m : Nat) (c k : Value) : Prop := ∃ C q : Nat, c = .int .i64 (C : Int) ∧ k = .int .i64 (q : Int) ∧ q ≤ m ∧ C ≤ 256 ∧ Hid (C = x / 2 ^ q)
theorem truths_take_succ (n : Nat) (xs : List Int) (k : Nat) (h : k < n) : (truths n xs).take (k + 1) = (truths n xs).take k ++ [bitOf xs k] := by
  have h2 : k < (truths n xs).length := by rw [truths_length]; exact h
  rw [List.take_succ_eq_append_getElem h2, tr_get _ _ h2, tr_truths n xs k h]
set_option maxHeartbeats 8000000 in
/-- **Of**, of a size that may be. -/
theorem of_ref (n : Nat) (hn : n ≤ 2048) (A : Option Addr) (cp : Nat) (xs : List Int) (hm : xs.length ≤ 140737488355328) (hr : ∀ x ∈ xs, 0 ≤ x ∧ x < 256) (hb : Lib.BytesIn w A xs.length xs) :
    Calls Try.prog 24 #[.int .i64 n, .slice A xs.length cp] w (OfPost w n xs) := by
  have h0 : decide ((n : Int) < 0) = false := by simp
  have h00 : decide ((2048 : Int) < n) = false := by simp; omega
  have e1 : (((n : Int) + 7) / 8) = (need n : Int) := by unfold need; omega
  have hnd : need n ≤ 257 := by unfold need; omega
  have HO := Lib.hid hb
  have HX := Lib.hid hr
  clear hb hr
  by_cases h1 : need n < xs.length
  · go_enter Try.func24, Try.ntmps24
    go_wp2
    go_ret2
    exact ⟨Upd.refl _ _, .inl ⟨h1, rfl⟩⟩
  have hd1 : decide (need n < xs.length) = false := by simp; omega
  by_cases h2 : xs.length < need n
  · go_enter Try.func24, Try.ntmps24
    go_wp2
    go_ret2
    exact ⟨Upd.refl _ _, .inr (.inl ⟨h2, rfl⟩)⟩
  have hd2 : decide (xs.length < need n) = false := by simp; omega
  have hl : xs.length = need n := by omega
  have HL := Lib.hid hl
  have hl257 : xs.length ≤ 257 := by omega
  clear h1 h2 hl
  go_enter Try.func24, Try.ntmps24
  go_wp2
  have e2 : (((n : Int) + 7) / 8) = (xs.length : Int) := by have := HL.out; omega
  rw [e2]
  clear hd1 hd2 e1 e2 h0 h00
  go_loopw [7, 8, 9, 10] (fun t i _ _ wr => OfRel w n xs t i wr) (fun _ i _ _ _ => 8 * xs.length - (intOf i).toNat)
  case atStart => exact ⟨0, rfl, Nat.zero_le _, Row.nil _ _, Upd.refl _ _, fun b hb => by simp [Value.ownBlock] at hb, fun j h1 h2 => by omega⟩
  case round =>
    obtain ⟨k, rfl, hk, hrow, hu, hfr, hst⟩ := hrel
    have HR := Lib.hid hrow
    have HU := Lib.hid hu
    have HF := Lib.hid hfr
    have HS := Lib.hid hst
    clear hrow hfr hst
    by_cases hlt : k < 8 * xs.length
    · obtain ⟨b, o, rfl, hc⟩ := HO.out (by omega)
      have hx := HX.out (xs.getD (k / 8) 0) (by rw [List.getD_eq_getElem?_getD, List.getElem?_eq_getElem (show k / 8 < xs.length by omega)]; exact List.getElem_mem _)
      obtain ⟨x, hx2⟩ : ∃ x : Nat, xs.getD (k / 8) 0 = (x : Int) := ⟨(xs.getD (k / 8) 0).toNat, by omega⟩
      have hcell : wr.cell? ⟨b, o + k / 8, none⟩ = some (.int .u8 (x : Int)) := by
        rw [← hx2]; exact hu.cell (hc (k / 8) (by omega)) (fun x => x)
      have h8 : k / 8 < xs.length := by omega
      have hx3 : x < 256 := by omega
      have hbit : bitOf xs k = decide (x / 2 ^ (k % 8) % 2 = 1) := by
        unfold bitOf; rw [hx2, show (x : Int).toNat = x from rfl, Nat.and_one_is_mod]; rw [Bool.eq_iff_iff]; simp
      have HB := Lib.hid hbit
      clear hx hx2 hc hu hbit
      go_wp2
      go_loop [9, 10] (fun c q => ShRel x (k % 8) c q) (fun _ q => 8 - (intOf q).toNat)
      case atStart => exact ⟨x, 0, rfl, rfl, Nat.zero_le _, by omega, by simp [Hid]⟩
      case round =>
        obtain ⟨C, q, rfl, rfl, hq, hC, hcq⟩ := hrel
        by_cases hq2 : q < k % 8
        · have hC2 : C / 2 ≤ 256 := by omega
          have HN : Hid (C / 2 = x / 2 ^ (q + 1)) := by show _ = _; rw [hcq.out, Nat.pow_succ, Nat.div_div_eq_div_mul]
          go_wp2
          go_round
          case rel => exact ⟨C / 2, q + 1, by go_num, by go_num, by omega, hC2, HN⟩
          case measure => simp [intOf]; omega
        · have hqe : q = k % 8 := by omega
          have hval : decide (C % 2 = 1) = bitOf xs k := by rw [HB.out, hcq.out, hqe]
          have HV := Lib.hid hval
          clear hval hqe
          by_cases hkn : k < n
          · have hrl : (bools ((truths n xs).take k)).length ≤ 1000000 := by rw [bools_length, List.length_take, truths_length]; omega
            go_wp2_with (at_builtin; refine append_one rfl (.tmp 51) (.tmp 55) 31 4 (.bool false) 1 rfl Try.underlying31 info_bool rfl _ (bools ((truths n xs).take k)) _ rfl rfl rfl HR.out (by omega) (by omega) ?_)
            intro v1 w1 hr1 hu1 hat
            have hfr1 : ∀ b, v1.ownBlock = some b → w.heap.size ≤ b := by
              intro b hb
              rcases hat with hat | ⟨q, hat, hq⟩
              · exact HF.out b (hat ▸ hb)
              · rw [hat] at hb; injection hb with hb; have := HU.out.size; omega
            have HF1 := Lib.hid hfr1
            have HR1 := Lib.hid hr1
            have HU1 := Lib.hid (HU.out.trans hu1 (fun k e => .inr (HF.out k e)))
            clear hfr1 hr1 hu1 hat
            go_wp2
            go_roundw
            case rel =>
              refine ⟨k + 1, by go_num, by omega, ?_, HU1.out, HF1.out, fun j h1 h2 => by omega⟩
              rw [truths_take_succ n xs k hkn]
              have := HR1.out
              have e : ((C : Int) % 2 == 1) = decide (C % 2 = 1) := by rw [Bool.eq_iff_iff, beq_iff_eq, decide_eq_true_eq]; omega
              rw [e, HV.out] at this
              simpa [BRow, bools] using this
            case measure => simp [intOf]; omega
          · cases hbv : bitOf xs k with
            | true =>
              have hb1 : ((C : Int) % 2 == 1) = true := by have := HV.out; rw [hbv] at this; simp at this; simp; omega
              have HBV := Lib.hid hbv
              clear hbv
              go_wp2
              go_ret2
              exact ⟨HU.out, .inr (.inr (.inl ⟨HL.out, stray_of (by omega) hlt HBV.out, rfl⟩))⟩
            | false =>
              have hb1 : ((C : Int) % 2 == 1) = false := by have := HV.out; rw [hbv] at this; simp at this; simp; omega
              have HBV := Lib.hid hbv
              clear hbv
              go_wp2
              go_roundw
              case rel =>
                refine ⟨k + 1, by go_num, by omega, ?_, HU.out, HF.out, fun j h1 h2 => ?_⟩
                · have := HR.out
                  rw [List.take_of_length_le (by rw [truths_length]; omega)] at this ⊢
                  exact this
                · by_cases e : j = k
                  · rw [e]; exact HBV.out
                  · exact HS.out j h1 (by omega)
              case measure => simp [intOf]; omega
    · have hstr : stray n xs = false := stray_none (fun i h1 h2 => HS.out i h1 (by omega))
      have HST := Lib.hid hstr
      clear hstr
      go_wp2
      go_ret2
      refine ⟨HU.out, .inr (.inr (.inr ⟨HL.out, HST.out, _, rfl, ?_⟩))⟩
      have := HR.out
      rwa [List.take_of_length_le (by have := HL.out; rw [truths_length]; unfold need at this; omega)] at this
end
end Go.Proofs.Ytejpcgoblgaieaa.Ref06
