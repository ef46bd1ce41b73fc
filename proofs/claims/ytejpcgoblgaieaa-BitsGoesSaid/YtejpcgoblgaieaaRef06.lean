/-
  What the functions of hibernacleref06 do: each walked once.
-/
import Derived.Test.YtejpcgoblgaieaaProg
import Derived.Test.YtejpcgoblgaieaaSlices
import Derived.Test.YtejpcgoblgaieaaBitsPlain
import Derived.BigQuiet
import Derived.Deep.QuietTactic
set_option linter.unusedVariables false
set_option linter.unusedSimpArgs false
namespace Go.Proofs.Ytejpcgoblgaieaa.Ref06
open Go.RowKit Go.Proofs.Ytejpcgoblgaieaa

def bools (S : List Bool) : List Value := S.map Value.bool
theorem bools_length (S : List Bool) : (bools S).length = S.length := by simp [bools]
theorem bools_one (S : List Bool) : ∀ u ∈ bools S, u.oneCell' = true := by
  intro u hu; obtain ⟨b, _, rfl⟩ := List.mem_map.1 hu; rfl
/-- A row of truths in memory. -/
def BRow (w : World) (v : Value) (S : List Bool) : Prop := Row w 4 v (bools S)
theorem BRow.form {w : World} {v : Value} {S : List Bool} (h : BRow w v S) :
    ∃ A c, v = .slice A S.length c ∧ S.length ≤ c ∧ c ≤ maxLen ∧ (0 < c → ∃ g, A = some ⟨g, 0, none⟩ ∧ g < w.heap.size ∧ (∀ j, w.frozen? ⟨g, j, none⟩ = false) ∧ ∀ j, j < S.length → w.cell? ⟨g, j, none⟩ = some (.bool (tr S j))) := by
  obtain ⟨A, c, h1, h2, h3, h4⟩ := Row.form h
  rw [bools_length] at h1 h2
  refine ⟨A, c, h1, h2, h3, fun hc => ?_⟩
  obtain ⟨g, e1, e2, e3, e4⟩ := h4 hc
  refine ⟨g, e1, e2, e3, fun j hj => ?_⟩
  rw [e4 j (by rw [bools_length]; exact hj)]
  simp only [bools, List.getElem_map, tr_get S j hj]
theorem info_bool : (Try.prog.info? 4).map (fun i => (i.zero, i.size, i.bytes)) = some (some (.bool false), 1, 1) := by kernel_rfl

section
variable {w : World} {v : Value} {S : List Bool}

set_option maxHeartbeats 1000000 in
theorem count_ref (h : BRow w v S) (hs : S.length ≤ 1000000) :
    Calls Try.prog 53 #[v] w fun e w' => e = .returned (.int .i64 (countT S)) ∧ w = w' := by
  obtain ⟨A, c, rfl, h2, h3, h4⟩ := h.form
  have H4 := Lib.hid h4
  clear h h4
  go_enter Try.func53, Try.ntmps53
  go_wp2
  go_loop [3, 4] (fun t i => ∃ (n k : Nat), t = .int .i64 n ∧ i = .int .i64 k ∧ k ≤ S.length ∧ n ≤ k ∧ Hid (n + (numsFrom S k).length = countT S)) (fun _ i => S.length - (intOf i).toNat)
  case atStart => exact ⟨0, 0, rfl, rfl, Nat.zero_le _, Nat.le_refl _, Nat.zero_add _⟩
  case round =>
    obtain ⟨n, k, rfl, rfl, hk, hnk, hn⟩ := hrel
    by_cases hlt : k < S.length
    · obtain ⟨g, rfl, _, _, hc⟩ := H4.out (by omega)
      have hcell := hc k hlt
      clear hc
      cases hx : tr S k with
      | true =>
        rw [hx] at hcell
        have HN : Hid (n + 1 + (numsFrom S (k + 1)).length = countT S) := by have := hn.out; rw [numsFrom_hit S k hlt hx] at this; simp at this; show _ = _; omega
        clear hx hn
        go_wp2
        go_round
        case rel => exact ⟨n + 1, k + 1, by go_num, by go_num, by omega, by omega, HN⟩
        case measure => simp [intOf]; omega
      | false =>
        rw [hx] at hcell
        have HN : Hid (n + (numsFrom S (k + 1)).length = countT S) := by have := hn.out; rw [numsFrom_miss S k hlt hx] at this; exact this
        clear hx hn
        go_wp2
        go_round
        case rel => exact ⟨n, k + 1, rfl, by go_num, by omega, by omega, HN⟩
        case measure => simp [intOf]; omega
    · have hfin : n = countT S := by have := hn.out; rw [numsFrom_out S k (by omega)] at this; simpa using this
      have HF := Lib.hid hfin
      clear hfin hn
      go_wp2
      go_ret
      exact ⟨ret_int (by rw [HF.out]), rfl⟩

set_option maxHeartbeats 1000000 in
theorem find_ref (h : BRow w v S) (hs : S.length ≤ 1000000) (i : Int) (x : Bool) :
    Calls Try.prog 55 #[v, .int .i64 i, .bool x] w fun e w' => e = .returned (.int .i64 (findFrom S i.toNat x)) ∧ w = w' := by
  obtain ⟨A, c, rfl, h2, h3, h4⟩ := h.form
  have H4 := Lib.hid h4
  clear h h4
  by_cases h0 : i < 0
  all_goals
    go_enter Try.func55, Try.ntmps55
    go_wp2
    go_loop [1] (fun t => ∃ k : Nat, t = .int .i64 k ∧ Hid (findFrom S k x = findFrom S i.toNat x)) (fun t => S.length - (intOf t).toNat)
    case atStart => exact ⟨i.toNat, by first | (rw [show i.toNat = 0 by omega]; rfl) | (rw [show i = (i.toNat : Int) by omega]; rfl), rfl⟩
    case round =>
      obtain ⟨k, rfl, hk⟩ := hrel
      by_cases hlt : k < S.length
      · obtain ⟨g, rfl, _, _, hc⟩ := H4.out (by omega)
        have hcell := hc k hlt
        clear hc
        by_cases hx : tr S k = x
        · have HF := Lib.hid (hk.out.symm.trans (findFrom_hit S k x hlt hx))
          have hb : (tr S k == x) = true := by simp [hx]
          clear hk hx
          go_wp2
          go_ret
          exact ⟨ret_int HF.out.symm, rfl⟩
        · have HF := Lib.hid ((findFrom_miss S k x hlt hx).symm.trans hk.out)
          have hb : (tr S k == x) = false := by simp [hx]
          clear hk hx
          go_wp2
          go_round
          case rel => exact ⟨k + 1, by go_num, HF.out⟩
          case measure => simp [intOf]; omega
      · have HF := Lib.hid (hk.out.symm.trans (findFrom_out S k x (by omega)))
        clear hk
        go_wp2
        go_ret
        exact ⟨ret_int HF.out.symm, rfl⟩

/-- With, where nothing is to be changed. -/
theorem with_same (h : BRow w v S) (i : Int) (x : Bool) (hx : i < 0 ∨ S.length ≤ i ∨ trI S i = x) :
    Calls Try.prog 15 #[v, .int .i64 i, .bool x] w fun e w' => e = .returned (.tuple #[v, .bool false]) ∧ w = w' := by
  obtain ⟨A, c, rfl, h2, h3, h4⟩ := h.form
  by_cases h0 : i < 0
  · clear h h4 hx
    go_enter Try.func15, Try.ntmps15
    go_wp2
    go_ret2
    exact ⟨rfl, rfl⟩
  · have hd0 : decide (i < 0) = false := by simpa using h0
    by_cases h1 : (S.length : Int) ≤ i
    · clear h h4 hx
      go_enter Try.func15, Try.ntmps15
      go_wp2
      go_ret2
      exact ⟨rfl, rfl⟩
    · obtain ⟨n, rfl⟩ := Int.eq_ofNat_of_zero_le (show 0 ≤ i by omega)
      have hn : n < S.length := by omega
      have hd1 : decide ((S.length : Int) ≤ n) = false := by simp; omega
      obtain ⟨g, rfl, _, _, hc⟩ := h4 (by omega)
      have hcell := hc n hn
      have hb : (tr S n == x) = true := by
        rcases hx with hx | hx | hx
        · omega
        · omega
        · rw [trI_nat] at hx; simp [hx]
      clear h h4 hx hc h0 h1
      go_enter Try.func15, Try.ntmps15
      go_wp2
      go_ret2
      exact ⟨rfl, rfl⟩
theorem bools_set (S : List Bool) (n : Nat) (x : Bool) : (bools S).set n (.bool x) = bools (S.set n x) := by simp [bools, List.map_set]
set_option maxHeartbeats 1000000 in
/-- With, where a truth turns. -/
theorem with_new (h : BRow w v S) (hs : S.length ≤ 1000000) (n : Nat) (x : Bool) (hn : n < S.length) (hx : tr S n = !x) :
    Calls Try.prog 15 #[v, .int .i64 n, .bool x] w fun e w' => ∃ v', e = .returned (.tuple #[v', .bool true]) ∧ BRow w' v' (S.set n x) ∧ Upd noB w w' := by
  obtain ⟨A, c, rfl, h2, h3, h4⟩ := h.form
  have hd0 : decide ((n : Int) < 0) = false := by simp
  have hd1 : decide ((S.length : Int) ≤ n) = false := by simp; omega
  obtain ⟨g, rfl, hg, _, hc⟩ := h4 (by omega)
  have hcell := hc n hn
  have hb : (tr S n == x) = false := by rw [hx]; cases x <;> rfl
  have HC := Lib.hid hc
  clear h h4 hx hc
  go_enter Try.func15, Try.ntmps15
  go_wp2_with (at_builtin; refine append_row rfl (.tmp 26) (.tmp 27) 31 4 (.bool false) 1 rfl Try.underlying31 info_bool rfl (.slice none 0 0) [] (bools S) (some ⟨g, 0, none⟩) S.length c rfl rfl (bools_length S) (bools_one S) (Row.nil _ _) ?c1 (by simp; omega) (by simp; omega) ?_)
  case c1 =>
    intro h0
    refine ⟨_, rfl, fun j u hu => ?_⟩
    have hj : j < S.length := by have := (List.getElem?_eq_some_iff.1 hu).1; simpa [bools] using this
    rw [add0, HC.out j hj]
    rw [← hu]; simp [bools, List.getElem?_eq_getElem hj, tr_get S j hj]
  intro v1 w1 hr1 hu1 hat
  obtain ⟨A1, c1, rfl, h21, _, h41⟩ := BRow.form hr1
  obtain ⟨g1, rfl, hlt1, hf1, hc1⟩ := h41 (by omega)
  have hcell1 := hc1 n (by omega)
  have hfr1 := hf1 n
  have HR := Lib.hid hr1
  have hu1' : Upd noB w w1 := hu1.mono (fun k e => by simp [ownB, Value.ownBlock] at e)
  have hnew : w.heap.size ≤ g1 := by
    rcases hat with hat | ⟨b, hat, hb⟩
    · simp [Value.ownBlock] at hat
    · simp [Value.ownBlock] at hat; omega
  clear h41 hf1 hc1 hr1 h21 hat hu1
  go_wp2
  go_ret2
  refine ⟨_, rfl, ?_, hu1'.setCell (.inr hnew) _⟩
  have := HR.out.store n (.bool x)
  rwa [bools_set] at this
/-- **With.** -/
theorem with_ref (h : BRow w v S) (hs : S.length ≤ 1000000) (i : Int) (x : Bool) :
    Calls Try.prog 15 #[v, .int .i64 i, .bool x] w fun e w' => ∃ v', e = .returned (.tuple #[v', .bool (inI S i && (trI S i != x))]) ∧ BRow w' v' (putI S i x) ∧ Upd noB w w' := by
  rcases int_cases S i with hi | ⟨n, rfl, hn⟩
  · refine (with_same h i x (by rcases hi with hi | hi; exact .inl hi; exact .inr (.inl hi))).mono fun e w' ⟨h1, h2⟩ => ?_
    subst h2
    exact ⟨v, by rw [h1, inI_out S i hi]; rfl, by rw [putI_out S i _ hi]; exact h, Upd.refl _ _⟩
  · rw [inI_nat S n hn, trI_nat, putI_nat S n _ hn]
    by_cases hx : tr S n = x
    · refine (with_same h n x (.inr (.inr (by rw [trI_nat]; exact hx)))).mono fun e w' ⟨h1, h2⟩ => ?_
      subst h2
      exact ⟨v, by rw [h1, hx]; simp, by rw [set_tr_self S n x hx hn]; exact h, Upd.refl _ _⟩
    · refine (with_new h hs n x hn (by revert hx; cases tr S n <;> cases x <;> simp)).mono fun e w' ⟨v', h1, h2, h3⟩ => ?_
      exact ⟨v', by rw [h1]; revert hx; cases tr S n <;> cases x <;> simp, h2, h3⟩

theorem strOfNums_append (xs ys : List Int) : strOfNums xs ++ strOfNums ys = strOfNums (xs ++ ys) := by
  apply ByteArray.ext
  simp [strOfNums]
/-- The inner loop of Bytes. -/
def BRel (S : List Bool) (k : Nat) (c u i : Value) : Prop :=
  ∃ m C U : Nat, m ≤ 8 ∧ C ≤ 256 ∧ U ≤ 256 ∧ c = .int .i64 (C : Int) ∧ u = .int .i64 (U : Int) ∧ i = .int .i64 ((8 * k + m : Nat) : Int) ∧ 8 * k + m ≤ S.length ∧ Hid (C = part S k m ∧ U = 2 ^ m)
set_option maxHeartbeats 4000000 in
/-- **Bytes.** -/
theorem bytes_ref (h : BRow w v S) (hs : S.length ≤ 1000000) :
    Calls Try.prog 35 #[v] w fun e w' => e = .returned (.string (strOfNums (bytesOf S))) ∧ Upd noB w w' := by
  obtain ⟨A, c, rfl, h2, h3, h4⟩ := h.form
  have H4 := Lib.hid h4
  clear h h4
  go_enter Try.func35, Try.ntmps35
  go_wp2
  go_loopw [3, 4] (fun t i wr => ∃ k : Nat, i = .int .i64 ((8 * k : Nat) : Int) ∧ t = .string (strOfNums ((bytesOf S).take k)) ∧ 8 * k ≤ S.length + 7 ∧ Hid (Upd noB w wr)) (fun _ i _ => S.length + 8 - (intOf i).toNat)
  case atStart => exact ⟨0, rfl, rfl, by omega, Upd.refl _ _⟩
  case round =>
    obtain ⟨k, rfl, rfl, hk, hu⟩ := hrel
    by_cases hlt : 8 * k < S.length
    · obtain ⟨g, rfl, hg, _, hc⟩ := H4.out (by omega)
      have hcells : ∀ j, j < S.length → wr.cell? ⟨g, j, none⟩ = some (.bool (tr S j)) := fun j hj => hu.out.cell (hc j hj) (fun x => x)
      have HC := Lib.hid hcells
      clear hc hcells
      have hsl : ((bytesOf S).take k).length ≤ 1000000 := by rw [List.length_take, bytesOf_length]; unfold need; omega
      go_wp2
      go_loop [5, 6, 7] (fun c u i => BRel S k c u i) (fun _ _ i => 8 * k + 8 - (intOf i).toNat)
      case atStart => exact ⟨0, 0, 1, by omega, by omega, by omega, rfl, rfl, rfl, by omega, rfl, rfl⟩
      case round =>
        obtain ⟨m, C, U, hm, hC, hU, rfl, rfl, rfl, hm2, hCU⟩ := hrel
        by_cases hlt2 : m < 8 ∧ 8 * k + m < S.length
        · obtain ⟨h81, h82⟩ := hlt2
          have hcell := HC.out (8 * k + m) h82
          have hd1 : decide (((8 * k + m : Nat) : Int) < ((8 * k : Nat) : Int) + 8) = true := by simp; omega
          have hp := part_lt S k (m + 1)
          have hpw : 2 ^ (m + 1) ≤ 256 := Nat.pow_le_pow_right (by decide) (show m + 1 ≤ 8 by omega)
          have hps : part S k (m + 1) = part S k m + b8 (tr S (8 * k + m)) * 2 ^ m := rfl
          obtain ⟨e1, e2⟩ := hCU.out
          have hU2 : U * 2 ≤ 256 := by rw [e2, ← Nat.pow_succ]; exact hpw
          cases hx : tr S (8 * k + m) with
          | true =>
            rw [hx] at hcell hps
            have hC2 : C + U ≤ 256 := by rw [e1, e2]; simp [b8] at hps; omega
            have HN : Hid (C + U = part S k (m + 1) ∧ U * 2 = 2 ^ (m + 1)) := ⟨by rw [hps, e1, e2]; simp [b8], by rw [e2, Nat.pow_succ]⟩
            clear e1 e2 hx hps hp hpw hCU
            go_wp2
            go_round
            case rel => exact ⟨_, _, _, ⟨m + 1, C + U, U * 2, by omega, hC2, hU2, by go_num, by go_num, by go_num, by omega, HN⟩, rfl, rfl, rfl⟩
            case measure => simp [intOf]; omega
          | false =>
            rw [hx] at hcell hps
            have HN : Hid (C = part S k (m + 1) ∧ U * 2 = 2 ^ (m + 1)) := ⟨by rw [hps, e1]; simp [b8], by rw [e2, Nat.pow_succ]⟩
            clear e1 e2 hx hps hp hpw hCU
            go_wp2
            go_round
            case rel => exact ⟨_, _, _, ⟨m + 1, C, U * 2, by omega, hC, hU2, rfl, by go_num, by go_num, by omega, HN⟩, rfl, rfl, rfl⟩
            case measure => simp [intOf]; omega
        · have hfin : C = byteOf S k := by
            rw [hCU.out.1]
            by_cases h8 : m = 8
            · rw [h8, part_8]
            · exact part_end S k m hm (by omega)
          have hb := byteOf_lt S k
          rw [← hfin] at hb
          have HF := Lib.hid hfin
          clear hfin hCU
          have hz1 : (strOfNums ((bytesOf S).take k)).size ≤ 1000000 := by rw [strOfNums_size]; exact hsl
          have hz2 : (strOfNums [(C : Int)]).size ≤ 1 := by rw [strOfNums_size]; simp
          have hcv := fun W : World => run_convert_bytes_arg (P := Try.prog) (W.alloc (.cells #[.int .u8 (C : Int)] 5)) 48 5 Try.underlying48 Try.underlying5 W.heap.size 0 1 1 [(C : Int)] rfl (fun i hi => by (obtain rfl : i = 0 := (by omega)); simp) 9 Try.underlying9
          have HS : Hid (strOfNums ((bytesOf S).take k) ++ strOfNums [(C : Int)] = strOfNums ((bytesOf S).take (k + 1))) := by
            show _ = _
            rw [bytesOf_take_succ S k (by unfold need; omega), strOfNums_append, HF.out]
          by_cases h8 : m < 8
          · have hd1 : decide (((8 * k + m : Nat) : Int) < ((8 * k : Nat) : Int) + 8) = true := by simp; omega
            have hd2 : decide (((8 * k + m : Nat) : Int) < S.length) = false := by simp; omega
            go_wp2
            go_roundw
            case rel => exact ⟨k + 1, by go_num, by rw [HS.out], by omega, hu.out.alloc _⟩
            case measure => simp [intOf]; omega
          · have hd1 : decide (((8 * k + m : Nat) : Int) < ((8 * k : Nat) : Int) + 8) = false := by simp; omega
            go_wp2
            go_roundw
            case rel => exact ⟨k + 1, by go_num, by rw [HS.out], by omega, hu.out.alloc _⟩
            case measure => simp [intOf]; omega
    · have hfin : (bytesOf S).take k = bytesOf S := List.take_of_length_le (by rw [bytesOf_length]; unfold need; omega)
      have HF := Lib.hid hfin
      clear hfin
      go_wp2
      go_ret
      exact ⟨by rw [HF.out]; rfl, hu.out⟩

/-- What Both tells at one number. -/
def bothAt (S M : List Bool) (put : Bool) (i : Nat) : Bool := if put = true then tr S i || tr M i else tr S i && !tr M i
def bothL (S M : List Bool) (put : Bool) : List Bool := (List.range S.length).map (bothAt S M put)
theorem bothL_length (S M : List Bool) (put : Bool) : (bothL S M put).length = S.length := by simp [bothL]
theorem tr_bothL (S M : List Bool) (put : Bool) (i : Nat) (h : i < S.length) : tr (bothL S M put) i = bothAt S M put i := by
  unfold tr bothL; rw [List.getD_eq_getElem?_getD, List.getElem?_map, List.getElem?_range h]; rfl
theorem bothL_take_succ (S M : List Bool) (put : Bool) (k : Nat) (h : k < S.length) : (bothL S M put).take (k + 1) = (bothL S M put).take k ++ [bothAt S M put k] := by
  have h2 : k < (bothL S M put).length := by rw [bothL_length]; exact h
  rw [List.take_succ_eq_append_getElem h2, tr_get _ _ h2, tr_bothL S M put k h]
/-- The loop of Both. -/
def BoRel (w : World) (R : List Bool) (t i : Value) (wr : World) : Prop :=
  ∃ k : Nat, i = .int .i64 (k : Int) ∧ k ≤ R.length ∧ BRow wr t (R.take k) ∧ Upd noB w wr ∧ ∀ b, t.ownBlock = some b → w.heap.size ≤ b
set_option maxHeartbeats 8000000 in
/-- **Both.** -/
theorem both_ref {u : Value} {M : List Bool} (h : BRow w v S) (hM : BRow w u M) (hs : S.length ≤ 1000000) (put : Bool) :
    Calls Try.prog 33 #[v, u, .bool put] w fun e w' => ∃ v', e = .returned v' ∧ BRow w' v' (bothL S M put) ∧ Upd noB w w' := by
  obtain ⟨A, c, rfl, h2, h3, h4⟩ := h.form
  obtain ⟨A', c', rfl, h2', h3', h4'⟩ := hM.form
  have H4 := Lib.hid h4
  have H4' := Lib.hid h4'
  have hlR := bothL_length S M put
  have HR := Lib.hid (rfl : bothL S M put = bothL S M put)
  obtain ⟨R, hR⟩ : ∃ R, bothL S M put = R := ⟨_, rfl⟩
  rw [hR] at hlR ⊢
  have HRR := Lib.hid hR
  have HL := Lib.hid hlR
  clear h h4 hM h4' HR hR hlR
  go_enter Try.func33, Try.ntmps33
  go_wp2
  go_loopw [7, 8] (fun t i wr => BoRel w R t i wr) (fun _ i _ => S.length - (intOf i).toNat)
  case atStart => exact ⟨0, rfl, Nat.zero_le _, Row.nil _ _, Upd.refl _ _, fun b hb => by simp [Value.ownBlock] at hb⟩
  case round =>
    obtain ⟨k, rfl, hk, hrow, hu, hfr⟩ := hrel
    have HO := Lib.hid hrow
    have HU := Lib.hid hu
    have HF := Lib.hid hfr
    clear hrow hfr
    by_cases hlt : k < S.length
    · obtain ⟨g, rfl, hg, _, hc⟩ := H4.out (by omega)
      have hcell := hu.cell (hc k hlt) (fun x => x)
      have hmw : k < M.length → ∃ g', A' = some ⟨g', 0, none⟩ ∧ wr.cell? ⟨g', k, none⟩ = some (.bool (tr M k)) := by
        intro hm
        obtain ⟨g', e1, _, _, hc'⟩ := H4'.out (by omega)
        exact ⟨g', e1, hu.cell (hc' k hm) (fun x => x)⟩
      have hb : R.take (k + 1) = R.take k ++ [bothAt S M put k] := by rw [← HRR.out]; exact bothL_take_succ S M put k hlt
      have htl : (bools (R.take k)).length ≤ 1000000 := by rw [bools_length, List.length_take]; omega
      have hlR : R.length ≤ 1000000 := by have := HL.out; omega
      have hkR : k + 1 ≤ R.length := by have := HL.out; omega
      have HB := Lib.hid hb
      clear hc hu hb
      by_cases hm : k < M.length
      · obtain ⟨g', rfl, hcell'⟩ := hmw hm
        clear hmw
        cases put <;> cases hx : tr S k <;> cases hy : tr M k
        all_goals
          rw [hx] at hcell
          rw [hy] at hcell'
          have HX := Lib.hid hx
          have HY := Lib.hid hy
          clear hx hy
          go_wp2_with (at_builtin; refine append_one rfl (.tmp 26) (.tmp 51) 31 4 (.bool false) 1 rfl Try.underlying31 info_bool rfl _ (bools (R.take k)) _ rfl rfl rfl HO.out (by omega) (by omega) ?_)
          intro v1 w1 hr1 hu1 hat
          have hfr1 : ∀ b, v1.ownBlock = some b → w.heap.size ≤ b := by
            intro b hb
            rcases hat with hat | ⟨q, hat, hq⟩
            · exact HF.out b (hat ▸ hb)
            · rw [hat] at hb; injection hb with hb; have := HU.out.size; omega
          have HF1 := Lib.hid hfr1
          have HR1 := Lib.hid hr1
          have HU1 := Lib.hid (HU.out.trans hu1 (fun k e => .inr (HF.out k e)))
          clear hfr1 hr1 hu1 hat
          go_wp2
          go_roundw
          case rel =>
            refine ⟨k + 1, by go_num, hkR, ?_, HU1.out, HF1.out⟩
            rw [HB.out]
            have := HR1.out
            simpa [BRow, bools, bothAt, HX.out, HY.out] using this
          case measure => simp [intOf]; omega
      · have HM := Lib.hid (tr_out M k (by omega))
        clear hmw
        have hm2 : decide ((k : Int) < M.length) = false := by simp; omega
        cases put <;> cases hx : tr S k
        all_goals
          rw [hx] at hcell
          have HX := Lib.hid hx
          clear hx
          go_wp2_with (at_builtin; refine append_one rfl (.tmp 26) (.tmp 51) 31 4 (.bool false) 1 rfl Try.underlying31 info_bool rfl _ (bools (R.take k)) _ rfl rfl rfl HO.out (by omega) (by omega) ?_)
          intro v1 w1 hr1 hu1 hat
          have hfr1 : ∀ b, v1.ownBlock = some b → w.heap.size ≤ b := by
            intro b hb
            rcases hat with hat | ⟨q, hat, hq⟩
            · exact HF.out b (hat ▸ hb)
            · rw [hat] at hb; injection hb with hb; have := HU.out.size; omega
          have HF1 := Lib.hid hfr1
          have HR1 := Lib.hid hr1
          have HU1 := Lib.hid (HU.out.trans hu1 (fun k e => .inr (HF.out k e)))
          clear hfr1 hr1 hu1 hat
          go_wp2
          go_roundw
          case rel =>
            refine ⟨k + 1, by go_num, hkR, ?_, HU1.out, HF1.out⟩
            rw [HB.out]
            have := HR1.out
            simpa [BRow, bools, bothAt, HX.out, HM.out] using this
          case measure => simp [intOf]; omega
    · go_wp2
      go_ret
      refine ⟨_, rfl, ?_, HU.out⟩
      have hfin : R.take k = R := List.take_of_length_le (by have := HL.out; omega)
      rw [← hfin]; exact HO.out
end
end Go.Proofs.Ytejpcgoblgaieaa.Ref06
