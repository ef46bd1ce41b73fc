/-
  hibernaclelaw06.BitsBoth: walked once: for every two sizes and every two rows of numbers it returns true.
-/
import Derived.Test.YtejpcgoblgaieaaLaw06c
import Derived.Test.YtejpcgoblgaieaaBitsSameLaw
import Derived.Test.YtejpcgoblgaieaaBitsWithLaw
set_option linter.unusedVariables false
set_option linter.unusedSimpArgs false
namespace Go.Proofs.Ytejpcgoblgaieaa.BitsBoth
open Go.RowKit Go.Proofs.Ytejpcgoblgaieaa Go.Proofs.Ytejpcgoblgaieaa.Law Go.Proofs.Ytejpcgoblgaieaa.Ref06 Go.Proofs.Ytejpcgoblgaieaa.Law06

theorem tr_putI (S : List Bool) (a : Nat) (x : Bool) (i : Nat) (hi : i < S.length) : tr (putI S (a : Int) x) i = if a = i then x else tr S i := by
  by_cases ha : a < S.length
  · rw [putI_nat S a x ha, tr_set S a x ha i]
    by_cases h : i = a
    · rw [if_pos h, if_pos h.symm]
    · rw [if_neg h, if_neg (fun e => h e.symm)]
  · rw [putI_out S a x (.inr (by omega)), if_neg (by omega)]
theorem tr_foldI (x : Bool) (i : Nat) : ∀ (l : List Nat) (S : List Bool), i < S.length → tr (foldI S l x) i = if i ∈ l then x else tr S i := by
  intro l
  induction l with
  | nil => intro S h; simp [foldI]
  | cons a l ih =>
    intro S h
    have := ih (putI S (a : Int) x) (by rw [putI_length]; exact h)
    rw [tr_putI S a x i h] at this
    show tr (foldI (putI S (a : Int) x) l x) i = _
    rw [this]
    by_cases h1 : i ∈ l
    · simp [h1]
    · by_cases h2 : a = i
      · simp [h2]
      · have h3 : ¬ i = a := fun e => h2 e.symm
        simp [h1, h2, h3]
theorem fold_both (S M : List Bool) (put : Bool) : foldI S (numsFrom M 0) put = bothL S M put := by
  apply ext_tr
  · rw [foldI_length, bothL_length]
  · intro i hi
    rw [foldI_length] at hi
    rw [tr_foldI put i _ S hi, tr_bothL S M put i hi]
    unfold bothAt
    have hm := mem_numsFrom M M.length 0 (by omega) i
    by_cases h : i ∈ numsFrom M 0
    · have := (hm.1 h).2.2
      rw [if_pos h, this]
      cases put <;> simp
    · have : tr M i = false := by
        by_cases hl : i < M.length
        · cases hx : tr M i with
          | false => rfl
          | true => exact absurd (hm.2 ⟨Nat.zero_le _, hl, hx⟩) h
        · exact tr_out M i (by omega)
      rw [if_neg h, this]
      cases put <;> simp
theorem str_same {S M : List Bool} (hl : S.length = M.length) : ((strOfNums (bytesOf S)).toList == (strOfNums (bytesOf M)).toList) = decide (S = M) := by
  rw [Bool.eq_iff_iff, beq_iff_eq, decide_eq_true_eq]
  constructor
  · intro h
    refine bytesOf_inj hl (libBytes_inj (bytesOf_range S) (bytesOf_range M) ?_)
    simpa [strOfNums, ByteArray.toList_eq] using h
  · intro h; rw [h]

/-- The loop. -/
def KRel (w : World) (n p g c p' g' c' qo ro d1 ql rl d2 : Nat) (v v' : Value) (S S' : List Bool) (i : Value) (wr : World) : Prop :=
  ∃ (k : Nat) (S1 S2 : List Bool), i = .int .i64 (k : Int) ∧ k ≤ n ∧ SetAt wr qo ro d1 S1 ∧ SetAt wr ql rl d2 S2 ∧ SetAt wr p g c S ∧ SetAt wr p' g' c' S' ∧ BRow wr v S ∧ BRow wr v' S' ∧ Upd noB w wr
/-- A set beside another one that is written. -/
theorem beside {w w' : World} {p g c r : Nat} {S : List Bool} (h : SetAt w p g c S) (hu : Upd (oneB r) w w') (h1 : p ≠ r) (h2 : g ≠ r) : SetAt w' p g c S := h.upd hu h1 h2

set_option maxRecDepth 100000 in
set_option maxHeartbeats 8000000 in
theorem walk (x y : Int) (A B : Option Addr) (cp cq : Nat) (zs ys : List Int) (w : World) (hA : IntsIn w A zs) (hB : IntsIn w B ys) :
    Calls Try.prog 7 #[.agg #[.int .i64 x, .int .i64 y], .slice A zs.length cp, .slice B ys.length cq] w fun e w' => e = .returned (.bool true) ∧ Upd noB w w' := by
  have HA := Lib.hid hA
  have HB := Lib.hid hB
  have HL := Lib.hid (fun w : World => lives_true (w := w))
  have HF := Lib.hid (fun (w : World) (n : Int) => few_at (w := w) n)
  clear hA hB
  go_enter Try.func7, Try.ntmps7
  go_upto_region 1 with fail
  go_cut [7, 8] (fun a b W => a = .int .i64 x ∧ b = .int .i64 y ∧ Hid (Upd noB w W))
  case first =>
    go_region_with fail
    all_goals (go_wp2_with fail; go_meet; exact ⟨rfl, rfl, by first | exact ((Upd.refl noB w).alloc _).drew | exact ((Upd.refl noB w).alloc _).drewN _⟩)
  case rest =>
    obtain ⟨rfl, rfl, hu⟩ := hcut
    by_cases h1 : x < 0
    · go_wp2_with (first | (go_at_call 13; refine (HF.out _ _).mono ?_; rintro e w' ⟨rfl, rfl⟩) | (go_at_call 12; refine (HL.out _).mono ?_; rintro e w' ⟨rfl, hu5⟩))
      go_ret
      exact ⟨rfl, hu.out.then0 hu5⟩
    have hd1 : decide (x < 0) = false := by simp; omega
    by_cases h2 : y < 0
    · go_wp2_with (first | (go_at_call 13; refine (HF.out _ _).mono ?_; rintro e w' ⟨rfl, rfl⟩) | (go_at_call 12; refine (HL.out _).mono ?_; rintro e w' ⟨rfl, hu5⟩))
      go_ret
      exact ⟨rfl, hu.out.then0 hu5⟩
    have hd2 : decide (y < 0) = false := by simp; omega
    by_cases h3 : 200 < x
    · have hd3 : decide (x ≤ 200) = false := by simp; omega
      go_wp2_with (first | (go_at_call 13; refine (HF.out _ _).mono ?_; rintro e w' ⟨rfl, rfl⟩) | (go_at_call 12; refine (HL.out _).mono ?_; rintro e w' ⟨rfl, hu5⟩))
      go_ret
      exact ⟨rfl, hu.out.then0 hu5⟩
    have hd3 : decide (x ≤ 200) = true := by simp; omega
    by_cases h4 : 200 < y
    · have hd4 : decide (y ≤ 200) = false := by simp; omega
      go_wp2_with (first | (go_at_call 13; refine (HF.out _ _).mono ?_; rintro e w' ⟨rfl, rfl⟩) | (go_at_call 12; refine (HL.out _).mono ?_; rintro e w' ⟨rfl, hu5⟩))
      go_ret
      exact ⟨rfl, hu.out.then0 hu5⟩
    have hd4 : decide (y ≤ 200) = true := by simp; omega
    obtain ⟨n, rfl⟩ := Int.eq_ofNat_of_zero_le (show 0 ≤ x by omega)
    obtain ⟨m, rfl⟩ := Int.eq_ofNat_of_zero_le (show 0 ≤ y by omega)
    have hn : n ≤ 200 := by omega
    have hm : m ≤ 200 := by omega
    go_wp2_with (go_at_call 13; refine (HF.out _ _).mono ?_; rintro e w' ⟨rfl, rfl⟩)
    refine (made_at n hn A cp zs (HA.out.upd0 hu.out)).mono ?_
    rintro e w1 ⟨p, g, c, v, S, rfl, hSl, hs1, hv1, hu1, qp, qg⟩
    have HU1 := Lib.hid (hu.out.then0 hu1)
    have HS1 := Lib.hid hs1
    have HV1 := Lib.hid hv1
    have HSL := Lib.hid hSl
    clear hs1 hv1 hu1 hSl
    go_wp2_with fail
    refine (made_at m hm B cq ys (HB.out.upd0 HU1.out)).mono ?_
    rintro e w2 ⟨p', g', c', v', S', rfl, hSl, hs2, hv2, hu2, qp', qg'⟩
    have HU2 := Lib.hid (HU1.out.then0 hu2)
    have HS2 := Lib.hid (HS1.out.upd0 hu2)
    have HV2 := Lib.hid (HV1.out.upd0 hu2)
    have HT2 := Lib.hid hs2
    have HY2 := Lib.hid hv2
    have HTL := Lib.hid hSl
    clear hs2 hv2 hu2 hSl
    have hb1 := HS2.out.plt
    have hb2 := HS2.out.glt
    have hb3 := HT2.out.plt
    have hb4 := HT2.out.glt
    go_wp2_with fail
    refine (or_at HS2.out HT2.out).mono ?_
    rintro e w3 ⟨qo, ro, d1, rfl, ho3, hu3, qq1, qq2⟩
    rw [fold_both] at ho3
    have HU3 := Lib.hid (HU2.out.then0 hu3)
    have HS3 := Lib.hid (HS2.out.upd0 hu3)
    have HV3 := Lib.hid (HV2.out.upd0 hu3)
    have HT3 := Lib.hid (HT2.out.upd0 hu3)
    have HY3 := Lib.hid (HY2.out.upd0 hu3)
    have HO3 := Lib.hid ho3
    have hz3 := hu3.size
    have hb5 := ho3.plt
    have hb6 := ho3.glt
    clear hu3 ho3
    go_wp2_with fail
    refine (less_at HS3.out HT3.out).mono ?_
    rintro e w4 ⟨ql, rl, d2, rfl, ho4, hu4, qq3, qq4⟩
    rw [fold_both] at ho4
    have HU4 := Lib.hid (HU3.out.then0 hu4)
    have HS4 := Lib.hid (HS3.out.upd0 hu4)
    have HV4 := Lib.hid (HV3.out.upd0 hu4)
    have HT4 := Lib.hid (HT3.out.upd0 hu4)
    have HY4 := Lib.hid (HY3.out.upd0 hu4)
    have HO4 := Lib.hid (HO3.out.upd0 hu4)
    have HE4 := Lib.hid ho4
    clear hu4 ho4
    have hbl : ∀ b, (bothL S S' b).length ≤ 200 := fun b => by rw [bothL_length, HSL.out]; exact hn
    have hs200 : S.length ≤ 1000000 := by rw [HSL.out]; omega
    have ht200 : S'.length ≤ 1000000 := by rw [HTL.out]; omega
    have hqq : (S = S' ∧ n = m) ∨ (S ≠ S' ∧ n = m) ∨ (S ≠ S' ∧ n ≠ m) := by
      by_cases h : n = m
      · by_cases hh : S = S'
        · exact .inl ⟨hh, h⟩
        · exact .inr (.inl ⟨hh, h⟩)
      · refine .inr (.inr ⟨fun hh => h ?_, h⟩)
        rw [← HSL.out, ← HTL.out, hh]
    have HQQ := Lib.hid hqq
    have HSS := Lib.hid (fun (h : n = m) => str_same (S := S) (M := S') (by rw [HSL.out, HTL.out, h]))
    clear hqq
    go_upto_region 7 with fail
    go_cut [85] (fun b W => b = .bool false ∧ Hid (Upd noB w4 W))
    case first =>
      go_wp2_with fail
      refine (both_ref HV4.out HY4.out hs200 true).mono ?_
      rintro e w5 ⟨u5, rfl, hr5, hu5⟩
      go_wp2_with fail
      refine (alike_true (HO4.out.upd0 hu5) hr5 (hbl _)).mono ?_
      rintro e w6 ⟨rfl, hu6⟩
      have hU6 := hu5.then0 hu6
      clear hr5 hu5 hu6
      go_wp2_with fail
      refine (both_ref (HV4.out.upd0 hU6) (HY4.out.upd0 hU6) hs200 false).mono ?_
      rintro e w7 ⟨u7, rfl, hr7, hu7⟩
      have hU7 := hU6.then0 hu7
      clear hu7 hU6
      go_wp2_with fail
      refine (alike_true (HE4.out.upd0 hU7) hr7 (hbl _)).mono ?_
      rintro e w8 ⟨rfl, hu8⟩
      have hU8 := hU7.then0 hu8
      clear hr7 hu8 hU7
      go_wp2_with fail
      refine (same_at (HS4.out.upd0 hU8) (HT4.out.upd0 hU8)).mono ?_
      rintro e w9 ⟨rfl, k9, hk9⟩
      have hU9 : Upd noB w4 w9 := by rw [hk9]; exact hU8.drewN k9
      clear hk9 hU8
      have HU9 := Lib.hid hU9
      clear hU9
      rcases HQQ.out with ⟨hh, rfl⟩ | ⟨hh, rfl⟩ | ⟨hh, hnm⟩
      · have hd5 : decide (S = S') = true := by simpa using hh
        have hd7 := HSS.out rfl
        rw [hd5] at hd7
        rw [hd5]
        clear hh
        go_wp2_with fail
        refine (bytes_ref (HV4.out.upd0 HU9.out) hs200).mono ?_
        rintro e w10 ⟨rfl, hu10⟩
        have HU10 := Lib.hid (HU9.out.then0 hu10)
        clear hu10
        go_wp2_with fail
        refine (bytes_ref (HY4.out.upd0 HU10.out) ht200).mono ?_
        rintro e w11 ⟨rfl, hu11⟩
        have HU11 := Lib.hid (HU10.out.then0 hu11)
        clear hu11
        go_wp2_with fail
        go_meet
        exact ⟨rfl, HU11.out⟩
      · have hd5 : decide (S = S') = false := by simpa using hh
        have hd7 := HSS.out rfl
        rw [hd5] at hd7
        rw [hd5]
        clear hh
        go_wp2_with fail
        refine (bytes_ref (HV4.out.upd0 HU9.out) hs200).mono ?_
        rintro e w10 ⟨rfl, hu10⟩
        have HU10 := Lib.hid (HU9.out.then0 hu10)
        clear hu10
        go_wp2_with fail
        refine (bytes_ref (HY4.out.upd0 HU10.out) ht200).mono ?_
        rintro e w11 ⟨rfl, hu11⟩
        have HU11 := Lib.hid (HU10.out.then0 hu11)
        clear hu11
        go_wp2_with fail
        go_meet
        exact ⟨rfl, HU11.out⟩
      · have hd5 : decide (S = S') = false := by simpa using hh
        have hd6 : ((n : Int) == m) = false := by simp; omega
        rw [hd5]
        clear hh
        go_wp2_with fail
        go_meet
        exact ⟨rfl, HU9.out⟩
    case rest =>
      obtain ⟨rfl, hu5⟩ := hcut
      have HS5 := Lib.hid (HS4.out.upd0 hu5.out)
      have HV5 := Lib.hid (HV4.out.upd0 hu5.out)
      have HT5 := Lib.hid (HT4.out.upd0 hu5.out)
      have HY5 := Lib.hid (HY4.out.upd0 hu5.out)
      have HO5 := Lib.hid (HO4.out.upd0 hu5.out)
      have HE5 := Lib.hid (HE4.out.upd0 hu5.out)
      have HU5 := Lib.hid (HU4.out.then0 hu5.out)
      have n1 : p ≠ ro ∧ g ≠ ro ∧ p' ≠ ro ∧ g' ≠ ro ∧ ql ≠ ro ∧ rl ≠ ro := by refine ⟨?_, ?_, ?_, ?_, ?_, ?_⟩ <;> omega
      have n2 : p ≠ rl ∧ g ≠ rl ∧ p' ≠ rl ∧ g' ≠ rl ∧ qo ≠ rl ∧ ro ≠ rl := by refine ⟨?_, ?_, ?_, ?_, ?_, ?_⟩ <;> omega
      have N1 := Lib.hid n1
      have N2 := Lib.hid n2
      have q1 := Lib.hid (show w.heap.size ≤ ro by have := HU2.out.size; omega)
      have q2 := Lib.hid (show w.heap.size ≤ rl by have := HU2.out.size; omega)
      clear n1 n2 hb1 hb2 hb3 hb4 hb5 hb6 qq1 qq2 qq3 qq4 hz3 hbl HQQ HSS
      go_wp2
      go_loopw [15] (fun i wr => KRel w n p g c p' g' c' qo ro d1 ql rl d2 v v' S S' i wr) (fun i _ => n - (intOf i).toNat)
      case atStart => exact ⟨0, _, _, rfl, Nat.zero_le _, HO5.out, HE5.out, HS5.out, HT5.out, HV5.out, HY5.out, HU5.out⟩
      case round =>
        obtain ⟨k, S1, S2, rfl, hk, hO, hE, hS, hT, hV, hY, hU⟩ := hrel
        have HO := Lib.hid hO
        have HE := Lib.hid hE
        have HS := Lib.hid hS
        have HT := Lib.hid hT
        have HV := Lib.hid hV
        have HY := Lib.hid hY
        have HU := Lib.hid hU
        clear hO hE hS hT hV hY hU
        by_cases hlt : k < n
        · have hd5 : decide ((k : Int) < n) = true := by simp; omega
          go_wp2_with fail
          refine (drop_at HO.out k).mono ?_
          rintro e wa ⟨rfl, ho, hu⟩
          have HO' := Lib.hid ho
          have HE' := Lib.hid (beside HE.out hu N1.out.2.2.2.2.1 N1.out.2.2.2.2.2)
          have HS' := Lib.hid (beside HS.out hu N1.out.1 N1.out.2.1)
          have HT' := Lib.hid (beside HT.out hu N1.out.2.2.1 N1.out.2.2.2.1)
          have HV' := Lib.hid (BRow.past HV.out HO.out hu)
          have HY' := Lib.hid (BRow.past HY.out HO.out hu)
          have HU' := Lib.hid (HU.out.trans hu (fun k e => by cases e; exact .inr q1.out))
          clear ho hu
          go_wp2_with fail
          refine (put_at HE'.out k).mono ?_
          rintro e wb ⟨rfl, ho, hu⟩
          have HE2 := Lib.hid ho
          have HO2 := Lib.hid (beside HO'.out hu N2.out.2.2.2.2.1 N2.out.2.2.2.2.2)
          have HS2 := Lib.hid (beside HS'.out hu N2.out.1 N2.out.2.1)
          have HT2 := Lib.hid (beside HT'.out hu N2.out.2.2.1 N2.out.2.2.2.1)
          have HV2 := Lib.hid (BRow.past HV'.out HE'.out hu)
          have HY2 := Lib.hid (BRow.past HY'.out HE'.out hu)
          have HU2 := Lib.hid (HU'.out.trans hu (fun k e => by cases e; exact .inr q2.out))
          clear ho hu
          go_wp2
          go_roundw
          case rel => exact ⟨k + 1, _, _, by go_num, by omega, HO2.out, HE2.out, HS2.out, HT2.out, HV2.out, HY2.out, HU2.out⟩
          case measure => simp [intOf]; omega
        · have hd5 : decide ((k : Int) < n) = false := by simp; omega
          go_wp2_with fail
          refine (alike_true HS.out HV.out (by rw [HSL.out]; exact hn)).mono ?_
          rintro e wa ⟨rfl, hua⟩
          have HSa := Lib.hid (HS.out.upd0 hua)
          have HTa := Lib.hid (HT.out.upd0 hua)
          have HYa := Lib.hid (HY.out.upd0 hua)
          have HUa := Lib.hid (HU.out.then0 hua)
          clear hua
          go_wp2_with fail
          refine (alike_true HTa.out HYa.out (by rw [HTL.out]; exact hm)).mono ?_
          rintro e wb ⟨rfl, hub⟩
          have HSb := Lib.hid (HSa.out.upd0 hub)
          have HUb := Lib.hid (HUa.out.then0 hub)
          clear hub
          go_wp2_with fail
          refine (or_none HSb.out).mono ?_
          rintro e wc' ⟨q3, r3, d3, rfl, ho3, hu3, _, _⟩
          have HO3 := Lib.hid ho3
          have HSc := Lib.hid (HSb.out.upd0 hu3)
          have HUc := Lib.hid (HUb.out.then0 hu3)
          clear ho3 hu3
          go_wp2_with fail
          refine (same_at HO3.out HSc.out).mono ?_
          rintro e wd ⟨rfl, k9, hk9⟩
          have huu : Upd noB wc' wd := by rw [hk9]; exact (Upd.refl noB wc').drewN k9
          have HSd := Lib.hid (HSc.out.upd0 huu)
          have HUd := Lib.hid (HUc.out.then0 huu)
          clear huu hk9
          rw [decide_eq_true (rfl : S = S)]
          go_wp2_with fail
          refine (less_none HSd.out).mono ?_
          rintro e we ⟨q4, r4, d4, rfl, ho4, hu4, _, _⟩
          have HO4 := Lib.hid ho4
          have HSe := Lib.hid (HSd.out.upd0 hu4)
          have HUe := Lib.hid (HUd.out.then0 hu4)
          clear ho4 hu4
          go_wp2_with fail
          refine (same_at HO4.out HSe.out).mono ?_
          rintro e wf ⟨rfl, k9, hk9⟩
          have huu : Upd noB we wf := by rw [hk9]; exact (Upd.refl noB we).drewN k9
          have HUf := Lib.hid (HUe.out.then0 huu)
          clear huu hk9
          rw [decide_eq_true (rfl : S = S)]
          go_wp2_with fail
          refine (HL.out _).mono ?_
          rintro e wg ⟨rfl, hug⟩
          go_wp2
          go_ret
          exact ⟨rfl, HUf.out.then0 hug⟩
end Go.Proofs.Ytejpcgoblgaieaa.BitsBoth
