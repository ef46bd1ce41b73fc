/-
  The iterators of package bits, at the kind hibernacle/hibernaclelaw06.Page of numbers, and what ranges over them: each walked once.
-/
import Derived.Test.YtejpcgoblgaieaaBitsMoreLaw
set_option linter.unusedVariables false
set_option linter.unusedSimpArgs false
namespace Go.Proofs.Ytejpcgoblgaieaa.Law
open Go.RowKit Go.Proofs.Ytejpcgoblgaieaa
attribute [local go_sem] Oper.semAt_some
section
variable {p g c : Nat} {S : List Bool} {w : World}

/-- All hands the iterator out: its set's pointer lies in a box. -/
theorem all_any (pv : Option Addr) :
    Calls Try.prog 20 #[.pointer pv] w fun e w' => e = .returned (.func (.func 57) #[] #[.pointer (some ⟨w.heap.size, 0, none⟩)]) ∧ w' = w.alloc (.cells #[.pointer pv] 23) := by
  go_enter Try.func20, Try.ntmps20
  go_wp2
  go_ret
  exact ⟨rfl, rfl⟩

set_option maxHeartbeats 2000000 in
/-- The iterator All: the numbers of the set, rising. -/
theorem all1_stops (n bx : Nat) (h : SetAt w p g c S) (hb : w.heap[bx]? = some (.cells #[.pointer (some ⟨p, 0, none⟩)] 23 (0, 0))) :
    SeqStopsK Fence.wide n Try.prog 57 #[.pointer (some ⟨bx, 0, none⟩)] (fun x : Nat => #[Value.int .i64 (x : Int)]) (KeepB [bx, p, g]) (fun ys => ys = numsFrom S 0) (fun pre => pre <+: numsFrom S 0) (numsFrom S 0).length w := by
  intro l J Jx W hW _ _ hY h0
  have hS : SetAt W p g c S := h.upd0 ⟨hW.os, hW.tape, hW.output, hW.size, fun k hk _ => hW.block k hk⟩
  have hB : W.heap[bx]? = some (.cells #[.pointer (some ⟨p, 0, none⟩)] 23 (0, 0)) := (hW.block bx (lt_of_block hb)).trans hb
  have hs := h.small
  clear h hb hW
  refine callsIn_of_wp Try.func57 rfl trivial ?_ rfl
  simp only [Try.ntmps57, List.size_toArray, List.length_cons, List.length_nil, Nat.reduceAdd, Nat.reduceSub, Array.replicate_succ, Array.replicate_zero, List.push_toArray, List.append_toArray, List.nil_append, List.cons_append]
  have hbc : W.cell? ⟨bx, 0, none⟩ = some (.pointer (some ⟨p, 0, none⟩)) := cell_at hB 0
  have HN := Lib.hid (next_at hS 0)
  have HS := Lib.hid hS
  have HB := Lib.hid hB
  clear hS hB
  gi_wp2_with (refine ⟨trivial, wideD, ?_⟩; gi_at_call 54; refine (Calls.wide _ HN.out).mono ?_; rintro e w' ⟨rfl, rfl⟩)
  gi_loopw [3] (fun t wr => ∃ (pre : List Nat) (j : Nat), t = .int .i64 (findFrom S j true) ∧ Hid (pre ++ numsFrom S j = numsFrom S 0) ∧ SetAt wr p g c S ∧ Hid (wr.heap[bx]? = some (.cells #[.pointer (some ⟨p, 0, none⟩)] 23 (0, 0))) ∧ J pre wr)
    (fun t _ => msr S.length t)
  case atStart => exact ⟨[], 0, rfl, rfl, HS.out, HB.out, h0⟩
  case round =>
    obtain ⟨pre, j, rfl, hpre, hSr, hBr, hJ⟩ := hrel
    have hbc : wr.cell? ⟨bx, 0, none⟩ = some (.pointer (some ⟨p, 0, none⟩)) := cell_at hBr.out 0
    rcases numsFrom_next S _ j rfl with ⟨h1, h2⟩ | ⟨k, h1, h2, h3, h4⟩
    · rw [h1]
      have hfin : pre = numsFrom S 0 := by have := hpre.out; rwa [h2, List.append_nil] at this
      have HF := Lib.hid hfin
      clear h1 h2 hfin hpre
      gi_wp2
      go_end0
      exact ⟨⟨_, rfl⟩, .inl ⟨pre, HF.out, hJ⟩⟩
    · rw [h1]
      have hp2 : (pre ++ [k]) ++ numsFrom S (k + 1) = numsFrom S 0 := by rw [List.append_assoc, List.singleton_append, ← h4]; exact hpre.out
      have hlen : pre.length < (numsFrom S 0).length := by rw [← hp2]; simp
      have HP := Lib.hid hp2
      obtain ⟨fn, tmps, assign, body, hy, hR⟩ := hY pre k wr hJ hlen
      have HR := Lib.hid hR
      clear h1 h4 hp2 hpre hY hR hlen
      gi_wp2_with fail
      refine ⟨wideD, HR.out.mono ?_⟩
      rintro e W3 (⟨rfl, hJ3, hk3⟩ | ⟨rfl, hJx3⟩)
      · have hS3 := hSr.keepB hk3 (by simp) (by simp)
        have hB3 := hk3 bx (by simp) _ _ _ hBr.out
        have hbc3 : W3.cell? ⟨bx, 0, none⟩ = some (.pointer (some ⟨p, 0, none⟩)) := cell_at hB3 0
        have HN := Lib.hid (next_at hS3 ((k : Int) + 1))
        have HB3 := Lib.hid hB3
        clear hB3 hbc hk3
        gi_wp2_with (refine ⟨trivial, wideD, ?_⟩; gi_at_call 54; refine (Calls.wide _ HN.out).mono ?_; rintro e w' ⟨rfl, rfl⟩)
        go_roundw
        case rel => exact ⟨pre ++ [k], k + 1, rfl, HP.out, hS3, HB3.out, hJ3⟩
        case measure =>
          rcases findFrom_lt S true _ (k + 1) rfl with h1 | ⟨m, h1, h5, h6, _⟩
          · rw [h1, msr_neg, msr_nat]; omega
          · rw [h1, msr_nat, msr_nat]; omega
      · gi_wp2
        refine bodyPost_ret (results_none rfl _ _ _) rfl ?_
        exact ⟨⟨_, rfl⟩, .inr ⟨pre ++ [k], ⟨numsFrom S (k + 1), HP.out⟩, hJx3⟩⟩

set_option maxHeartbeats 1000000 in
/-- The iterator All of no set. -/
theorem all1_nil (n bx : Nat) (Kp : World → World → Prop) (hb : w.heap[bx]? = some (.cells #[.pointer none] 23 (0, 0))) :
    SeqStopsK Fence.wide n Try.prog 57 #[.pointer (some ⟨bx, 0, none⟩)] (fun x : Nat => #[Value.int .i64 (x : Int)]) Kp (fun ys => ys = []) (fun pre => pre <+: []) 0 w := by
  intro l J Jx W hW _ _ hY h0
  have hB : W.heap[bx]? = some (.cells #[.pointer none] 23 (0, 0)) := (hW.block bx (lt_of_block hb)).trans hb
  have hbc : W.cell? ⟨bx, 0, none⟩ = some (.pointer none) := cell_at hB 0
  clear hb hW hY hB
  refine callsIn_of_wp Try.func57 rfl trivial ?_ rfl
  simp only [Try.ntmps57, List.size_toArray, List.length_cons, List.length_nil, Nat.reduceAdd, Nat.reduceSub, Array.replicate_succ, Array.replicate_zero, List.push_toArray, List.append_toArray, List.nil_append, List.cons_append]
  gi_wp2_with (refine ⟨trivial, wideD, ?_⟩; gi_at_call 54; refine (Calls.wide _ (next_nil 0)).mono ?_; rintro e w' ⟨rfl, rfl⟩)
  gi_loopw [3] (fun t wr => t = .int .i64 (-1) ∧ J [] wr) (fun t _ => 0)
  case atStart => exact ⟨rfl, h0⟩
  case round =>
    obtain ⟨rfl, hJ⟩ := hrel
    gi_wp2
    go_end0
    exact ⟨⟨_, rfl⟩, .inl ⟨[], rfl, hJ⟩⟩

/-- **Count.** -/
theorem count_at (h : SetAt w p g c S) :
    Calls Try.prog 51 #[.pointer (some ⟨p, 0, none⟩)] w fun e w' => e = .returned (.int .i64 (countT S)) ∧ Upd noB w w' := by
  have hs := h.small
  obtain ⟨n, hn⟩ : ∃ n : Nat, 50 ≤ n := ⟨50, Nat.le_refl _⟩
  refine (callsIn_wide (n := n)).1 (callsIn_of_wp_marks Try.func51 rfl trivial ?_ rfl)
  simp only [Try.ntmps51, List.size_toArray, List.length_cons, List.length_nil, Nat.reduceAdd, Nat.reduceSub, Array.replicate_succ, Array.replicate_zero, List.push_toArray, List.append_toArray, List.nil_append, List.cons_append]
  have H := Lib.hid h
  clear h
  gi_wp2_with (refine ⟨trivial, wideD, ?_⟩; gi_at_call 20; refine (Calls.wide _ (all_any _)).mono ?_; rintro e w' ⟨rfl, rfl⟩)
  have u1 : Upd noB w ((w.alloc (.cells #[.int .i64 0] 3)).alloc (.cells #[.pointer (some ⟨p, 0, none⟩)] 23)) := ((Upd.refl _ _).alloc _).alloc _
  have hbx : ((w.alloc (.cells #[.int .i64 0] 3)).alloc (.cells #[.pointer (some ⟨p, 0, none⟩)] 23)).heap[w.heap.size + 1]? = some (.cells #[.pointer (some ⟨p, 0, none⟩)] 23 (0, 0)) := by
    have := heap_alloc_new (w.alloc (.cells #[.int .i64 0] 3)) (.cells #[.pointer (some ⟨p, 0, none⟩)] 23); rwa [World.size_alloc] at this
  refine wpIn_rangeFunc_ownG rfl (by omega) (gf := 57) (lb := #[.pointer (some ⟨w.heap.size + 1, 0, none⟩)]) rfl trivial (enters_of Try.func57 (by kernel_rfl) rfl)
    (all1_stops (n - 1) _ (H.out.upd0 u1) hbx) (fun h k => h.trans k) (fun W l o o' => KeepB.putObj _ W l o o') (Below.refl _ _) (fun _ => rfl)
    (fun pre W => W.heap[w.heap.size]? = some (.cells #[.int .i64 (pre.length : Int)] 3 (0, 0)) ∧ Upd noB w W)
    (fun _ _ _ => False)
    (fun s A B row hs hg hr => ⟨keepA_row hg hr _ _ _ _ hs.1, upd_row hs.2 (by simp; omega) hg hr⟩)
    (fun _ _ _ _ _ hs _ _ => hs)
    ⟨(Upd.refl noB _).alloc _ |>.at (heap_alloc_new w _) (fun x => x), u1⟩
    (fun x => { tmps := #[.pointer (some ⟨p, 0, none⟩), undef, .int .i64 0, .pointer (some ⟨w.heap.size, 0, none⟩), .pointer (some ⟨p, 0, none⟩), .func (.func 57) #[] #[.pointer (some ⟨w.heap.size + 1, 0, none⟩)], .int .i64 x, undef, undef, undef], defers := [] }) ?assign ?body ?done ?stop
  case assign =>
    intro l x W K hK
    rw [zip_one]
    gi_wp2
    exact hK
  case body =>
    rintro l pre x W ⟨hc, hu⟩ hlen
    have hc1 : W.cell? ⟨w.heap.size, 0, none⟩ = some (.int .i64 (pre.length : Int)) := cell_at hc 0
    have hf1 : W.frozen? ⟨w.heap.size, 0, none⟩ = false := frozen_at hc 0
    have hl : pre.length < 2048 := by have := numsFrom_length_le S; omega
    have HC := Lib.hid hc
    clear hc
    gi_wp2
    refine ⟨(KeepsOthers.setCell _ _ _).from _, ?_, ?_, ?_⟩
    · refine KeepB.upd (S := oneB w.heap.size) (Upd.setCell (Upd.refl _ _) ?_ _) (by have h1 := H.out.plt; have h2 := H.out.glt; simp [oneB]; omega); exact .inl rfl
    · rw [setCell_at HC.out]; simp
    · exact hu.setCell (.inr (Nat.le_refl _)) _
  case done =>
    rintro D ys W hD rfl ⟨hc, hu⟩ hK
    have hc1 : W.cell? ⟨w.heap.size, 0, none⟩ = some (.int .i64 ((numsFrom S 0).length : Int)) := cell_at hc 0
    clear hc
    gi_wp2
    refine ⟨by simp, .inl ⟨_, _, rfl, run_takeDeferred hK, ?_⟩⟩
    exact ⟨_, results_tmp rfl _ _ _, rfl, hu.grown (grownBy_putObj' W D _) (fun k e => by cases e; right; simp at hD; omega)⟩
  case stop =>
    rintro D c pre W _ _ h _
    exact h.elim

/-- Runs hands the iterator out. -/
theorem runs_any (pv : Option Addr) :
    Calls Try.prog 21 #[.pointer pv] w fun e w' => e = .returned (.func (.func 58) #[] #[.pointer (some ⟨w.heap.size, 0, none⟩)]) ∧ w' = w.alloc (.cells #[.pointer pv] 23) := by
  go_enter Try.func21, Try.ntmps21
  go_wp2
  go_ret
  exact ⟨rfl, rfl⟩

set_option maxHeartbeats 4000000 in
/-- The iterator Runs: the runs of the set, rising. -/
theorem runs1_stops (n bx : Nat) (h : SetAt w p g c S) (hb : w.heap[bx]? = some (.cells #[.pointer (some ⟨p, 0, none⟩)] 23 (0, 0))) :
    SeqStopsK Fence.wide n Try.prog 58 #[.pointer (some ⟨bx, 0, none⟩)] (fun x : Nat × Nat => #[Value.int .i64 (x.1 : Int), Value.int .i64 (x.2 : Int)]) (KeepB [bx, p, g]) (fun ys => ys = runsFrom S 0) (fun pre => pre <+: runsFrom S 0) (runsFrom S 0).length w := by
  intro l J Jx W hW _ _ hY h0
  have hS : SetAt W p g c S := h.upd0 ⟨hW.os, hW.tape, hW.output, hW.size, fun k hk _ => hW.block k hk⟩
  have hB : W.heap[bx]? = some (.cells #[.pointer (some ⟨p, 0, none⟩)] 23 (0, 0)) := (hW.block bx (lt_of_block hb)).trans hb
  have hs := h.small
  clear h hb hW
  refine callsIn_of_wp Try.func58 rfl trivial ?_ rfl
  simp only [Try.ntmps58, List.size_toArray, List.length_cons, List.length_nil, Nat.reduceAdd, Nat.reduceSub, Array.replicate_succ, Array.replicate_zero, List.push_toArray, List.append_toArray, List.nil_append, List.cons_append]
  have hbc : W.cell? ⟨bx, 0, none⟩ = some (.pointer (some ⟨p, 0, none⟩)) := cell_at hB 0
  have HN := Lib.hid (next_at hS 0)
  have HS := Lib.hid hS
  have HB := Lib.hid hB
  clear hS hB
  gi_wp2_with (refine ⟨trivial, wideD, ?_⟩; gi_at_call 54; refine (Calls.wide _ HN.out).mono ?_; rintro e w' ⟨rfl, rfl⟩)
  gi_loopw [3] (fun t wr => ∃ (pre : List (Nat × Nat)) (j : Nat), t = .int .i64 (findFrom S j true) ∧ Hid (pre ++ runsFrom S j = runsFrom S 0) ∧ SetAt wr p g c S ∧ Hid (wr.heap[bx]? = some (.cells #[.pointer (some ⟨p, 0, none⟩)] 23 (0, 0))) ∧ J pre wr)
    (fun t _ => msr S.length t)
  case atStart => exact ⟨[], 0, rfl, rfl, HS.out, HB.out, h0⟩
  case round =>
    obtain ⟨pre, j, rfl, hpre, hSr, hBr, hJ⟩ := hrel
    have hbc : wr.cell? ⟨bx, 0, none⟩ = some (.pointer (some ⟨p, 0, none⟩)) := cell_at hBr.out 0
    rcases findFrom_lt S true _ j rfl with h1 | ⟨k, h1, h2, h3, h4, _⟩
    · rw [h1]
      have hfin : pre = runsFrom S 0 := by have := hpre.out; rwa [runsFrom_none S j h1, List.append_nil] at this
      have HF := Lib.hid hfin
      clear h1 hfin hpre
      gi_wp2
      go_end0
      exact ⟨⟨_, rfl⟩, .inl ⟨pre, HF.out, hJ⟩⟩
    · rw [h1]
      have hp2 : (pre ++ [(k, runEnd S k - k)]) ++ runsFrom S (runEnd S k) = runsFrom S 0 := by rw [List.append_assoc, List.singleton_append, ← runsFrom_next S j k h1]; exact hpre.out
      have hlen : pre.length < (runsFrom S 0).length := by rw [← hp2]; simp
      obtain ⟨e1, e2, _, _⟩ := runEnd_spec S k h3 h4
      have HP := Lib.hid hp2
      obtain ⟨fn, tmps, assign, body, hy, hR⟩ := hY pre (k, runEnd S k - k) wr hJ hlen
      dsimp only at hy
      have HR := Lib.hid hR
      have hcast : ((runEnd S k - k : Nat) : Int) = (runEnd S k : Int) - k := by omega
      rw [hcast] at hy
      have HG := Lib.hid (gap_at hSr (k : Int))
      have HZ := Lib.hid (size_at hSr)
      have hgv : (∃ m : Nat, findFrom S k false = m ∧ runEnd S k = m) ∨ (findFrom S k false = -1 ∧ runEnd S k = S.length) := by
        rcases findFrom_lt S false _ k rfl with q1 | ⟨m, q1, _⟩
        · exact .inr ⟨q1, by unfold runEnd; rw [q1, if_pos (by decide)]⟩
        · exact .inl ⟨m, q1, by unfold runEnd; rw [q1, if_neg (by omega)]; omega⟩
      clear h1 h4 hp2 hpre hY hR hlen hcast
      rcases hgv with ⟨m, q1, q2⟩ | ⟨q1, q2⟩
      all_goals
        rw [q2] at e1 e2 HP hy HR
      · have HG2 := Lib.hid (HG.out.mono (R' := fun e w' => e = .returned (.int .i64 (m : Int)) ∧ wr = w') (fun e w' hh => ⟨by rw [hh.1]; simp [q1], hh.2⟩))
        have hd : decide ((m : Int) < 0) = false := by simp
        clear q1 q2 HG
        gi_wp2_with (refine ⟨trivial, wideD, ?_⟩; gi_at_call 56; refine (Calls.wide _ HG2.out).mono ?_; rintro e w' ⟨rfl, rfl⟩)
        refine ⟨wideD, HR.out.mono ?_⟩
        rintro e W3 (⟨rfl, hJ3, hk3⟩ | ⟨rfl, hJx3⟩)
        · have hS3 := hSr.keepB hk3 (by simp) (by simp)
          have hB3 := hk3 bx (by simp) _ _ _ hBr.out
          have hbc3 : W3.cell? ⟨bx, 0, none⟩ = some (.pointer (some ⟨p, 0, none⟩)) := cell_at hB3 0
          have HN := Lib.hid (next_at hS3 (m : Int))
          have HB3 := Lib.hid hB3
          clear hB3 hbc hk3
          gi_wp2_with (refine ⟨trivial, wideD, ?_⟩; gi_at_call 54; refine (Calls.wide _ HN.out).mono ?_; rintro e w' ⟨rfl, rfl⟩)
          go_roundw
          case rel => exact ⟨_, m, rfl, HP.out, hS3, HB3.out, hJ3⟩
          case measure =>
            rcases findFrom_lt S true _ m rfl with h1 | ⟨q, h1, h5, h6, _⟩
            · rw [h1, msr_neg, msr_nat]; omega
            · rw [h1, msr_nat, msr_nat]; omega
        · gi_wp2
          refine bodyPost_ret (results_none rfl _ _ _) rfl ?_
          exact ⟨⟨_, rfl⟩, .inr ⟨_, ⟨runsFrom S m, HP.out⟩, hJx3⟩⟩
      · have HG2 := Lib.hid (HG.out.mono (R' := fun e w' => e = .returned (.int .i64 (-1)) ∧ wr = w') (fun e w' hh => ⟨by rw [hh.1]; simp [q1], hh.2⟩))
        clear q1 q2 HG
        gi_wp2_with (first | (refine ⟨trivial, wideD, ?_⟩; gi_at_call 56; refine (Calls.wide _ HG2.out).mono ?_; rintro e w' ⟨rfl, rfl⟩) | (refine ⟨trivial, wideD, ?_⟩; gi_at_call 14; refine (Calls.wide _ HZ.out).mono ?_; rintro e w' ⟨rfl, rfl⟩))
        refine ⟨wideD, HR.out.mono ?_⟩
        rintro e W3 (⟨rfl, hJ3, hk3⟩ | ⟨rfl, hJx3⟩)
        · have hS3 := hSr.keepB hk3 (by simp) (by simp)
          have hB3 := hk3 bx (by simp) _ _ _ hBr.out
          have hbc3 : W3.cell? ⟨bx, 0, none⟩ = some (.pointer (some ⟨p, 0, none⟩)) := cell_at hB3 0
          have HN := Lib.hid (next_at hS3 (S.length : Int))
          have HB3 := Lib.hid hB3
          clear hB3 hbc hk3
          gi_wp2_with (refine ⟨trivial, wideD, ?_⟩; gi_at_call 54; refine (Calls.wide _ HN.out).mono ?_; rintro e w' ⟨rfl, rfl⟩)
          go_roundw
          case rel => exact ⟨_, S.length, rfl, HP.out, hS3, HB3.out, hJ3⟩
          case measure =>
            have h1 := findFrom_out S S.length true (Nat.le_refl _)
            rw [h1, msr_neg, msr_nat]; omega
        · gi_wp2
          refine bodyPost_ret (results_none rfl _ _ _) rfl ?_
          exact ⟨⟨_, rfl⟩, .inr ⟨_, ⟨runsFrom S S.length, HP.out⟩, hJx3⟩⟩
end
end Go.Proofs.Ytejpcgoblgaieaa.Law
