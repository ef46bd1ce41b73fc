/-
  Package table: where nothing is told, what is ranged over, and how much it is: each walked once.
-/
import Derived.Test.YtejpcgoblgaieaaTable
import Derived.Test.YtejpcgoblgaieaaBitsPlain
set_option linter.unusedVariables false
set_option linter.unusedSimpArgs false
namespace Go.Proofs.Ytejpcgoblgaieaa
open Go.RowKit
attribute [local go_sem] Oper.semAt_some

/-- Of which pages something is told. -/
def occ (X : List Int) : List Bool := X.map fun x => decide (0 < x)
theorem occ_length (X : List Int) : (occ X).length = X.length := by simp [occ]
theorem tr_occ (X : List Int) (i : Nat) : tr (occ X) i = decide (0 < X.getD i 0) := by
  unfold tr occ
  rw [List.getD_eq_getElem?_getD, List.getElem?_map, List.getD_eq_getElem?_getD]
  cases X[i]? <;> rfl
/-- All pages of which something is told, from one on, with where they are. -/
def pairs (X : List Int) (j : Nat) : List (Nat × Int) := (numsFrom (occ X) j).map fun l => (l, X.getD l 0)
theorem pairs_out (X : List Int) (j : Nat) (h : X.length ≤ j) : pairs X j = [] := by
  unfold pairs; rw [numsFrom_out _ j (by rw [occ_length]; exact h)]; rfl
theorem pairs_hit (X : List Int) (j : Nat) (h : j < X.length) (hx : 0 < X.getD j 0) : pairs X j = (j, X.getD j 0) :: pairs X (j + 1) := by
  unfold pairs; rw [numsFrom_hit _ j (by rw [occ_length]; exact h) (by rw [tr_occ]; simpa using hx)]; rfl
theorem pairs_miss (X : List Int) (j : Nat) (h : j < X.length) (hx : ¬ 0 < X.getD j 0) : pairs X j = pairs X (j + 1) := by
  unfold pairs; rw [numsFrom_miss _ j (by rw [occ_length]; exact h) (by rw [tr_occ]; simpa using hx)]
theorem pairs_length (X : List Int) : (pairs X 0).length = countT (occ X) := by simp [pairs, countT]
theorem countT_le (X : List Int) : countT (occ X) ≤ X.length := by
  have := numsFrom_length_le (occ X); rw [occ_length] at this; exact this
section
variable {w : World} {p : Nat} {X : List Int}

set_option maxHeartbeats 1000000 in
/-- **Gap.** -/
theorem tgap_at (h : TabAt w p X) (hX : Told X) (l : Int) :
    Calls Try.prog 80 #[.pointer (some ⟨p, 0, none⟩), .int .i64 l] w fun e w' => e = .returned (.int .i64 (findFrom (occ X) l.toNat false)) ∧ w = w' := by
  have hlen : (occ X).length = 512 := by rw [occ_length, h.len]
  have HG := Lib.hid (fun l => get_at h hX l)
  clear h
  go_enter Try.func80, Try.ntmps80
  go_wp2
  all_goals
    go_loop [1] (fun t => ∃ k : Nat, t = .int .i64 k ∧ Hid (findFrom (occ X) k false = findFrom (occ X) l.toNat false)) (fun t => 512 - (intOf t).toNat)
    case atStart => exact ⟨l.toNat, congrArg (Value.int .i64) (by omega), rfl⟩
    case round =>
      obtain ⟨k, rfl, hk⟩ := hrel
      by_cases hlt : k < 512
      · have hg := HG.out (k : Int)
        rw [atI_nat X k hlt] at hg
        by_cases hx : 0 < X.getD k 0
        · have hfin : findFrom (occ X) k false = findFrom (occ X) (k + 1) false := findFrom_miss _ k false (by rw [hlen]; exact hlt) (by rw [tr_occ]; simpa using hx)
          have HF := Lib.hid (hfin.symm.trans hk.out)
          have hb : decide (0 < X.getD k 0) = true := by simpa using hx
          rw [hb] at hg
          have Hg := Lib.hid hg
          have hd : decide ((k : Int) < 512) = true := by simp; omega
          clear hk hfin hx hb hg
          go_wp2_with (go_at_call 61; refine Hg.out.mono ?_; rintro e w' ⟨rfl, rfl⟩)
          go_round
          case rel => exact ⟨k + 1, by go_num, HF.out⟩
          case measure => simp [intOf]; omega
        · have hfin : findFrom (occ X) k false = k := findFrom_hit _ k false (by rw [hlen]; exact hlt) (by rw [tr_occ]; simpa using hx)
          have HF := Lib.hid (hk.out.symm.trans hfin)
          have hb : decide (0 < X.getD k 0) = false := by simpa using hx
          rw [hb] at hg
          have Hg := Lib.hid hg
          have hd : decide ((k : Int) < 512) = true := by simp; omega
          clear hk hfin hx hb hg
          go_wp2_with (go_at_call 61; refine Hg.out.mono ?_; rintro e w' ⟨rfl, rfl⟩)
          go_ret
          exact ⟨ret_int HF.out.symm, rfl⟩
      · have HF := Lib.hid (hk.out.symm.trans (findFrom_out _ k false (by rw [hlen]; omega)))
        have hd : decide ((k : Int) < 512) = false := by simp; omega
        clear hk
        go_wp2
        go_ret
        exact ⟨ret_int HF.out.symm, rfl⟩

set_option maxHeartbeats 1000000 in
theorem tall_any (pv : Option Addr) :
    Calls Try.prog 28 #[.pointer pv] w fun e w' => e = .returned (.func (.func 62) #[] #[.pointer (some ⟨w.heap.size, 0, none⟩)]) ∧ w' = w.alloc (.cells #[.pointer pv] 55) := by
  go_enter Try.func28, Try.ntmps28
  go_wp2
  go_ret
  exact ⟨rfl, rfl⟩

theorem TabAt.keepB {F : List Nat} {w w' : World} {p : Nat} {X : List Int} (h : TabAt w p X) (hu : KeepB F w w') (hp : p ∈ F) : TabAt w' p X := ⟨hu p hp _ _ _ h.hp, h.len⟩

set_option maxRecDepth 100000 in
set_option maxHeartbeats 4000000 in
/-- The iterator All: the pages of which something is told, rising, with where they are. -/
theorem tall1_stops (n bx : Nat) (h : TabAt w p X) (hX : Told X) (hb : w.heap[bx]? = some (.cells #[.pointer (some ⟨p, 0, none⟩)] 55 (0, 0))) :
    SeqStopsK Fence.wide n Try.prog 62 #[.pointer (some ⟨bx, 0, none⟩)] (fun x : Nat × Int => #[Value.int .i64 (x.1 : Int), Value.int .i64 x.2]) (KeepB [bx, p]) (fun ys => ys = pairs X 0) (fun pre => pre <+: pairs X 0) (pairs X 0).length w := by
  intro l J Jx W hW _ _ hY h0
  have hS : TabAt W p X := h.upd0 ⟨hW.os, hW.tape, hW.output, hW.size, fun k hk _ => hW.block k hk⟩
  have hB : W.heap[bx]? = some (.cells #[.pointer (some ⟨p, 0, none⟩)] 55 (0, 0)) := (hW.block bx (lt_of_block hb)).trans hb
  have hlen := h.len
  clear h hb hW
  refine callsIn_of_wp Try.func62 rfl trivial ?_ rfl
  simp only [Try.ntmps62, List.size_toArray, List.length_cons, List.length_nil, Nat.reduceAdd, Nat.reduceSub, Array.replicate_succ, Array.replicate_zero, List.push_toArray, List.append_toArray, List.nil_append, List.cons_append]
  have HS := Lib.hid hS
  have HB := Lib.hid hB
  have HLEN := Lib.hid hlen
  clear hS hB hlen
  gi_wp2
  gi_loopw [6] (fun t wr => ∃ (pre : List (Nat × Int)) (j : Nat), t = .int .i64 (j : Int) ∧ Hid (pre ++ pairs X j = pairs X 0) ∧ Hid (TabAt wr p X) ∧ Hid (wr.heap[bx]? = some (.cells #[.pointer (some ⟨p, 0, none⟩)] 55 (0, 0))) ∧ J pre wr)
    (fun t _ => 512 - (intOf t).toNat)
  case atStart => exact ⟨[], 0, rfl, rfl, HS.out, HB.out, h0⟩
  case round =>
    obtain ⟨pre, j, rfl, hpre, hSr, hBr, hJ⟩ := hrel
    have hbc : wr.cell? ⟨bx, 0, none⟩ = some (.pointer (some ⟨p, 0, none⟩)) := cell_at hBr.out 0
    by_cases hlt : j < 512
    · have hd : decide ((j : Int) < 512) = true := by simp; omega
      have hg := get_at hSr.out hX (j : Int)
      rw [atI_nat X j hlt] at hg
      have hph := pairs_hit X j (by rw [HLEN.out]; exact hlt)
      have hpm := pairs_miss X j (by rw [HLEN.out]; exact hlt)
      obtain ⟨x, hxv⟩ : ∃ x, X.getD j 0 = x := ⟨_, rfl⟩
      rw [hxv] at hg hph hpm
      clear hxv
      by_cases hx : 0 < x
      · have hp2 : (pre ++ [(j, x)]) ++ pairs X (j + 1) = pairs X 0 := by rw [List.append_assoc, List.singleton_append, ← hph hx]; exact hpre.out
        have hlen : pre.length < (pairs X 0).length := by rw [← hp2]; simp
        have HP := Lib.hid hp2
        have hb : decide (0 < x) = true := by simpa using hx
        rw [hb] at hg
        have Hg := Lib.hid hg
        obtain ⟨fn, tmps, assign, body, hy, hR⟩ := hY pre (j, x) wr hJ hlen
        have HR := Lib.hid hR
        clear hp2 hpre hY hR hlen hg hx hb hph hpm
        gi_wp2_with (refine ⟨trivial, wideD, ?_⟩; gi_at_call 61; refine (Calls.wide _ Hg.out).mono ?_; rintro e w' ⟨rfl, rfl⟩)
        refine ⟨wideD, HR.out.mono ?_⟩
        rintro e W3 (⟨rfl, hJ3, hk3⟩ | ⟨rfl, hJx3⟩)
        · have hS3 := hSr.out.keepB hk3 (by simp)
          have hB3 := hk3 bx (by simp) _ _ _ hBr.out
          have HS3 := Lib.hid hS3
          have HB3 := Lib.hid hB3
          clear hB3 hbc hk3 hS3
          gi_wp2
          go_roundw
          case rel => exact ⟨pre ++ [(j, x)], j + 1, by go_num, HP.out, HS3.out, HB3.out, hJ3⟩
          case measure => simp [intOf]; omega
        · gi_wp2
          refine bodyPost_ret (results_none rfl _ _ _) rfl ?_
          exact ⟨⟨_, rfl⟩, .inr ⟨pre ++ [(j, x)], ⟨pairs X (j + 1), HP.out⟩, hJx3⟩⟩
      · have HP := Lib.hid ((congrArg (pre ++ ·) (hpm hx)).symm.trans hpre.out)
        have hb : decide (0 < x) = false := by simpa using hx
        rw [hb] at hg
        have Hg := Lib.hid hg
        clear hpre hg hx hb hY hph hpm
        gi_wp2_with (refine ⟨trivial, wideD, ?_⟩; gi_at_call 61; refine (Calls.wide _ Hg.out).mono ?_; rintro e w' ⟨rfl, rfl⟩)
        refine ⟨fun f h => (by cases h), ?_⟩
        gi_wp2
        go_roundw
        case rel => exact ⟨pre, j + 1, by go_num, HP.out, hSr.out, hBr.out, hJ⟩
        case measure => simp [intOf]; omega
    · have hd : decide ((j : Int) < 512) = false := by simp; omega
      have hfin : pre = pairs X 0 := by have := hpre.out; rwa [pairs_out X j (by rw [HLEN.out]; omega), List.append_nil] at this
      have HF := Lib.hid hfin
      clear hfin hpre
      gi_wp2
      go_end0
      exact ⟨⟨_, rfl⟩, .inl ⟨pre, HF.out, hJ⟩⟩

set_option maxHeartbeats 4000000 in
/-- **Len.** -/
theorem tlen_at (h : TabAt w p X) (hX : Told X) :
    Calls Try.prog 29 #[.pointer (some ⟨p, 0, none⟩)] w fun e w' => e = .returned (.int .i64 (countT (occ X))) ∧ Upd noB w w' := by
  have hs := countT_le X
  rw [h.len] at hs
  obtain ⟨n, hn⟩ : ∃ n : Nat, 50 ≤ n := ⟨50, Nat.le_refl _⟩
  refine (callsIn_wide (n := n)).1 (callsIn_of_wp_marks Try.func29 rfl trivial ?_ rfl)
  simp only [Try.ntmps29, List.size_toArray, List.length_cons, List.length_nil, Nat.reduceAdd, Nat.reduceSub, Array.replicate_succ, Array.replicate_zero, List.push_toArray, List.append_toArray, List.nil_append, List.cons_append]
  have H := Lib.hid h
  clear h
  gi_wp2_with (refine ⟨trivial, wideD, ?_⟩; gi_at_call 28; refine (Calls.wide _ (tall_any _)).mono ?_; rintro e w' ⟨rfl, rfl⟩)
  have u1 : Upd noB w ((w.alloc (.cells #[.int .i64 0] 3)).alloc (.cells #[.pointer (some ⟨p, 0, none⟩)] 55)) := ((Upd.refl _ _).alloc _).alloc _
  have hbx : ((w.alloc (.cells #[.int .i64 0] 3)).alloc (.cells #[.pointer (some ⟨p, 0, none⟩)] 55)).heap[w.heap.size + 1]? = some (.cells #[.pointer (some ⟨p, 0, none⟩)] 55 (0, 0)) := by
    have := heap_alloc_new (w.alloc (.cells #[.int .i64 0] 3)) (.cells #[.pointer (some ⟨p, 0, none⟩)] 55); rwa [World.size_alloc] at this
  refine wpIn_rangeFunc_ownG rfl (by omega) (gf := 62) (lb := #[.pointer (some ⟨w.heap.size + 1, 0, none⟩)]) rfl trivial (enters_of Try.func62 (by kernel_rfl) rfl)
    (tall1_stops (n - 1) _ (H.out.upd0 u1) hX hbx) (fun h k => h.trans k) (fun W l o o' => KeepB.putObj _ W l o o') (Below.refl _ _) (fun _ => rfl)
    (fun pre W => W.heap[w.heap.size]? = some (.cells #[.int .i64 (pre.length : Int)] 3 (0, 0)) ∧ Upd noB w W)
    (fun _ _ _ => False)
    (fun s A B row hs hg hr => ⟨keepA_row hg hr _ _ _ _ hs.1, upd_row hs.2 (by simp; omega) hg hr⟩)
    (fun _ _ _ _ _ hs _ _ => hs)
    ⟨(Upd.refl noB _).alloc _ |>.at (heap_alloc_new w _) (fun x => x), u1⟩
    (fun x => { tmps := #[.pointer (some ⟨p, 0, none⟩), undef, .int .i64 0, .pointer (some ⟨w.heap.size, 0, none⟩), .pointer (some ⟨p, 0, none⟩), .func (.func 62) #[] #[.pointer (some ⟨w.heap.size + 1, 0, none⟩)], .int .i64 x.1, .int .i64 x.2, undef, undef, undef], defers := [] }) ?assign ?body ?done ?stop
  case assign =>
    intro l x W K hK
    rw [zip_two]
    gi_wp2
    exact hK
  case body =>
    rintro l pre x W ⟨hc, hu⟩ hlen
    have hc1 : W.cell? ⟨w.heap.size, 0, none⟩ = some (.int .i64 (pre.length : Int)) := cell_at hc 0
    have hf1 : W.frozen? ⟨w.heap.size, 0, none⟩ = false := frozen_at hc 0
    have hl : pre.length < 512 := by rw [pairs_length] at hlen; omega
    have HC := Lib.hid hc
    clear hc
    gi_wp2
    refine ⟨(KeepsOthers.setCell _ _ _).from _, ?_, ?_, ?_⟩
    · refine KeepB.upd (S := oneB w.heap.size) (Upd.setCell (Upd.refl _ _) ?_ _) (by have h1 := H.out.plt; simp [oneB]; omega); exact .inl rfl
    · rw [setCell_at HC.out]; simp
    · exact hu.setCell (.inr (Nat.le_refl _)) _
  case done =>
    rintro D ys W hD rfl ⟨hc, hu⟩ hK
    rw [pairs_length] at hc
    have hc1 : W.cell? ⟨w.heap.size, 0, none⟩ = some (.int .i64 (countT (occ X) : Int)) := cell_at hc 0
    clear hc
    gi_wp2
    refine ⟨by simp, .inl ⟨_, _, rfl, run_takeDeferred hK, ?_⟩⟩
    exact ⟨_, results_tmp rfl _ _ _, rfl, hu.grown (grownBy_putObj' W D _) (fun k e => by cases e; right; simp at hD; omega)⟩
  case stop =>
    rintro D c pre W _ _ h _
    exact h.elim
end
end Go.Proofs.Ytejpcgoblgaieaa
