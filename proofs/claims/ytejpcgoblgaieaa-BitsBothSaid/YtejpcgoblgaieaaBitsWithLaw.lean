/-
  Or and Less of package bits, at the kind hibernacle/hibernaclelaw06.Page of numbers.
-/
import Derived.Test.YtejpcgoblgaieaaBitsIterLaw
import Derived.Deep.RegionHeld3
set_option linter.unusedVariables false
set_option linter.unusedSimpArgs false
namespace Go.Proofs.Ytejpcgoblgaieaa.Law
open Go.RowKit Go.Proofs.Ytejpcgoblgaieaa
attribute [local go_sem] Oper.semAt_some
section
variable {p g c p' g' c' : Nat} {S S' : List Bool} {w : World}

/-- A row, and all numbers of another one put in, or taken out. -/
def foldI (S : List Bool) (l : List Nat) (x : Bool) : List Bool := l.foldl (fun (S : List Bool) (i : Nat) => putI S (i : Int) x) S
theorem foldI_length (l : List Nat) (x : Bool) : ∀ S, (foldI S l x).length = S.length := by
  induction l with
  | nil => intro S; rfl
  | cons a l ih => intro S; exact (ih _).trans (putI_length S a x)
theorem foldI_snoc (S : List Bool) (l : List Nat) (a : Nat) (x : Bool) : foldI S (l ++ [a]) x = putI (foldI S l x) (a : Int) x := by simp [foldI]

set_option maxHeartbeats 4000000 in
theorem with_gen (h : SetAt w p g c S) (pv : Option Addr) (x : Bool) (ys : List Nat) (F : List Nat) (hF : ∀ k ∈ F, k < w.heap.size) (Sp : List Nat → Prop) (N : Nat)
    (hseq : ∀ (n bx : Nat) (W : World), Upd noB w W → W.heap[bx]? = some (.cells #[.pointer pv] 23 (0, 0)) →
      SeqStopsK Fence.wide n Try.prog 57 #[.pointer (some ⟨bx, 0, none⟩)] (fun x : Nat => #[Value.int .i64 (x : Int)]) (KeepB (bx :: F)) (fun zs => zs = ys) Sp N W) :
    Calls Try.prog 64 #[.pointer (some ⟨p, 0, none⟩), .pointer pv, .bool x] w fun e w' => ∃ q r d, e = .returned (.pointer (some ⟨q, 0, none⟩)) ∧ SetAt w' q r d (foldI S ys x) ∧ Upd noB w w' ∧ w.heap.size ≤ q ∧ w.heap.size ≤ r := by
  obtain ⟨n, hn⟩ : ∃ n : Nat, 50 ≤ n := ⟨50, Nat.le_refl _⟩
  refine (callsIn_wide (n := n)).1 (callsIn_of_wp_marks Try.func64 rfl trivial ((wpIn_wide (n := n)).2 ?_) rfl)
  simp only [Try.ntmps64, List.size_toArray, List.length_cons, List.length_nil, Nat.reduceAdd, Nat.reduceSub, Array.replicate_succ, Array.replicate_zero, List.push_toArray, List.append_toArray, List.nil_append, List.cons_append]
  have hc0 := h.cell0
  have hplt := h.plt
  have H := Lib.hid h
  have HQ := Lib.hid hseq
  clear h hseq
  go_upto_region 3 with fail
  go_cut [7] from 11 to 18 (fun v W => ∃ bo q r d : Nat, v = .pointer (some ⟨bo, 0, none⟩) ∧ Hid (W.heap[bo]? = some (.cells #[.pointer (some ⟨q, 0, none⟩)] 23 (0, 0))) ∧
    Hid (W.heap[w.heap.size]? = some (.cells #[.bool x] 4 (0, 0))) ∧ SetAt W q r d S ∧ Hid (Upd noB w W) ∧ w.heap.size < bo ∧ w.heap.size ≤ q ∧ w.heap.size ≤ r)
  case first =>
    go_region_held3 (fun w' => w'.cell? ⟨p, 0, none⟩ = some (.int .i64 (S.length : Int)))
      (first | (refine Upd.cell (S := fun k => k ≠ p) (w := w) ?_ hc0 (fun hh => hh rfl); (repeat (first | exact Upd.refl _ _ | refine Upd.alloc ?_ _ | refine Upd.drew ?_ | refine Upd.setCell ?_ (.inl (by dsimp only; omega)) _ | refine Upd.then0 ?_ hu)); done) | go_keep)
      (first
        | (go_at_call 25
           with_reducible refine (bytes_new (w := ((w.alloc (.cells #[.bool x] 4)).alloc (.cells #[.pointer none] 23)).drew) (H.out.upd0 ((((Upd.refl _ _).alloc _).alloc _).drew))).mono ?_
           rintro e w2 ⟨r, d, rfl, hr, hv, hu⟩
           have hc2 := hu.cell (a := ⟨p, 0, none⟩) (v := .int .i64 (S.length : Int)) (by go_keep) (fun x => x)
           have hlt2 : p < w2.heap.size := Nat.lt_of_lt_of_le (by simp; omega) hu.size
           have hc3 := hu.cell (a := ⟨w.heap.size + 1, 0, none⟩) (v := .pointer none) (by simp) (fun x => x)
           have hf3 : w2.frozen? ⟨w.heap.size + 1, 0, none⟩ = false := (hu.frozen (a := ⟨w.heap.size + 1, 0, none⟩) (by simp) (fun x => x)).trans (by simp)
           have hne3 : p ≠ w.heap.size + 1 := by omega
           have hl3 : w.heap.size + 1 < w2.heap.size := Nat.lt_of_lt_of_le (by simp) hu.size)
        | (go_at_call 25
           with_reducible refine (bytes_new (w := (w.alloc (.cells #[.bool x] 4)).drew) (H.out.upd0 (((Upd.refl _ _).alloc _).drew))).mono ?_
           rintro e w2 ⟨r, d, rfl, hr, hv, hu⟩
           have hc2 := hu.cell (a := ⟨p, 0, none⟩) (v := .int .i64 (S.length : Int)) (by go_keep) (fun x => x)
           have hlt2 : p < w2.heap.size := Nat.lt_of_lt_of_le (by simp; omega) hu.size))
    all_goals (go_wp2_with fail; go_meet)
    all_goals
      have hv' : w.heap.size ≤ r := by simp at hv; omega
      have hrl : r < w2.heap.size := ownsRow_lt hr r rfl
    · have hu1 : Upd noB w w2 := ((Upd.refl _ _).alloc _).drew.then0 hu
      have hfl : w2.heap[w.heap.size]? = some (.cells #[.bool x] 4 (0, 0)) := hu.at (heap_alloc_new w _) (fun x => x)
      exact ⟨_, w2.heap.size, r, d, rfl, heap_new2 _ _ _, heap_old _ _ (heap_old _ _ hfl), (SetAt.mk' H.out.small hr).upd0 ((Upd.refl _ _).alloc _), (hu1.alloc _).alloc _, by omega, by omega, hv'⟩
    · have hu1 : Upd noB w w2 := ((Upd.refl _ _).alloc _).drew.then0 hu
      have hfl : w2.heap[w.heap.size]? = some (.cells #[.bool x] 4 (0, 0)) := hu.at (heap_alloc_new w _) (fun x => x)
      have hs := SetAt.mk' H.out.small (hr.alloc (.cells #[.pointer (some ⟨w2.heap.size + 1, 0, none⟩)] 23))
      rw [World.size_alloc] at hs
      exact ⟨_, w2.heap.size + 1, r, d, rfl, heap_old _ _ (heap_alloc_new _ _), heap_old _ _ (heap_old _ _ hfl), hs, (hu1.alloc _).alloc _, by omega, by omega, hv'⟩
    · have hu1 : Upd noB w w2 := (((Upd.refl _ _).alloc _).alloc _).drew.then0 hu
      have hfl : w2.heap[w.heap.size]? = some (.cells #[.bool x] 4 (0, 0)) := hu.at (heap_old _ _ (heap_alloc_new w _)) (fun x => x)
      have hbx : w2.heap[w.heap.size + 1]? = some (.cells #[.pointer none] 23 (0, 0)) := hu.at (heap_new2 w _ _) (fun x => x)
      have hs1 : Upd (oneB (w.heap.size + 1)) w2 (w2.setCell ⟨w.heap.size + 1, 0, none⟩ (.pointer (some ⟨w2.heap.size, 0, none⟩))) := by
        refine Upd.setCell (Upd.refl _ _) ?_ _; exact .inl rfl
      have hrne : r ≠ w.heap.size + 1 := by simp at hv; omega
      have hs := SetAt.mk' H.out.small (ownsRow_upd hr hs1 (fun k e => by cases e; exact hrne))
      have hsz : (w2.setCell ⟨w.heap.size + 1, 0, none⟩ (.pointer (some ⟨w2.heap.size, 0, none⟩))).heap.size = w2.heap.size := by simp
      rw [hsz] at hs
      refine ⟨_, w2.heap.size, r, d, rfl, heap_old _ _ ?_, heap_old _ _ (hs1.at hfl (by show ¬ _ = _; omega)), hs, ((hu1.setCell (.inr (by dsimp only; omega)) _).alloc _), by omega, by omega, hv'⟩
      rw [setCell_at hbx]; simp
  case rest =>
    obtain ⟨bo, q, r, d, rfl, hbo, hfl, hs, hu, h1, h2, h3⟩ := hcut
    go_wp2_with (go_at_call 20; refine (all_any _).mono ?_; rintro e w3 ⟨rfl, rfl⟩)
    have hu1 : Upd noB w (wc.alloc (.cells #[.pointer pv] 23)) := hu.out.alloc _
    refine (wpIn_wide (n := n)).1 (wpIn_rangeFunc_ownG rfl (by omega) (gf := 57) (lb := #[.pointer (some ⟨wc.heap.size, 0, none⟩)]) rfl trivial (enters_of Try.func57 (by kernel_rfl) rfl)
      (HQ.out (n - 1) _ _ hu1 (heap_alloc_new wc _)) (fun h k => h.trans k) (fun W l o o' => KeepB.putObj _ W l o o') (Below.refl _ _) (fun _ => rfl)
      (fun pre W => W.heap[bo]? = some (.cells #[.pointer (some ⟨q, 0, none⟩)] 23 (0, 0)) ∧ W.heap[w.heap.size]? = some (.cells #[.bool x] 4 (0, 0)) ∧ SetAt W q r d (foldI S pre x) ∧ Upd noB w W)
      (fun _ _ _ => False)
      (fun s A B row hs hg hr => ⟨keepA_row hg hr _ _ _ _ hs.1, keepA_row hg hr _ _ _ _ hs.2.1, hs.2.2.1.keepB ((keepA_row hg hr).to [q, r]) (by simp) (by simp), upd_row hs.2.2.2 (by have := hu.out.size; simp; omega) hg hr⟩)
      (fun _ _ _ _ _ hs _ _ => hs)
      ⟨heap_old _ _ hbo.out, heap_old _ _ hfl.out, hs.upd0 ((Upd.refl _ _).alloc _), hu1⟩
      (fun i => { tmps := #[.pointer (some ⟨p, 0, none⟩), .pointer pv, .bool x, undef, undef, .pointer (some ⟨w.heap.size, 0, none⟩), .pointer none, .pointer (some ⟨bo, 0, none⟩), .int .i64 i, .pointer (some ⟨p, 0, none⟩), .bool false, u11, u12, u13, u14, u15, u16, u17, u18, .pointer pv, .func (.func 57) #[] #[.pointer (some ⟨wc.heap.size, 0, none⟩)], .int .i64 i, undef, undef, undef, undef, undef, undef, undef, undef], defers := [] }) ?assign ?body ?done ?stop)
    case assign =>
      intro l i W K hK
      rw [zip_one]
      gi_wp2
      exact hK
    case body =>
      rintro l pre i W ⟨hb1, hf1, hs1, hu2⟩ hlen
      have hbc : W.cell? ⟨bo, 0, none⟩ = some (.pointer (some ⟨q, 0, none⟩)) := cell_at hb1 0
      have hfc : W.cell? ⟨w.heap.size, 0, none⟩ = some (.bool x) := cell_at hf1 0
      have hgc := hs1.gcells
      have hne : r ≠ bo ∧ r ≠ w.heap.size := by
        obtain ⟨_, hr2⟩ := hs1.row
        rcases hr2 with ⟨e1, _⟩ | ⟨g0, _, cur, e1, _, hh, _⟩
        · cases e1
        · injection e1 with e1; injection e1 with e1; injection e1 with e1
          subst e1
          constructor
          · rintro rfl; rw [hb1] at hh; injection hh with hh; injection hh with _ ht; revert ht; decide
          · rintro e2; rw [e2] at hh; rw [hf1] at hh; injection hh with hh; injection hh with _ ht; revert ht; decide
      have HN := Lib.hid hne
      have hltr : ∀ k ∈ wc.heap.size :: F, ¬ oneB r k := by
        intro k hk e
        cases e
        have h4 := hs.glt
        rcases List.mem_cons.1 hk with h5 | h5
        · omega
        · have := hF r h5; omega
      clear hne
      have HP := Lib.hid (put_at hs1 (i : Int))
      have HD := Lib.hid (drop_at hs1 (i : Int))
      have HB := Lib.hid hb1
      have HF := Lib.hid hf1
      have HX := Lib.hid hs1.ne
      clear hb1 hf1 hs1
      have HG := Lib.hid hgc
      clear hgc
      cases x
      · gi_wp2_with (refine ⟨trivial, wideD, ?_⟩; gi_at_call 17; refine (Calls.round _ _ HD.out).mono ?_; rintro e W2 ⟨rfl, hs2, hu3⟩)
        refine ⟨keepsFrom_upd hu3 (fun k e => by cases e; exact .inr HG.out), KeepB.upd hu3 hltr, hu3.at HB.out (by show ¬ _ = _; have := HN.out; omega), hu3.at HF.out (by show ¬ _ = _; have := HN.out; omega), ?_, hu2.trans hu3 (fun k e => by cases e; exact .inr h3)⟩
        rw [foldI_snoc]; exact hs2
      · gi_wp2_with (refine ⟨trivial, wideD, ?_⟩; gi_at_call 16; refine (Calls.round _ _ HP.out).mono ?_; rintro e W2 ⟨rfl, hs2, hu3⟩)
        refine ⟨keepsFrom_upd hu3 (fun k e => by cases e; exact .inr HG.out), KeepB.upd hu3 hltr, hu3.at HB.out (by show ¬ _ = _; have := HN.out; omega), hu3.at HF.out (by show ¬ _ = _; have := HN.out; omega), ?_, hu2.trans hu3 (fun k e => by cases e; exact .inr h3)⟩
        rw [foldI_snoc]; exact hs2
    case done =>
      rintro D ys W hD rfl ⟨hb1, hf1, hs1, hu2⟩ hK
      have hbc : W.cell? ⟨bo, 0, none⟩ = some (.pointer (some ⟨q, 0, none⟩)) := cell_at hb1 0
      have HS := Lib.hid (hs1.putObj (.deferred none) hK rfl rfl)
      clear hs1 hb1 hf1
      go_wp2
      refine ⟨by simp, .inl ⟨_, _, rfl, run_takeDeferred hK, ?_⟩⟩
      exact ⟨_, results_tmp rfl _ _ _, q, r, d, rfl, HS.out, hu2.grown (grownBy_putObj' W D _) (fun k e => by cases e; right; have := hu.out.size; simp at hD; omega), h2, h3⟩
    case stop =>
      rintro D c pre W _ _ h _
      exact h.elim
theorem with_at (h : SetAt w p g c S) (h' : SetAt w p' g' c' S') (x : Bool) :
    Calls Try.prog 64 #[.pointer (some ⟨p, 0, none⟩), .pointer (some ⟨p', 0, none⟩), .bool x] w fun e w' => ∃ q r d, e = .returned (.pointer (some ⟨q, 0, none⟩)) ∧ SetAt w' q r d (foldI S (numsFrom S' 0) x) ∧ Upd noB w w' ∧ w.heap.size ≤ q ∧ w.heap.size ≤ r :=
  with_gen h _ x (numsFrom S' 0) [p', g'] (by intro k hk; rcases List.mem_cons.1 hk with rfl | hk; exact h'.plt; rcases List.mem_singleton.1 hk with rfl; exact h'.glt) _ _ (fun n bx W hu hb => all1_stops n bx (h'.upd0 hu) hb)
theorem with_none (h : SetAt w p g c S) (x : Bool) :
    Calls Try.prog 64 #[.pointer (some ⟨p, 0, none⟩), .pointer none, .bool x] w fun e w' => ∃ q r d, e = .returned (.pointer (some ⟨q, 0, none⟩)) ∧ SetAt w' q r d S ∧ Upd noB w w' ∧ w.heap.size ≤ q ∧ w.heap.size ≤ r :=
  with_gen h _ x [] [] (by intro k hk; cases hk) _ _ (fun n bx W hu hb => all1_nil n bx _ hb)
theorem or_at (h : SetAt w p g c S) (h' : SetAt w p' g' c' S') :
    Calls Try.prog 31 #[.pointer (some ⟨p, 0, none⟩), .pointer (some ⟨p', 0, none⟩)] w fun e w' => ∃ q r d, e = .returned (.pointer (some ⟨q, 0, none⟩)) ∧ SetAt w' q r d (foldI S (numsFrom S' 0) true) ∧ Upd noB w w' ∧ w.heap.size ≤ q ∧ w.heap.size ≤ r := by
  have H := Lib.hid (with_at h h' true)
  clear h h'
  go_enter Try.func31, Try.ntmps31
  go_wp2_with (go_at_call 64; refine H.out.mono ?_; rintro e w' ⟨q, r, d, rfl, hs, hu, h1, h2⟩)
  go_ret
  exact ⟨q, r, d, rfl, hs, hu, h1, h2⟩
theorem or_none (h : SetAt w p g c S) :
    Calls Try.prog 31 #[.pointer (some ⟨p, 0, none⟩), .pointer none] w fun e w' => ∃ q r d, e = .returned (.pointer (some ⟨q, 0, none⟩)) ∧ SetAt w' q r d S ∧ Upd noB w w' ∧ w.heap.size ≤ q ∧ w.heap.size ≤ r := by
  have H := Lib.hid (with_none h true)
  clear h
  go_enter Try.func31, Try.ntmps31
  go_wp2_with (go_at_call 64; refine H.out.mono ?_; rintro e w' ⟨q, r, d, rfl, hs, hu, h1, h2⟩)
  go_ret
  exact ⟨q, r, d, rfl, hs, hu, h1, h2⟩
theorem less_at (h : SetAt w p g c S) (h' : SetAt w p' g' c' S') :
    Calls Try.prog 32 #[.pointer (some ⟨p, 0, none⟩), .pointer (some ⟨p', 0, none⟩)] w fun e w' => ∃ q r d, e = .returned (.pointer (some ⟨q, 0, none⟩)) ∧ SetAt w' q r d (foldI S (numsFrom S' 0) false) ∧ Upd noB w w' ∧ w.heap.size ≤ q ∧ w.heap.size ≤ r := by
  have H := Lib.hid (with_at h h' false)
  clear h h'
  go_enter Try.func32, Try.ntmps32
  go_wp2_with (go_at_call 64; refine H.out.mono ?_; rintro e w' ⟨q, r, d, rfl, hs, hu, h1, h2⟩)
  go_ret
  exact ⟨q, r, d, rfl, hs, hu, h1, h2⟩
theorem less_none (h : SetAt w p g c S) :
    Calls Try.prog 32 #[.pointer (some ⟨p, 0, none⟩), .pointer none] w fun e w' => ∃ q r d, e = .returned (.pointer (some ⟨q, 0, none⟩)) ∧ SetAt w' q r d S ∧ Upd noB w w' ∧ w.heap.size ≤ q ∧ w.heap.size ≤ r := by
  have H := Lib.hid (with_none h false)
  clear h
  go_enter Try.func32, Try.ntmps32
  go_wp2_with (go_at_call 64; refine H.out.mono ?_; rintro e w' ⟨q, r, d, rfl, hs, hu, h1, h2⟩)
  go_ret
  exact ⟨q, r, d, rfl, hs, hu, h1, h2⟩
end
end Go.Proofs.Ytejpcgoblgaieaa.Law
