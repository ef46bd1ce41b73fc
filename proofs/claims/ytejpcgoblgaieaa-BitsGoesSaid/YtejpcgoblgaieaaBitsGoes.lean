/-
  hibernaclelaw06.BitsGoes: walked once: for every size, every row of numbers and every stop it returns true.
-/
import Derived.Test.YtejpcgoblgaieaaLaw06c
import Derived.Test.YtejpcgoblgaieaaGoesPlain
import Derived.Test.YtejpcgoblgaieaaBitsMoreLaw
import Derived.Deep.DeepCutAuto
set_option linter.unusedVariables false
set_option linter.unusedSimpArgs false
namespace Go.Proofs.Ytejpcgoblgaieaa.BitsGoes
open Go.RowKit Go.Proofs.Ytejpcgoblgaieaa Go.Proofs.Ytejpcgoblgaieaa.Law Go.Proofs.Ytejpcgoblgaieaa.Ref06 Go.Proofs.Ytejpcgoblgaieaa.Law06
attribute [local go_sem] Oper.semAt_some
/-- Whole numbers, as cells. -/
def natC (l : List Nat) : List Value := l.map fun i : Nat => Value.int .i64 (i : Int)
theorem natC_snoc (l : List Nat) (i : Nat) : natC (l ++ [i]) = natC l ++ [.int .i64 (i : Int)] := by simp [natC]
theorem natC_length (l : List Nat) : (natC l).length = l.length := by simp [natC]
theorem info_i64t : (Try.prog.info? 3).map (fun i => (i.zero, i.size, i.bytes)) = some (some (.int .i64 0), 1, 8) := by kernel_rfl
theorem info_pair : (Try.prog.info? 46).map (fun i => (i.zero, i.size, i.bytes)) = some (some (.agg #[.int .i64 0, .int .i64 0]), 2, 16) := by kernel_rfl
theorem countT_le' (S : List Bool) : countT S ≤ S.length := numsFrom_length_le S
/-- A row of a call's own lives on. -/
theorem ownsRow_keepA {w w' : World} {base : Nat} {e : TypeId} {size : Nat} {v : Value} {n : Nat} {xs : List Value} (h : w.ownsRow base e size v n xs) (hk : KeepA w w') : w'.ownsRow base e size v n xs := by
  refine ⟨h.1, ?_⟩
  rcases h.2 with h2 | ⟨g, cap, cur, rfl, hb, hg, rest⟩
  · exact .inl h2
  · exact .inr ⟨g, cap, cur, rfl, hb, hk _ _ _ _ hg, rest⟩
theorem ownsRow_block {w : World} {base : Nat} {e : TypeId} {size : Nat} {v : Value} {n : Nat} {xs : List Value} (h : w.ownsRow base e size v n xs) {k : Nat} (hk : v.ownBlock = some k) : ∃ c, w.heap[k]? = some (.cells c e (0, 0)) := by
  rcases h.2 with ⟨rfl, _⟩ | ⟨g, cap, cur, rfl, _, hh, _⟩
  · simp [Value.ownBlock] at hk
  · have : g = k := by simpa [Value.ownBlock] using hk
    subst this; exact ⟨cur, hh⟩
theorem ownsRow_slice {w : World} {base : Nat} {e : TypeId} {size : Nat} {v : Value} {n : Nat} {xs : List Value} (h : w.ownsRow base e size v n xs) : ∃ A n c, v = .slice A n c := by
  rcases h.2 with ⟨rfl, _⟩ | ⟨g, cap, cur, rfl, _⟩
  · exact ⟨_, _, _, rfl⟩
  · exact ⟨_, _, _, rfl⟩
theorem ownsRow_form {w : World} {e : TypeId} {size : Nat} {v : Value} {n : Nat} {xs : List Value} (h : w.ownsRow 0 e size v n xs) (hsz : 0 < size) :
    ∃ A c, v = .slice A n c ∧ n ≤ c ∧ (0 < n → ∃ g, A = some ⟨g, 0, none⟩ ∧ ∀ j u, xs[j]? = some u → w.cell? ⟨g, j, none⟩ = some u) := by
  rcases h.2 with ⟨rfl, h0⟩ | ⟨g, cap, cur, rfl, _, hh, h1, _⟩
  · exact ⟨none, 0, by rw [h0], by omega, fun x => by omega⟩
  · refine ⟨_, cap, rfl, h1, fun _ => ⟨g, rfl, fun j u hj => ?_⟩⟩
    have := h.cells (g := g) rfl j u hj
    rwa [add0] at this
/-- What the first loop holds: the numbers so far, in the box b. -/
def I1 (W0 : World) (b : Nat) (pre : List Nat) (W : World) : Prop :=
  ∃ v, W.heap[b]? = some (.cells #[v] 22 (0, 0)) ∧ W.ownsRow 0 3 1 v pre.length (natC pre) ∧ (∀ k, v.ownBlock = some k → W0.heap.size ≤ k) ∧ Upd (oneB b) W0 W
/-- What the second loop holds: the runs so far, in the box b. -/
def I2 (W0 : World) (b : Nat) (pre : List (Nat × Nat)) (W : World) : Prop :=
  ∃ v, W.heap[b]? = some (.cells #[v] 42 (0, 0)) ∧ W.ownsRow 0 46 2 v pre.length (pairC pre) ∧ (∀ k, v.ownBlock = some k → W0.heap.size ≤ k) ∧ Upd (oneB b) W0 W
/-- What the third loop holds: how many were seen, in the box b. -/
def I3 (W0 : World) (b : Nat) (stop : Int) (pre : List Nat) (W : World) : Prop :=
  W.heap[b]? = some (.cells #[.int .i64 (pre.length : Int)] 3 (0, 0)) ∧ (stop < 1 ∨ (pre.length : Int) < stop) ∧ Upd (oneB b) W0 W
/-- What holds where it is left. -/
def X3 (W0 : World) (b : Nat) (stop : Int) (c : Code) (pre : List Nat) (W : World) : Prop :=
  c = .exit 10 ∧ W.heap[b]? = some (.cells #[.int .i64 (pre.length : Int)] 3 (0, 0)) ∧ stop = (pre.length : Int) ∧ 1 ≤ pre.length ∧ Upd (oneB b) W0 W
theorem goes_fin {w W : World} {nn D1 D2 D3 : Nat} {tmps : Array Value} (h1 : W.heap[D1]? = some (.deferred (some []))) (h2 : W.heap[D2]? = some (.deferred (some []))) (h3 : W.heap[D3]? = some (.deferred (some []))) (h12 : D1 < D2) (h23 : D2 < D3)
    (hU : Upd noB w W) (hw : w.heap.size ≤ D1) (h6 : tmps.getD 6 undef = .bool true) :
    bodyPostM Fence.wide nn Try.prog Try.f4 (fun e w' => e = .returned (.bool true) ∧ Upd noB w w') .ret { tmps := tmps, defers := [{ target := .collected D3, args := #[] }, { target := .collected D2, args := #[] }, { target := .collected D1, args := #[] }] } W := by
  have k2 : (W.putObj D3 (.deferred none)).heap[D2]? = some (.deferred (some [])) := by rw [World.putObj_heap_other (by omega)]; exact h2
  have k1 : ((W.putObj D3 (.deferred none)).putObj D2 (.deferred none)).heap[D1]? = some (.deferred (some [])) := by rw [World.putObj_heap_other (by omega), World.putObj_heap_other (by omega)]; exact h1
  refine ⟨by simp, .inl ⟨_, _, rfl, run_takeDeferred h3, ⟨by simp, .inl ⟨_, _, rfl, run_takeDeferred k2, ⟨by simp, .inl ⟨_, _, rfl, run_takeDeferred k1, ?_⟩⟩⟩⟩⟩⟩
  refine ⟨.bool true, ?_, rfl, ((hU.grown (grownBy_putObj' W D3 _) (fun k e => by cases e; right; omega)).grown (grownBy_putObj' _ D2 _) (fun k e => by cases e; right; omega)).grown (grownBy_putObj' _ D1 _) (fun k e => by cases e; right; omega)⟩
  rw [← h6]
  exact results_tmp rfl _ _ _
set_option maxRecDepth 100000 in
set_option maxHeartbeats 8000000 in
theorem walk (n : Int) (A : Option Addr) (cp : Nat) (zs : List Int) (stop : Int) (w : World) (hA : IntsIn w A zs) :
    Calls Try.prog 4 #[.int .i64 n, .slice A zs.length cp, .int .i64 stop] w fun e w' => e = .returned (.bool true) ∧ Upd noB w w' := by
  have HL := Lib.hid (fun W : World => lives_true (w := W))
  by_cases hbad : n < 0 ∨ 200 < n
  · rcases Int.lt_or_le n 0 with hb | hb
    · have hd : decide (n < 0) = true := by simpa using hb
      clear hbad hb
      go_enter Try.func4, Try.ntmps4
      go_wp2_with (go_at_call 12; refine (HL.out _).mono ?_; rintro e w' ⟨rfl, hu⟩)
      go_ret
      exact ⟨rfl, ((Upd.refl _ _).alloc _).then0 hu⟩
    · have hd : decide (n < 0) = false := by simpa using hb
      have hd2 : decide (n ≤ 200) = false := by simp; omega
      clear hbad hb
      go_enter Try.func4, Try.ntmps4
      go_wp2_with (first | (go_at_call 13; refine (few_at _).mono ?_; rintro e w' ⟨rfl, rfl⟩) | (go_at_call 12; refine (HL.out _).mono ?_; rintro e w' ⟨rfl, hu⟩))
      go_ret
      exact ⟨rfl, ((Upd.refl _ _).alloc _).then0 hu⟩
  obtain ⟨m, rfl⟩ := Int.eq_ofNat_of_zero_le (show 0 ≤ n by omega)
  have hm : m ≤ 200 := by omega
  have hd1 : decide ((m : Int) < 0) = false := by simp
  have hd2 : decide ((m : Int) ≤ 200) = true := by simp; omega
  have HA := Lib.hid hA
  obtain ⟨nn, hnn⟩ : ∃ n : Nat, 50 ≤ n := ⟨50, Nat.le_refl _⟩
  clear hbad hA
  refine (callsIn_wide (n := nn)).1 (callsIn_of_wp_marks Try.func4 rfl trivial ((wpIn_wide (n := nn)).2 ?_) rfl)
  simp only [Try.ntmps4, List.size_toArray, List.length_cons, List.length_nil, Nat.reduceAdd, Nat.reduceSub, Array.replicate_succ, Array.replicate_zero, List.push_toArray, List.append_toArray, List.nil_append, List.cons_append]
  go_upto_region 1 with fail
  obtain ⟨s5, hs5⟩ : ∃ a, a = w.heap.size := ⟨_, rfl⟩
  obtain ⟨W1, hW1⟩ : ∃ W, W = w.alloc (.cells #[.int .i64 stop] 3) := ⟨_, rfl⟩
  have hst : W1.heap[s5]? = some (.cells #[.int .i64 stop] 3 (0, 0)) := by rw [hW1, hs5]; exact heap_alloc_new _ _
  have hu1 : Upd noB w W1 := by rw [hW1]; exact (Upd.refl _ _).alloc _
  rw [← hW1, ← hs5]
  have HST := Lib.hid hst
  have HU1 := Lib.hid hu1
  have hs5w : w.heap.size ≤ s5 := by omega
  clear hW1 hs5 hst hu1
  go_upto_region 4 with (first | (go_at_call 13; refine (few_at _).mono ?_; rintro e w' ⟨rfl, rfl⟩) | (go_at_call 19; refine (made_at m hm A cp zs (HA.out.upd0 HU1.out)).mono ?_; rintro e w3 ⟨p, g, c, v, S, rfl, hSl, hs3, hr3, hu3, hp3, hg3⟩))
  have HSL := Lib.hid hSl
  have HS3 := Lib.hid hs3
  have HR3 := Lib.hid hr3
  have HST3 := Lib.hid (hu3.at HST.out (fun x => x))
  have HU3 := Lib.hid (HU1.out.then0 hu3)
  have hpg : w.heap.size ≤ p ∧ w.heap.size ≤ g := by have := HU1.out.size; exact ⟨by omega, by omega⟩
  clear hSl hs3 hr3 hu3 hp3 hg3 HST HU1 HA
  go_upto_region 5 with fail
  obtain ⟨b9, hb9⟩ : ∃ a, a = w3.heap.size := ⟨_, rfl⟩
  obtain ⟨W5, hW5⟩ : ∃ W, W = w3.alloc (.cells #[.slice none 0 0] 22) := ⟨_, rfl⟩
  have hbx9 : W5.heap[b9]? = some (.cells #[.slice none 0 0] 22 (0, 0)) := by rw [hW5, hb9]; exact heap_alloc_new _ _
  have hu5 : Upd noB w3 W5 := by rw [hW5]; exact (Upd.refl _ _).alloc _
  rw [← hW5, ← hb9]
  have HS5 := Lib.hid (HS3.out.upd0 hu5)
  have HR5 := Lib.hid (HR3.out.upd0 hu5)
  have HST5 := Lib.hid (hu5.at HST3.out (fun x => x))
  have HU5 := Lib.hid (HU3.out.then0 hu5)
  have hplt := HS3.out.plt
  have hglt := HS3.out.glt
  have hslt := lt_of_block HST3.out
  have hb9w : w.heap.size ≤ b9 := by rw [hb9]; exact HU3.out.size
  have hlt9 : p < b9 ∧ g < b9 ∧ s5 < b9 := ⟨by omega, by omega, by omega⟩
  have HB9 := Lib.hid hbx9
  have hb5 := lt_of_block hbx9
  clear hW5 hb9 hbx9 hu5 HS3 HR3 HST3 HU3 hplt hglt hslt
  have HEQ := fun (f : Fn) (cs bs : Array Value) (W : World) => eql_nilF Try.underlying40 f cs bs W
  go_wp2_with (go_at_call 20; refine (all_any _).mono ?_; rintro e W7 ⟨rfl, rfl⟩)
  clear HEQ
  have hcl := countT_le' S
  rw [HSL.out] at hcl
  have hbx := heap_alloc_new W5 (.cells #[.pointer (some ⟨p, 0, none⟩)] 23)
  obtain ⟨V1, hV1⟩ : ∃ W, W = W5.alloc (.cells #[.pointer (some ⟨p, 0, none⟩)] 23) := ⟨_, rfl⟩
  have huV1 : Upd noB W5 V1 := by rw [hV1]; exact (Upd.refl _ _).alloc _
  have hszV1 : V1.heap.size = W5.heap.size + 1 := by rw [hV1]; exact World.size_alloc _ _
  rw [← hV1] at hbx ⊢
  obtain ⟨bx, hbxe⟩ : ∃ b, b = W5.heap.size := ⟨_, rfl⟩
  rw [← hbxe] at hbx ⊢
  have HSV := Lib.hid (HS5.out.upd0 huV1)
  have HB9V := Lib.hid (huV1.at HB9.out (fun x => x))
  have hb9V : b9 < V1.heap.size := by omega
  have hbn : bx ≠ b9 ∧ bx < V1.heap.size := ⟨by omega, by omega⟩
  clear hV1
  refine (wpIn_wide (n := nn)).1 (wpIn_rangeFunc_ownG rfl (by omega) (gf := 57) (lb := #[.pointer (some ⟨bx, 0, none⟩)]) rfl trivial (enters_of Try.func57 (by kernel_rfl) rfl)
    (all1_stops (nn - 1) _ HSV.out hbx) (fun h k => h.trans k) (fun W l o o' => KeepB.putObj _ W l o o') (Below.refl _ _) (fun _ => rfl)
    (I1 V1 b9)
    (fun _ _ _ => False)
    (fun s A B row hs hg hr => by
      obtain ⟨u, h1, h2, h3, h4⟩ := hs
      exact ⟨u, keepA_row hg hr _ _ _ _ h1, ownsRow_keepA h2 (keepA_row hg hr), h3, upd_row h4 (Nat.le_refl _) hg hr⟩)
    (fun _ _ _ _ _ hs _ _ => hs)
    ⟨_, HB9V.out, World.ownsRow_nil _ _ _ _, fun k hk => by simp [Value.ownBlock] at hk, Upd.refl _ _⟩
    ?a1 ?assign ?body ?done ?stop)
  case assign =>
    intro l x W K hK
    rw [zip_one]
    gi_wp2
    exact hK
  case body =>
    rintro l ipre x W ⟨u, h1, h2, h3, h4⟩ hlen
    have hc9 : W.cell? ⟨b9, 0, none⟩ = some u := cell_at h1 0
    have hf9 := frozen_at h1 0
    have hn2 : ipre.length < 200 := by rw [show (numsFrom S 0).length = countT S from rfl] at hlen; omega
    have H1 := Lib.hid h1
    have H2 := Lib.hid h2
    have H3 := Lib.hid h3
    have H4 := Lib.hid h4
    clear h1 h2 h3 h4 hbx huV1 hlen
    have hown2 : (W.alloc (.cells #[.int .i64 (x : Int)] 3)).heap[b9]? = some (.cells #[u] 22 (0, 0)) := heap_old _ _ H1.out
    gi_wp2_with (gi_at_builtin; refine append_eltIn (W := W) rfl (.tmp 45) (.tmp 47) 22 3 (.int .i64 0) 1 8 rfl Try.underlying22 info_i64t rfl (by omega) u ipre.length (natC ipre) [.int .i64 (x : Int)] rfl rfl rfl (fun v hv => by rw [List.mem_singleton.1 hv]; rfl) H2.out (by omega) (by omega) ?_)
    intro v1 w1 hr1 hu1 hat1
    obtain ⟨A1, n1, c1, rfl⟩ := ownsRow_slice hr1
    have hnb9 : ¬ ownB u b9 := fun hh => by have := H3.out b9 hh; omega
    have hb1 := hu1.at H1.out hnb9
    have hc1 : w1.cell? ⟨b9, 0, none⟩ = some u := cell_at hb1 0
    have hf1 := frozen_at hb1 0
    have hfr1 : ∀ k, (Value.slice A1 n1 c1).ownBlock = some k → V1.heap.size ≤ k := fun k hk => by
      rcases hat1 with hat | ⟨b2, hb2, hb3⟩
      · exact H3.out k (hat ▸ hk)
      · rw [hb2] at hk; injection hk with hk; have := H4.out.size; omega
    have hst1 : Upd (oneB b9) w1 (w1.setCell ⟨b9, 0, none⟩ (.slice A1 n1 c1)) := by
      refine Upd.setCell (Upd.refl _ _) ?_ _
      exact .inl rfl
    have hall : Upd (fun k => k = b9 ∨ ownB u k) W (w1.setCell ⟨b9, 0, none⟩ (.slice A1 n1 c1)) := (hu1.mono (fun k hk => .inr hk)).then (hst1.mono (fun k hk => .inl hk))
    have hnew : I1 V1 b9 (ipre ++ [x]) (w1.setCell ⟨b9, 0, none⟩ (.slice A1 n1 c1)) := by
      refine ⟨_, ?_, ?_, hfr1, (H4.out.trans hu1 (fun k hk => .inr (H3.out k hk))).then hst1⟩
      · rw [setCell_at hb1]; rfl
      · rw [natC_snoc, List.length_append]
        exact ownsRow_upd hr1 hst1 (fun k hk hk2 => by have := hfr1 k hk; unfold oneB at hk2; omega)
    have hkeep : KeepsFrom V1.heap.size W (w1.setCell ⟨b9, 0, none⟩ (.slice A1 n1 c1)) := keepsFrom_upd hall (fun k hk => by
      rcases hk with rfl | hk
      · exact .inl hb9V
      · obtain ⟨cs, hcs⟩ := ownsRow_block H2.out hk
        exact .inr ⟨_, _, _, hcs⟩)
    have hkb : KeepB [bx, p, g] W (w1.setCell ⟨b9, 0, none⟩ (.slice A1 n1 c1)) := KeepB.upd hall (fun k hk hk2 => by
      have hk3 : k = bx ∨ k = p ∨ k = g := by simpa using hk
      rcases hk2 with rfl | hk2
      · omega
      · have := H3.out k hk2; omega)
    have HNEW := Lib.hid (And.intro hkeep (And.intro hkb hnew))
    clear hr1 hu1 hat1 hb1 hfr1 hst1 hall hnew hkeep hkb hown2 hc9 hf9
    gi_wp2
    exact HNEW.out
  case done =>
    rintro D1 ys W8 hD1 rfl ⟨u, h1, h2, h3, h4⟩ hK1
    obtain ⟨Au, cu, rfl, hcu, hcells⟩ := ownsRow_form h2 (by omega)
    have hu8 : Upd (oneB b9) W5 W8 := (huV1.mono (fun _ h => h.elim)).then h4
    have HS8 := Lib.hid (HS5.out.upd hu8 (by show ¬ _ = _; omega) (by show ¬ _ = _; omega))
    have HR8 := Lib.hid (HR5.out.upd hu8 (fun k hk hk2 => HR5.out.ne HB9.out (by decide) hk hk2))
    have HST8 := Lib.hid (hu8.at HST5.out (by show ¬ _ = _; omega))
    have HU8 := Lib.hid (HU5.out.trans hu8 (fun k e => by cases e; exact .inr hb9w))
    have HB8 := Lib.hid h1
    have HK1 := Lib.hid hK1
    have HD1 := Lib.hid (show w.heap.size ≤ D1 by have := HU5.out.size; omega)
    obtain ⟨tot, htot⟩ : ∃ t, (numsFrom S 0).length = t := ⟨_, rfl⟩
    have htl : tot ≤ 200 := by have : countT S = tot := htot; omega
    simp only [htot]
    rw [htot] at h1 hcells hcu
    have HCE := Lib.hid hcells
    have HTOT := Lib.hid htot
    have hc9 : W8.cell? ⟨b9, 0, none⟩ = some (.slice Au tot cu) := cell_at h1 0
    clear h1 h2 h3 h4 hK1 hcells hu8 HS5 HR5 HST5 HU5 HB9 HSV HB9V htot hcu hbx huV1 hszV1 hbxe hb9V hbn hb5 hD1 hcl
    obtain ⟨Av, cv, rfl, hcvl, _, hbc⟩ := BRow.form (S := S) HR8.out
    have HBC := Lib.hid hbc
    clear hbc
    go_wp2
    go_loop [12, 13] (fun a12 a13 => ∃ (i : Nat) (pre : List Nat), a13 = .int .i64 (i : Int) ∧ a12 = .int .i64 (pre.length : Int) ∧ i ≤ m ∧ Hid (pre ++ numsFrom S i = numsFrom S 0)) (fun _ a13 => m - (intOf a13).toNat)
    case atStart => exact ⟨0, [], rfl, rfl, by omega, rfl⟩
    case round =>
      obtain ⟨i, pre, rfl, rfl, hi, hpre⟩ := hrel
      by_cases hlt : i < m
      · have hsl := HSL.out
        have hil : (i : Int) < S.length := by omega
        have hd5 : decide ((i : Int) < m) = true := by simp; omega
        obtain ⟨gv, rfl, _, _, hbcell⟩ := HBC.out (by omega)
        have hcell := hbcell i (by omega)
        have hhit := numsFrom_hit S i (by omega)
        have hmiss := numsFrom_miss S i (by omega)
        obtain ⟨t, ht⟩ : ∃ t, tr S i = t := ⟨_, rfl⟩
        rw [ht] at hcell hhit hmiss
        clear hbcell ht
        cases t
        · have HP := Lib.hid (show pre ++ numsFrom S (i + 1) = numsFrom S 0 by rw [← hmiss rfl]; exact hpre.out)
          clear hhit hmiss hsl
          go_wp2
          go_round
          case rel => exact ⟨i + 1, pre, by go_num, rfl, by omega, HP.out⟩
          case measure => simp [intOf]; omega
        · have hp2 : (pre ++ [i]) ++ numsFrom S (i + 1) = numsFrom S 0 := by rw [List.append_assoc, List.singleton_append, ← hhit rfl]; exact hpre.out
          have HP := Lib.hid hp2
          have hat : pre.length < tot := by rw [← HTOT.out, ← hp2]; simp
          have hge : (natC (numsFrom S 0))[pre.length]? = some (.int .i64 (i : Int)) := by rw [← hp2, List.append_assoc]; simp [natC]
          obtain ⟨gu, rfl, hgc⟩ := HCE.out (by omega)
          have hcell2 := hgc pre.length _ hge
          have hdg : decide ((tot : Int) ≤ pre.length) = false := by simp; omega
          have hil2 : (pre.length : Int) < tot := by omega
          clear hhit hmiss hp2 hge hgc hsl
          go_wp2
          go_round
          case rel => exact ⟨i + 1, pre ++ [i], by go_num, by simp, by omega, HP.out⟩
          case measure => simp [intOf]; omega
      · have hd5 : decide ((i : Int) < m) = false := by simp; omega
        obtain rfl : i = m := by omega
        have hpl : pre.length = tot := by
          have h := hpre.out
          rw [numsFrom_out S i (by rw [HSL.out]; omega), List.append_nil] at h
          rw [h]; exact HTOT.out
        rw [hpl]
        clear hpl hpre
        go_upto_region 20 with fail
        have HS9 := HS8
        obtain ⟨b14, hb14⟩ : ∃ a, a = W8.heap.size := ⟨_, rfl⟩
        obtain ⟨W9, hW9⟩ : ∃ W, W = W8.alloc (.cells #[.slice none 0 0] 42) := ⟨_, rfl⟩
        have hbx14 : W9.heap[b14]? = some (.cells #[.slice none 0 0] 42 (0, 0)) := by rw [hW9, hb14]; exact heap_alloc_new _ _
        have hu9 : Upd noB W8 W9 := by rw [hW9]; exact (Upd.refl _ _).alloc _
        rw [← hW9, ← hb14]
        have hplt := HS8.out.plt
        have hglt := HS8.out.glt
        have hslt := lt_of_block HST8.out
        have h9lt := lt_of_block HB8.out
        have hd1lt := lt_of_block HK1.out
        have HS9 := Lib.hid (HS8.out.upd0 hu9)
        have HST9 := Lib.hid (hu9.at HST8.out (fun x => x))
        have HU9 := Lib.hid (HU8.out.then0 hu9)
        have HB9 := Lib.hid (hu9.at HB8.out (fun x => x))
        have HK9 := Lib.hid (hu9.at HK1.out (fun x => x))
        have HB14 := Lib.hid hbx14
        have hlt14 : p < b14 ∧ g < b14 ∧ s5 < b14 ∧ b9 < b14 ∧ D1 < b14 := ⟨by omega, by omega, by omega, by omega, by omega⟩
        have hb14w : w.heap.size ≤ b14 := by rw [hb14]; exact HU8.out.size
        have hb145 := lt_of_block hbx14
        clear hW9 hb14 hbx14 hu9 hplt hglt hslt h9lt hd1lt HS8 HR8 HST8 HU8 HB8 HK1 HCE hc9 hi hlt hd5 hcvl HBC
        have HEQ := fun (f : Fn) (cs bs : Array Value) (W : World) => eql_nilF Try.underlying44 f cs bs W
        go_wp2_with (go_at_call 21; refine (runs_any _).mono ?_; rintro e W10 ⟨rfl, rfl⟩)
        clear HEQ
        have hbx := heap_alloc_new W9 (.cells #[.pointer (some ⟨p, 0, none⟩)] 23)
        obtain ⟨V2, hV2⟩ : ∃ W, W = W9.alloc (.cells #[.pointer (some ⟨p, 0, none⟩)] 23) := ⟨_, rfl⟩
        have huV2 : Upd noB W9 V2 := by rw [hV2]; exact (Upd.refl _ _).alloc _
        have hszV2 : V2.heap.size = W9.heap.size + 1 := by rw [hV2]; exact World.size_alloc _ _
        rw [← hV2] at hbx ⊢
        obtain ⟨bx2, hbxe⟩ : ∃ b, b = W9.heap.size := ⟨_, rfl⟩
        rw [← hbxe] at hbx ⊢
        have HSV := Lib.hid (HS9.out.upd0 huV2)
        have HB14V := Lib.hid (huV2.at HB14.out (fun x => x))
        have hb14V : b14 < V2.heap.size := by omega
        have hbn : bx2 ≠ b14 ∧ bx2 < V2.heap.size := ⟨by omega, by omega⟩
        have hrl := runs_len S S.length 0 (by omega)
        rw [HTOT.out] at hrl
        clear hV2
        refine (wpIn_wide (n := nn)).1 (wpIn_rangeFunc_ownG rfl (by omega) (gf := 58) (lb := #[.pointer (some ⟨bx2, 0, none⟩)]) rfl trivial (enters_of Try.func58 (by kernel_rfl) rfl)
          (runs1_stops (nn - 1) _ HSV.out hbx) (fun h k => h.trans k) (fun W l o o' => KeepB.putObj _ W l o o') (Below.refl _ _) (fun _ => rfl)
          (I2 V2 b14)
          (fun _ _ _ => False)
          (fun s A B row hs hg hr => by
            obtain ⟨u, h1, h2, h3, h4⟩ := hs
            exact ⟨u, keepA_row hg hr _ _ _ _ h1, ownsRow_keepA h2 (keepA_row hg hr), h3, upd_row h4 (Nat.le_refl _) hg hr⟩)
          (fun _ _ _ _ _ hs _ _ => hs)
          ⟨_, HB14V.out, World.ownsRow_nil _ _ _ _, fun k hk => by simp [Value.ownBlock] at hk, Upd.refl _ _⟩
          ?a2 ?assign2 ?body2 ?done2 ?stop2)
        case assign2 =>
          intro l x W K hK
          rw [zip_two]
          gi_wp2
          exact hK
        case body2 =>
          rintro l ipre ⟨x, y⟩ W ⟨u, h1, h2, h3, h4⟩ hlen
          have hc14 : W.cell? ⟨b14, 0, none⟩ = some u := cell_at h1 0
          have hf14 := frozen_at h1 0
          have hn2 : ipre.length < 200 := by omega
          have H1 := Lib.hid h1
          have H2 := Lib.hid h2
          have H3 := Lib.hid h3
          have H4 := Lib.hid h4
          clear h1 h2 h3 h4 hbx huV2 hlen
          gi_wp2_with (gi_at_builtin; refine append_eltIn (W := W) rfl (.tmp 79) (.tmp 83) 42 46 (.agg #[.int .i64 0, .int .i64 0]) 2 16 rfl Try.underlying42 info_pair rfl (by omega) u ipre.length (pairC ipre) [.int .i64 (x : Int), .int .i64 (y : Int)] rfl rfl rfl (fun v hv => by rcases List.mem_cons.1 hv with rfl | hv; rfl; rw [List.mem_singleton.1 hv]; rfl) H2.out (by omega) (by omega) ?_)
          intro v1 w1 hr1 hu1 hat1
          obtain ⟨A1, n1, c1, rfl⟩ := ownsRow_slice hr1
          have hnb9 : ¬ ownB u b14 := fun hh => by have := H3.out b14 hh; omega
          have hb1 := hu1.at H1.out hnb9
          have hc1 : w1.cell? ⟨b14, 0, none⟩ = some u := cell_at hb1 0
          have hf1 := frozen_at hb1 0
          have hfr1 : ∀ k, (Value.slice A1 n1 c1).ownBlock = some k → V2.heap.size ≤ k := fun k hk => by
            rcases hat1 with hat | ⟨b2, hb2, hb3⟩
            · exact H3.out k (hat ▸ hk)
            · rw [hb2] at hk; injection hk with hk; have := H4.out.size; omega
          have hst1 : Upd (oneB b14) w1 (w1.setCell ⟨b14, 0, none⟩ (.slice A1 n1 c1)) := by
            refine Upd.setCell (Upd.refl _ _) ?_ _
            exact .inl rfl
          have hall : Upd (fun k => k = b14 ∨ ownB u k) W (w1.setCell ⟨b14, 0, none⟩ (.slice A1 n1 c1)) := (hu1.mono (fun k hk => .inr hk)).then (hst1.mono (fun k hk => .inl hk))
          have hnew : I2 V2 b14 (ipre ++ [(x, y)]) (w1.setCell ⟨b14, 0, none⟩ (.slice A1 n1 c1)) := by
            refine ⟨_, ?_, ?_, hfr1, (H4.out.trans hu1 (fun k hk => .inr (H3.out k hk))).then hst1⟩
            · rw [setCell_at hb1]; rfl
            · rw [pairC_snoc, List.length_append]
              exact ownsRow_upd hr1 hst1 (fun k hk hk2 => by have := hfr1 k hk; unfold oneB at hk2; omega)
          have hkeep : KeepsFrom V2.heap.size W (w1.setCell ⟨b14, 0, none⟩ (.slice A1 n1 c1)) := keepsFrom_upd hall (fun k hk => by
            rcases hk with rfl | hk
            · exact .inl hb14V
            · obtain ⟨cs, hcs⟩ := ownsRow_block H2.out hk
              exact .inr ⟨_, _, _, hcs⟩)
          have hkb : KeepB [bx2, p, g] W (w1.setCell ⟨b14, 0, none⟩ (.slice A1 n1 c1)) := KeepB.upd hall (fun k hk hk2 => by
            have hk3 : k = bx2 ∨ k = p ∨ k = g := by simpa using hk
            rcases hk2 with rfl | hk2
            · omega
            · have := H3.out k hk2; omega)
          have HNEW := Lib.hid (And.intro hkeep (And.intro hkb hnew))
          clear hr1 hu1 hat1 hb1 hfr1 hst1 hall hnew hkeep hkb hc14 hf14
          gi_wp2
          exact HNEW.out
        case done2 =>
          rintro D2 ys W11 hD2 rfl ⟨u, h1, h2, h3, h4⟩ hK2
          obtain ⟨Ar, cr, rfl, hcr, hcells⟩ := ownsRow_form h2 (by omega)
          have hu11 : Upd (oneB b14) W9 W11 := (huV2.mono (fun _ h => h.elim)).then h4
          have HS11 := Lib.hid (HS9.out.upd hu11 (by show ¬ _ = _; omega) (by show ¬ _ = _; omega))
          have HST11 := Lib.hid (hu11.at HST9.out (by show ¬ _ = _; omega))
          have HB11 := Lib.hid (hu11.at HB9.out (by show ¬ _ = _; omega))
          have HK11 := Lib.hid (hu11.at HK9.out (by show ¬ _ = _; omega))
          have HU11 := Lib.hid (HU9.out.trans hu11 (fun k e => by cases e; exact .inr hb14w))
          have HK2 := Lib.hid hK2
          have HD2 := Lib.hid (show w.heap.size ≤ D2 ∧ D1 < D2 by have := HU9.out.size; omega)
          obtain ⟨rl, hrle⟩ : ∃ t, (runsFrom S 0).length = t := ⟨_, rfl⟩
          simp only [hrle]
          rw [hrle] at h1 hcells hcr hrl
          have HCE := Lib.hid hcells
          have HRL := Lib.hid hrle
          have HB14R := Lib.hid h1
          clear h1 h2 h3 h4 hK2 hcells hu11 HS9 HST9 HU9 HB9 HK9 HB14 HSV HB14V hrle hcr hbx huV2 hszV2 hbxe hb14V hbn hb145 hD2
          go_wp2
          go_loopw [18, 19, 20] (fun a18 a19 a20 wr => ∃ (i e cnt : Nat) (en : Int), a20 = .int .i64 (i : Int) ∧ a18 = .int .i64 (cnt : Int) ∧ a19 = .int .i64 en ∧ i ≤ rl ∧ Hid ((runsFrom S 0).drop i = runsFrom S e) ∧ Hid (cnt + (numsFrom S e).length = tot) ∧ Hid ((en = -1 ∧ e = 0) ∨ (en = e ∧ tr S e = false)) ∧ Hid (Upd noB W11 wr))
            (fun _ _ a20 _ => rl - (intOf a20).toNat)
          case atStart => exact ⟨0, 0, 0, -1, rfl, rfl, rfl, by omega, rfl, (by show 0 + _ = _; rw [Nat.zero_add]; exact HTOT.out), .inl ⟨rfl, rfl⟩, Upd.refl _ _⟩
          case round =>
            obtain ⟨i, e, cnt, en, rfl, rfl, rfl, hi, hdr, hcnt, hen, hup⟩ := hrel
            have hc14 : wr.cell? ⟨b14, 0, none⟩ = some (.slice Ar rl cr) := cell_at (hup.out.at HB14R.out (fun x => x)) 0
            by_cases hlt : i < rl
            · have hd5 : decide ((i : Int) < rl) = true := by simp; omega
              have hil : (i : Int) < rl := by omega
              have hgi : i < (runsFrom S 0).length := by rw [HRL.out]; exact hlt
              have hdc := List.drop_eq_getElem_cons hgi
              rw [hdr.out] at hdc
              rcases runs_step S e with ⟨h1, _⟩ | ⟨k, s, h1, h2, h3, h4, h5, h6, h7, h8⟩
              · rw [h1] at hdc; cases hdc
              · rw [h1] at hdc
                injection hdc with hk1 hk2
                obtain ⟨gr, rfl, hgc⟩ := HCE.out (by omega)
                have hpg2 := pairC_get (runsFrom S 0) i (k, s) (by rw [List.getElem?_eq_getElem hgi, hk1])
                have hcx := hup.out.cell (hgc _ _ hpg2.1) (fun x => x)
                have hcy := hup.out.cell (hgc _ _ hpg2.2) (fun x => x)
                have HDR := Lib.hid hk2.symm
                have hcle : cnt + s ≤ 200 := by have := hcnt.out; omega
                have HCNT := Lib.hid (show (cnt + s) + (numsFrom S (k + s)).length = tot by have := hcnt.out; omega)
                have hden : decide ((k : Int) ≤ en) = false := by
                  rcases hen.out with ⟨rfl, rfl⟩ | ⟨rfl, ht⟩
                  · simp; omega
                  · have : e ≠ k := fun hh => by rw [hh, h8] at ht; cases ht
                    simp; omega
                have hs1 : decide ((s : Int) < 1) = false := by simp; omega
                have hm2 := HSL.out
                have HT := Lib.hid h5
                have HF := Lib.hid h6
                have hks : k + s ≤ 200 := by omega
                have HSK := Lib.hid (HS11.out.upd0 hup.out)
                have HH := Lib.hid (fun (W : World) (h : SetAt W p g c S) (j : Nat) => (has_at h (j : Int)))
                have hin : ∃ q : Int, q = en := ⟨_, rfl⟩
                clear hk1 hk2 hgc hpg2 h1 h2 h3 h4 h5 h6 h7 h8 hgi hdr hcnt hen hm2 hin
                go_wp2
                go_loop [21] (fun a21 => ∃ j : Nat, a21 = .int .i64 (j : Int) ∧ j ≤ s) (fun a21 => s - (intOf a21).toNat)
                case atStart => exact ⟨0, rfl, by omega⟩
                case round =>
                  obtain ⟨j, rfl, hj⟩ := hrel
                  by_cases hjs : j < s
                  · have hd6 : decide ((j : Int) < s) = true := by simp; omega
                    have hhas := HH.out wr HSK.out (k + j)
                    rw [trI_nat, HT.out j hjs, Int.natCast_add] at hhas
                    have HHAS := Lib.hid hhas
                    clear hhas
                    go_wp2_with (go_at_call 22; refine HHAS.out.mono ?_; rintro e w' ⟨rfl, rfl⟩)
                    go_round
                    case rel => exact ⟨j + 1, by go_num, by omega⟩
                    case measure => simp [intOf]; omega
                  · have hd6 : decide ((j : Int) < s) = false := by simp; omega
                    obtain rfl : j = s := by omega
                    clear hjs hj
                    go_upto_region 39 with fail
                    have hwks : IntKind.i64.wrap ((k : Int) + (j : Int)) = (k : Int) + (j : Int) := by rw [IntKind.wrap_i64]; omega
                    have hhas := HH.out wr.drew (HSK.out.upd0 ((Upd.refl _ _).drew)) (k + j)
                    rw [trI_nat, HF.out, Int.natCast_add] at hhas
                    have HHAS := Lib.hid hhas
                    have HUD := Lib.hid hup.out.drew
                    clear hhas
                    refine wp_region_noPanic ?_
                    refine wp_region_held_drew (S := (fun w' => w'.cell? ⟨b14, 0, none⟩ = some (.slice (some ⟨gr, 0, none⟩) rl cr) ∧ w'.cell? ⟨gr, i * 2, none⟩ = some (.int .i64 (k : Int)) ∧ w'.cell? ⟨gr, i * 2 + 1, none⟩ = some (.int .i64 (j : Int)))) (by kernel_rfl) (⟨(World.cell?_drew _ _).trans hc14, (World.cell?_drew _ _).trans hcx, (World.cell?_drew _ _).trans hcy⟩) (fun hHeld => ?_)
                    refine wpAnyH_take (i := 0) (v := ?_) rfl (by kernel_rfl) (by kernel_rfl) (by kernel_rfl) (fun _ _ _ h => h) (Or.inl ⟨by rfl, ?_⟩) hHeld ?_
                    rotate_left
                    · intro w hSw; (try dsimp only at hSw); (try go_simp); (try with_reducible rfl)
                    try simp only [List.getElem_toArray, List.getElem_cons_succ, List.getElem_cons_zero, Act.put, List.setIfInBounds_toArray, List.set_cons_zero, List.set_cons_succ]
                    refine wpAnyH_take (i := 1) (v := ?_) rfl (by kernel_rfl) (by kernel_rfl) (by kernel_rfl) (fun _ _ _ h => h) (Or.inl ⟨by rfl, ?_⟩) hHeld ?_
                    rotate_left
                    · intro w hSw; (try dsimp only at hSw); (try go_simp); (try with_reducible rfl)
                    try simp only [List.getElem_toArray, List.getElem_cons_succ, List.getElem_cons_zero, Act.put, List.setIfInBounds_toArray, List.set_cons_zero, List.set_cons_succ]
                    refine wpAnyH_take (i := 2) (v := ?_) rfl (by kernel_rfl) (by kernel_rfl) (by kernel_rfl) (fun _ _ _ h => h) (Or.inl ⟨by rfl, ?_⟩) hHeld ?_
                    rotate_left
                    · intro w hSw; (try dsimp only at hSw); (try go_simp); (try with_reducible rfl)
                    try simp only [List.getElem_toArray, List.getElem_cons_succ, List.getElem_cons_zero, Act.put, List.setIfInBounds_toArray, List.set_cons_zero, List.set_cons_succ]
                    refine wpAnyH_take (i := 3) (v := ?_) rfl (by kernel_rfl) (by kernel_rfl) (by kernel_rfl) (fun _ _ _ h => h) (Or.inl ⟨by rfl, ?_⟩) hHeld ?_
                    rotate_left
                    · intro w hSw; (try dsimp only at hSw); (try go_simp); (try with_reducible rfl)
                    try simp only [List.getElem_toArray, List.getElem_cons_succ, List.getElem_cons_zero, Act.put, List.setIfInBounds_toArray, List.set_cons_zero, List.set_cons_succ]
                    refine wpAnyH_take (i := 4) (v := ?_) rfl (by kernel_rfl) (by kernel_rfl) (by kernel_rfl) (fun _ _ _ h => h) (Or.inl ⟨by rfl, ?_⟩) hHeld ?_
                    rotate_left
                    · intro w hSw; (try dsimp only at hSw); (try go_simp); (try with_reducible rfl)
                    try simp only [List.getElem_toArray, List.getElem_cons_succ, List.getElem_cons_zero, Act.put, List.setIfInBounds_toArray, List.set_cons_zero, List.set_cons_succ]
                    refine wpAnyH_take (i := 5) (v := ?_) rfl (by kernel_rfl) (by kernel_rfl) (by kernel_rfl) (fun _ _ _ h => h) (Or.inl ⟨by rfl, ?_⟩) hHeld ?_
                    rotate_left
                    · intro w hSw; (try dsimp only at hSw); (try go_simp); (try with_reducible rfl)
                    try simp only [List.getElem_toArray, List.getElem_cons_succ, List.getElem_cons_zero, Act.put, List.setIfInBounds_toArray, List.set_cons_zero, List.set_cons_succ]
                    refine wpAnyH_take (i := 6) (v := ?_) rfl (by kernel_rfl) (by kernel_rfl) (by kernel_rfl) (fun _ _ _ h => h) (Or.inl ⟨by rfl, ?_⟩) hHeld ?_
                    rotate_left
                    · intro w hSw; (try dsimp only at hSw); (try go_simp); (try with_reducible rfl)
                    try simp only [List.getElem_toArray, List.getElem_cons_succ, List.getElem_cons_zero, Act.put, List.setIfInBounds_toArray, List.set_cons_zero, List.set_cons_succ]
                    refine wpAnyH_take (i := 7) (v := ?_) rfl (by kernel_rfl) (by kernel_rfl) (by kernel_rfl) (fun _ _ _ h => h) (Or.inl ⟨by rfl, ?_⟩) hHeld ?_
                    rotate_left
                    · intro w hSw; (try dsimp only at hSw); (try go_simp); (try with_reducible rfl)
                    try simp only [List.getElem_toArray, List.getElem_cons_succ, List.getElem_cons_zero, Act.put, List.setIfInBounds_toArray, List.set_cons_zero, List.set_cons_succ]
                    refine wpAnyH_take (i := 8) (v := ?_) rfl (by kernel_rfl) (by kernel_rfl) (by kernel_rfl) (fun _ _ _ h => h) (Or.inl ⟨by rfl, ?_⟩) hHeld ?_
                    rotate_left
                    · intro w hSw; (try dsimp only at hSw); (try go_simp); (try with_reducible rfl)
                    try simp only [List.getElem_toArray, List.getElem_cons_succ, List.getElem_cons_zero, Act.put, List.setIfInBounds_toArray, List.set_cons_zero, List.set_cons_succ]
                    refine wpAnyH_take (i := 9) (v := ?_) rfl (by kernel_rfl) (by kernel_rfl) (by kernel_rfl) (fun _ _ _ h => h) (Or.inl ⟨by rfl, ?_⟩) hHeld ?_
                    rotate_left
                    · intro w hSw; (try dsimp only at hSw); (try go_simp); (try with_reducible rfl)
                    try simp only [List.getElem_toArray, List.getElem_cons_succ, List.getElem_cons_zero, Act.put, List.setIfInBounds_toArray, List.set_cons_zero, List.set_cons_succ]
                    refine wpAnyH_take (i := 10) (v := ?_) rfl (by kernel_rfl) (by kernel_rfl) (by kernel_rfl) (fun _ _ _ h => h) (Or.inl ⟨by rfl, ?_⟩) hHeld ?_
                    rotate_left
                    · intro w hSw; (try dsimp only at hSw); (try go_simp); (try with_reducible rfl)
                    try simp only [List.getElem_toArray, List.getElem_cons_succ, List.getElem_cons_zero, Act.put, List.setIfInBounds_toArray, List.set_cons_zero, List.set_cons_succ]
                    refine wpAnyH_take (i := 11) (v := ?_) rfl (by kernel_rfl) (by kernel_rfl) (by kernel_rfl) (fun _ _ _ h => h) (Or.inl ⟨by rfl, ?_⟩) hHeld ?_
                    rotate_left
                    · intro w hSw; (try dsimp only at hSw); (try go_simp); (try with_reducible rfl)
                    try simp only [List.getElem_toArray, List.getElem_cons_succ, List.getElem_cons_zero, Act.put, List.setIfInBounds_toArray, List.set_cons_zero, List.set_cons_succ]
                    refine wpAnyH_done (by kernel_rfl) ?_ _
                    try simp only [List.getElem_toArray, List.getElem_cons_succ, List.getElem_cons_zero, Act.put, List.setIfInBounds_toArray, List.set_cons_zero, List.set_cons_succ]
                    refine NoPanic.normal ?_
                    go_wp2_with (go_at_call 22; refine HHAS.out.mono ?_; rintro e w' ⟨rfl, rfl⟩)
                    go_roundw
                    case rel => exact ⟨i + 1, k + j, cnt + j, (k : Int) + j, by go_num, by go_num, rfl, by omega, HDR.out, HCNT.out, .inr ⟨by omega, HF.out⟩, HUD.out⟩
                    case measure => simp [intOf]; omega
            · have hd5 : decide ((i : Int) < rl) = false := by simp; omega
              have hci : cnt = tot := by
                have h0 := hdr.out
                rw [List.drop_eq_nil_of_le (by rw [HRL.out]; omega)] at h0
                rcases runs_step S e with ⟨_, h2⟩ | ⟨k, s, h1, _⟩
                · have := hcnt.out; rw [h2] at this; simpa using this
                · rw [h1] at h0; cases h0
              subst hci
              have HSR := Lib.hid (HS11.out.upd0 hup.out)
              have HSTR := Lib.hid (hup.out.at HST11.out (fun x => x))
              have HBR := Lib.hid (hup.out.at HB11.out (fun x => x))
              have HKR := Lib.hid (hup.out.at HK11.out (fun x => x))
              have HK2R := Lib.hid (hup.out.at HK2.out (fun x => x))
              have HUR := Lib.hid (HU11.out.then0 hup.out)
              clear hdr hcnt hen hup hi HS11 HST11 HB11 HK11 HK2 HU11 HCE HB14R HRL
              go_upto_region 43 with fail
              obtain ⟨b22, hb22⟩ : ∃ a, a = wr.heap.size := ⟨_, rfl⟩
              obtain ⟨W12, hW12⟩ : ∃ W, W = wr.alloc (.cells #[.int .i64 0] 3) := ⟨_, rfl⟩
              have hbx22 : W12.heap[b22]? = some (.cells #[.int .i64 0] 3 (0, 0)) := by rw [hW12, hb22]; exact heap_alloc_new _ _
              have hu12 : Upd noB wr W12 := by rw [hW12]; exact (Upd.refl _ _).alloc _
              rw [← hW12, ← hb22]
              have hplt := HSR.out.plt
              have hglt := HSR.out.glt
              have hslt := lt_of_block HSTR.out
              have h9lt := lt_of_block HBR.out
              have hd1lt := lt_of_block HKR.out
              have hd2lt := lt_of_block HK2R.out
              have HS12 := Lib.hid (HSR.out.upd0 hu12)
              have HST12 := Lib.hid (hu12.at HSTR.out (fun x => x))
              have HU12 := Lib.hid (HUR.out.then0 hu12)
              have HB12 := Lib.hid (hu12.at HBR.out (fun x => x))
              have HK12 := Lib.hid (hu12.at HKR.out (fun x => x))
              have HK22 := Lib.hid (hu12.at HK2R.out (fun x => x))
              have HB22 := Lib.hid hbx22
              have hlt22 : p < b22 ∧ g < b22 ∧ s5 < b22 ∧ b9 < b22 ∧ D1 < b22 ∧ D2 < b22 := ⟨by omega, by omega, by omega, by omega, by omega, by omega⟩
              have hb22w : w.heap.size ≤ b22 := by rw [hb22]; exact HUR.out.size
              have hb225 := lt_of_block hbx22
              clear hW12 hb22 hbx22 hu12 hplt hglt hslt h9lt hd1lt hd2lt HSR HSTR HUR HBR HKR HK2R hc14 hlt hd5
              have HEQ := fun (f : Fn) (cs bs : Array Value) (W : World) => eql_nilF Try.underlying40 f cs bs W
              go_wp2_with (go_at_call 20; refine (all_any _).mono ?_; rintro e W7 ⟨rfl, rfl⟩)
              clear HEQ
              have hbx := heap_alloc_new W12 (.cells #[.pointer (some ⟨p, 0, none⟩)] 23)
              obtain ⟨V3, hV3⟩ : ∃ W, W = W12.alloc (.cells #[.pointer (some ⟨p, 0, none⟩)] 23) := ⟨_, rfl⟩
              have huV3 : Upd noB W12 V3 := by rw [hV3]; exact (Upd.refl _ _).alloc _
              have hszV3 : V3.heap.size = W12.heap.size + 1 := by rw [hV3]; exact World.size_alloc _ _
              rw [← hV3] at hbx ⊢
              obtain ⟨bx3, hbxe⟩ : ∃ b, b = W12.heap.size := ⟨_, rfl⟩
              rw [← hbxe] at hbx ⊢
              have HSV := Lib.hid (HS12.out.upd0 huV3)
              have hb22V := huV3.at HB22.out (fun x => x)
              have hb22l : b22 < V3.heap.size := by omega
              have hbn : bx3 ≠ b22 ∧ bx3 < V3.heap.size := ⟨by omega, by omega⟩
              have HSTV := Lib.hid (huV3.at HST12.out (fun x => x))
              have HUV := Lib.hid huV3
              clear hV3 huV3
              refine (wpIn_wide (n := nn)).1 (wpIn_rangeFunc_ownG rfl (by omega) (gf := 57) (lb := #[.pointer (some ⟨bx3, 0, none⟩)]) rfl trivial (enters_of Try.func57 (by kernel_rfl) rfl)
                (all1_stops (nn - 1) _ HSV.out hbx) (fun h k => h.trans k) (fun W l o o' => KeepB.putObj _ W l o o') (Below.refl _ _) (fun _ => rfl)
                (I3 V3 b22 stop)
                (X3 V3 b22 stop)
                (fun s A B row hs hg hr => ⟨keepA_row hg hr _ _ _ _ hs.1, hs.2.1, upd_row hs.2.2 (Nat.le_refl _) hg hr⟩)
                (fun c s A B row hs hg hr => ⟨hs.1, keepA_row hg hr _ _ _ _ hs.2.1, hs.2.2.1, hs.2.2.2.1, upd_row hs.2.2.2.2 (Nat.le_refl _) hg hr⟩)
                ⟨hb22V, (by show stop < 1 ∨ (0 : Int) < stop; omega), Upd.refl _ _⟩
                ?a3 ?assign3 ?body3 ?done3 ?stop3)
              case assign3 =>
                intro l x W K hK
                rw [zip_one]
                gi_wp2
                exact hK
              case body3 =>
                rintro l ipre x W ⟨h1, h2, h4⟩ hlen
                have hc22 : W.cell? ⟨b22, 0, none⟩ = some (.int .i64 (ipre.length : Int)) := cell_at h1 0
                have hf22 := frozen_at h1 0
                have hn2 : ipre.length < 200 := by rw [HTOT.out] at hlen; omega
                have hcs : W.cell? ⟨s5, 0, none⟩ = some (.int .i64 stop) := cell_at (h4.at HSTV.out (by show ¬ _ = _; omega)) 0
                have hs5n : s5 ≠ b22 := by omega
                have hst1 : Upd (oneB b22) W (W.setCell ⟨b22, 0, none⟩ (.int .i64 ((ipre.length : Int) + 1))) := by
                  refine Upd.setCell (Upd.refl _ _) ?_ _
                  exact .inl rfl
                have hhp : (W.setCell ⟨b22, 0, none⟩ (.int .i64 ((ipre.length : Int) + 1))).heap[b22]? = some (.cells #[.int .i64 ((ipre ++ [x]).length : Int)] 3 (0, 0)) := by
                  rw [setCell_at h1]; simp
                have hkeep : KeepsFrom V3.heap.size W (W.setCell ⟨b22, 0, none⟩ (.int .i64 ((ipre.length : Int) + 1))) := keepsFrom_upd hst1 (fun k hk => .inl (by unfold oneB at hk; omega))
                have hkb : KeepB [bx3, p, g] W (W.setCell ⟨b22, 0, none⟩ (.int .i64 ((ipre.length : Int) + 1))) := KeepB.upd hst1 (fun k hk hk2 => by
                  have hk3 : k = bx3 ∨ k = p ∨ k = g := by simpa using hk
                  unfold oneB at hk2; omega)
                have hll : ((ipre ++ [x]).length : Int) = (ipre.length : Int) + 1 := by simp
                by_cases hq : (ipre.length : Int) + 1 = stop
                · have hd9 : (((ipre.length : Int) + 1) == stop) = true := by simpa using hq
                  have HX := Lib.hid (show KeepsFrom V3.heap.size W _ ∧ X3 V3 b22 stop (.exit 10) (ipre ++ [x]) _ from ⟨hkeep, rfl, hhp, by omega, by simp, h4.then hst1⟩)
                  clear h1 h2 h4 hlen hst1 hhp hkeep hkb hll hq
                  gi_wp2
                  exact HX.out
                · have hd9 : (((ipre.length : Int) + 1) == stop) = false := by simpa using hq
                  have HX := Lib.hid (show KeepsFrom V3.heap.size W _ ∧ KeepB [bx3, p, g] W _ ∧ I3 V3 b22 stop (ipre ++ [x]) _ from ⟨hkeep, hkb, hhp, by omega, h4.then hst1⟩)
                  clear h1 h2 h4 hlen hst1 hhp hkeep hkb hll hq
                  gi_wp2
                  exact HX.out
              case done3 =>
                rintro D3 ys W13 hD3 rfl ⟨h1, h2, h4⟩ hK3
                rw [HTOT.out] at h1 h2
                have hu13 : Upd (oneB b22) W12 W13 := (HUV.out.mono (fun _ h => h.elim)).then h4
                have hc22 : W13.cell? ⟨b22, 0, none⟩ = some (.int .i64 (cnt : Int)) := cell_at h1 0
                have hcs : W13.cell? ⟨s5, 0, none⟩ = some (.int .i64 stop) := cell_at (hu13.at HST12.out (by show ¬ _ = _; omega)) 0
                have hc9 : W13.cell? ⟨b9, 0, none⟩ = some (.slice Au cnt cu) := by
                  have h := cell_at (hu13.at HB12.out (by show ¬ _ = _; omega)) 0
                  rw [HTOT.out] at h
                  exact h
                have HK1 := Lib.hid (hu13.at HK12.out (by show ¬ _ = _; omega))
                have HK2 := Lib.hid (hu13.at HK22.out (by show ¬ _ = _; omega))
                have HK3 := Lib.hid hK3
                have HU13 := Lib.hid (HU12.out.trans hu13 (fun k e => by cases e; exact .inr hb22w))
                have hdd : D1 < D2 ∧ D2 < D3 ∧ w.heap.size ≤ D1 := ⟨HD2.out.2, by have := HUV.out.size; omega, HD1.out⟩
                clear h1 h4 hu13 hK3 hbx HS12 HST12 HB12 HK12 HK22 HU12 HSV hb22V HSTV hD3
                rcases Int.lt_or_le stop 1 with hlt1 | hge1
                · have hd8 : decide ((1 : Int) ≤ stop) = false := by simp; omega
                  clear h2 hlt1
                  go_wp2_with (go_at_call 12; refine (HL.out _).mono ?_; rintro e w' ⟨rfl, hu⟩)
                  exact goes_fin (hu.at HK1.out (fun x => x)) (hu.at HK2.out (fun x => x)) (hu.at HK3.out (fun x => x)) hdd.1 hdd.2.1 (HU13.out.then0 hu) hdd.2.2 rfl
                · have hd8 : decide ((1 : Int) ≤ stop) = true := by simpa using hge1
                  have hd9 : decide (stop < (cnt : Int)) = false := by simp; omega
                  clear h2 hge1
                  go_wp2_with (go_at_call 12; refine (HL.out _).mono ?_; rintro e w' ⟨rfl, hu⟩)
                  exact goes_fin (hu.at HK1.out (fun x => x)) (hu.at HK2.out (fun x => x)) (hu.at HK3.out (fun x => x)) hdd.1 hdd.2.1 (HU13.out.then0 hu) hdd.2.2 rfl
              case stop3 =>
                rintro D3 c pre W13 hD3 hpre ⟨rfl, h1, hst, hp1, h4⟩ hK3
                have hple : pre.length ≤ cnt := by have := hpre.length_le; rw [HTOT.out] at this; exact this
                have hu13 : Upd (oneB b22) W12 W13 := (HUV.out.mono (fun _ h => h.elim)).then h4
                have hc22 : W13.cell? ⟨b22, 0, none⟩ = some (.int .i64 (pre.length : Int)) := cell_at h1 0
                have hcs : W13.cell? ⟨s5, 0, none⟩ = some (.int .i64 stop) := cell_at (hu13.at HST12.out (by show ¬ _ = _; omega)) 0
                have hc9 : W13.cell? ⟨b9, 0, none⟩ = some (.slice Au cnt cu) := by
                  have h := cell_at (hu13.at HB12.out (by show ¬ _ = _; omega)) 0
                  rw [HTOT.out] at h
                  exact h
                have HK1 := Lib.hid (hu13.at HK12.out (by show ¬ _ = _; omega))
                have HK2 := Lib.hid (hu13.at HK22.out (by show ¬ _ = _; omega))
                have HK3 := Lib.hid hK3
                have HU13 := Lib.hid (HU12.out.trans hu13 (fun k e => by cases e; exact .inr hb22w))
                have hdd : D1 < D2 ∧ D2 < D3 ∧ w.heap.size ≤ D1 := ⟨HD2.out.2, by have := HUV.out.size; omega, HD1.out⟩
                subst hst
                have hd8 : decide ((1 : Int) ≤ (pre.length : Int)) = true := by simp; omega
                clear h1 h4 hu13 hK3 hbx HS12 HST12 HB12 HK12 HK22 HU12 HSV hb22V HSTV hD3 hpre
                refine (wpIn_wide (n := nn)).2 ?_
                by_cases hq : pre.length < cnt
                · have hd9 : decide ((pre.length : Int) < (cnt : Int)) = true := by simpa using hq
                  clear hple
                  go_wp2_with (go_at_call 12; refine (HL.out _).mono ?_; rintro e w' ⟨rfl, hu⟩)
                  exact goes_fin (hu.at HK1.out (fun x => x)) (hu.at HK2.out (fun x => x)) (hu.at HK3.out (fun x => x)) hdd.1 hdd.2.1 (HU13.out.then0 hu) hdd.2.2 rfl
                · have hd9 : decide ((pre.length : Int) < (cnt : Int)) = false := by simp; omega
                  have hd10 : (((pre.length : Nat) : Int) == (cnt : Int)) = true := by simp; omega
                  go_wp2_with (go_at_call 12; refine (HL.out _).mono ?_; rintro e w' ⟨rfl, hu⟩)
                  exact goes_fin (hu.at HK1.out (fun x => x)) (hu.at HK2.out (fun x => x)) (hu.at HK3.out (fun x => x)) hdd.1 hdd.2.1 (HU13.out.then0 hu) hdd.2.2 rfl
        case stop2 =>
          rintro D c pre W _ _ h _
          exact h.elim
  case stop =>
    rintro D c pre W _ _ h _
    exact h.elim
end Go.Proofs.Ytejpcgoblgaieaa.BitsGoes
