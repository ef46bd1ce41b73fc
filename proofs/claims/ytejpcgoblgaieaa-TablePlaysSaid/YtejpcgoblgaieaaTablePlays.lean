/-
  hibernaclelaw07.TablePlays: walked once: for every row of steps it returns true.
-/
import Derived.Test.YtejpcgoblgaieaaLives07
import Derived.Test.YtejpcgoblgaieaaMade07
set_option linter.unusedVariables false
set_option linter.unusedSimpArgs false
namespace Go.Proofs.Ytejpcgoblgaieaa.TablePlays
open Go.RowKit Go.Proofs.Ytejpcgoblgaieaa Go.Proofs.Ytejpcgoblgaieaa.Law07
attribute [local go_sem] Oper.semAt_some
/-- What one pair does to the answer and to the last number. -/
def goodStep (X : List Int) (s : Bool × Int) (x : Nat × Int) : Bool × Int :=
  (s.1 && decide (s.2 < (x.1 : Int)) && decide ((x.1 : Int) < 512) && (X.getD x.1 0 == x.2) && (x.2 != 0), (x.1 : Int))
def good (X : List Int) (pre : List (Nat × Int)) : Bool × Int := pre.foldl (goodStep X) (true, -1)
theorem good_snoc (X : List Int) (pre : List (Nat × Int)) (x : Nat × Int) : good X (pre ++ [x]) = goodStep X (good X pre) x := by simp [good]
theorem good_pairs {X : List Int} (hX : Told X) (hl : X.length = 512) : ∀ (n j : Nat) (last : Int), 512 - j ≤ n → last < (j : Int) → ((pairs X j).foldl (goodStep X) (true, last)).1 = true := by
  intro n
  induction n with
  | zero => intro j last hn hj; rw [pairs_out X j (by omega)]; rfl
  | succ n ih =>
    intro j last hn hj
    by_cases hlt : j < X.length
    · by_cases hx : 0 < X.getD j 0
      · rw [pairs_hit X j hlt hx, List.foldl_cons]
        have hg : goodStep X (true, last) (j, X.getD j 0) = (true, (j : Int)) := by
          have h1 : decide (last < (j : Int)) = true := by simpa using hj
          have h2 : decide ((j : Int) < 512) = true := by simp; omega
          have h3 : (X.getD j 0 != 0) = true := by simp only [bne_iff_ne, ne_eq]; omega
          simp only [goodStep, h1, h2, h3, beq_self_eq_true, Bool.and_self]
        rw [hg]
        exact ih (j + 1) j (by omega) (by omega)
      · rw [pairs_miss X j hlt hx]
        exact ih (j + 1) last (by omega) (by omega)
    · rw [pairs_out X j (by omega)]; rfl
theorem eql_nilFunc {P : Program} {t : TypeId} {s r : Array TypeId} {v : Bool} (h : P.underlying t = some (.func s r v)) (f : Fn) (cs bs : Array Value) (W : World) : (binOp .eql t (.func f cs bs) .nilFunc).run P W = .ok (.bool false) W := by
  have he : (Op.equalIn 10000 t (.func f cs bs) .nilFunc).run P W = .ok false W := by
    show (Op.equalIn (9999 + 1) t (.func f cs bs) .nilFunc).run P W = .ok false W
    generalize 9999 = d
    simp [Op.equalIn, run_underlying h]
  simp only [binOp]
  simp [Op.equal, Op.maxDepth, he]
/-- The three boxes. -/
def threeB (a b c : Nat) : Nat → Prop := fun k => k = a ∨ k = b ∨ k = c
/-- What holds behind some pairs. -/
def Inv (X : List Int) (W6 : World) (b : Nat) (pre : List (Nat × Int)) (W : World) : Prop :=
  W.heap[b]? = some (.cells #[.int .i64 (good X pre).2] 3 (0, 0)) ∧ W.heap[b + 1]? = some (.cells #[.int .i64 (pre.length : Int)] 3 (0, 0)) ∧ W.heap[b + 1 + 1]? = some (.cells #[.bool (good X pre).1] 4 (0, 0)) ∧ Upd (threeB b (b + 1) (b + 1 + 1)) W6 W
theorem body_fin {X : List Int} {W6 W : World} {b p N : Nat} {pre : List (Nat × Int)} {l : Nat} {q : Int} {g : Bool} (hl6 : b + 1 + 1 < W6.heap.size) (hN : W6.heap.size ≤ N) (hpb : p < b) (h : Inv X W6 b pre W) (hg : good X (pre ++ [(l, q)]) = (g, (l : Int))) :
    KeepsFrom N W (((W.setCell ⟨b + 1 + 1, 0, none⟩ (.bool g)).setCell ⟨b, 0, none⟩ (.int .i64 (l : Int))).setCell ⟨b + 1, 0, none⟩ (.int .i64 ((pre.length : Int) + 1))) ∧
    KeepB [W6.heap.size, p] W (((W.setCell ⟨b + 1 + 1, 0, none⟩ (.bool g)).setCell ⟨b, 0, none⟩ (.int .i64 (l : Int))).setCell ⟨b + 1, 0, none⟩ (.int .i64 ((pre.length : Int) + 1))) ∧
    Inv X W6 b (pre ++ [(l, q)]) (((W.setCell ⟨b + 1 + 1, 0, none⟩ (.bool g)).setCell ⟨b, 0, none⟩ (.int .i64 (l : Int))).setCell ⟨b + 1, 0, none⟩ (.int .i64 ((pre.length : Int) + 1))) := by
  obtain ⟨h1, h2, h3, hu⟩ := h
  have hs : Upd (threeB b (b + 1) (b + 1 + 1)) W (((W.setCell ⟨b + 1 + 1, 0, none⟩ (.bool g)).setCell ⟨b, 0, none⟩ (.int .i64 (l : Int))).setCell ⟨b + 1, 0, none⟩ (.int .i64 ((pre.length : Int) + 1))) :=
    (((Upd.refl _ _).setCell (.inl (.inr (.inr rfl))) _).setCell (.inl (.inl rfl)) _).setCell (.inl (.inr (.inl rfl))) _
  have e1 : (W.setCell ⟨b + 1 + 1, 0, none⟩ (.bool g)).heap[b]? = some (.cells #[.int .i64 (good X pre).2] 3 (0, 0)) := (Below.heap_setCell W _ _ b (by dsimp only; omega)).trans h1
  have e2 : ((W.setCell ⟨b + 1 + 1, 0, none⟩ (.bool g)).setCell ⟨b, 0, none⟩ (.int .i64 (l : Int))).heap[b + 1]? = some (.cells #[.int .i64 (pre.length : Int)] 3 (0, 0)) :=
    (Below.heap_setCell _ _ _ (b + 1) (by dsimp only; omega)).trans ((Below.heap_setCell W _ _ (b + 1) (by dsimp only; omega)).trans h2)
  have e3 : (W.setCell ⟨b + 1 + 1, 0, none⟩ (.bool g)).heap[b + 1 + 1]? = some (.cells #[.bool g] 4 (0, 0)) := by rw [setCell_at h3]; rfl
  refine ⟨keepsFrom_upd hs (fun k hk => .inl ?_), KeepB.upd hs (fun k hk hk2 => ?_), ?_, ?_, ?_, hu.then hs⟩
  · rcases hk with rfl | rfl | rfl <;> omega
  · rcases hk2 with rfl | rfl | rfl <;> simp at hk <;> omega
  · rw [hg]
    refine (Below.heap_setCell _ _ _ b (by dsimp only; omega)).trans ?_
    rw [setCell_at e1]; rfl
  · rw [setCell_at e2]; simp
  · rw [hg]
    refine (Below.heap_setCell _ _ _ (b + 1 + 1) (by dsimp only; omega)).trans ((Below.heap_setCell _ _ _ (b + 1 + 1) (by dsimp only; omega)).trans ?_)
    exact e3
set_option maxRecDepth 100000 in
set_option maxHeartbeats 8000000 in
theorem walk (A : Option Addr) (cp len : Nat) (w : World) (hlen : len ≤ 9223372036854775807) (hA : OpsIn w A len) :
    Calls Try.prog 6 #[.slice A len cp] w fun e w' => e = .returned (.bool true) ∧ Upd noB w w' := by
  obtain ⟨n, hn⟩ : ∃ n : Nat, 50 ≤ n := ⟨50, Nat.le_refl _⟩
  refine (callsIn_wide (n := n)).1 (callsIn_of_wp_marks Try.func6 rfl trivial ((wpIn_wide (n := n)).2 ?_) rfl)
  simp only [Try.ntmps6, List.size_toArray, List.length_cons, List.length_nil, Nat.reduceAdd, Nat.reduceSub, Array.replicate_succ, Array.replicate_zero, List.push_toArray, List.append_toArray, List.nil_append, List.cons_append]
  have HM := Lib.hid (made07_at A cp len hlen hA)
  clear hA
  have HEQ := fun (f : Fn) (cs bs : Array Value) (W : World) => eql_nilFunc Try.underlying62 f cs bs W
  have HN := Lib.hid nums_one
  have HI := Lib.hid (fun (X : List Int) (h : X.length = 512) => (show (Try.prog.info? 57).map (·.size) = some (nums X).size by rw [nums_size, h]; exact info57))
  have HTH := Lib.hid (fun (W : World) (X : List Int) (h : X.length = 512) => (show (W.alloc (.cells Try.zeroCells57 57)).there W.heap.size 0 (nums X).size by rw [nums_size, h]; exact (arr_new W).there))
  go_upto_region 1 with fail
  go_upto_region 2 with (first | (go_at_call 26; refine HM.out.mono ?_; rintro e w1 ⟨p, X, rfl, hX, ht1, hu1, hp1⟩; have hl1 := Lib.hid ht1.len) | (refine wpList_store_mid rfl 57 _ _ rfl _ 0 _ rfl rfl ?_ ?_ ?_ ?_; exact HTH.out _ _ hl1.out; exact HI.out _ hl1.out; exact HN.out _))
  obtain ⟨a, ha⟩ : ∃ a, a = w1.heap.size := ⟨_, rfl⟩
  obtain ⟨W2, hW2⟩ : ∃ W, W = (w1.alloc (.cells Try.zeroCells57 57)).setCells a 0 (nums X).toList := ⟨_, rfl⟩
  have hra : RowAt W2 a X := by
    have := (ArrAt.row (arr_new w1)).stored (Y := X) hl1.out
    rw [hW2, ha, numL_eq]; exact this
  have hu2 : Upd noB w1 W2 := by
    rw [hW2]
    exact upd_setCells _ 0 _ ((Upd.refl _ _).alloc _) (.inr (by omega))
  rw [← ha, ← hW2]
  have HT := Lib.hid (ht1.upd0 hu2)
  have HR := Lib.hid hra
  have HU := Lib.hid (hu1.then0 hu2)
  have HIL := Lib.hid (show (Try.prog.info? 57).map (·.size) = some (numL X).length by rw [numL_length, hl1.out]; exact info57)
  have hpa : p < a := by have := ht1.plt; omega
  clear hW2 ha hra hu1 hu2 ht1 HM HTH HI HN
  go_upto_region 4 with (first | (refine wpList_load_wanted rfl 57 _ rfl a 0 rfl (numL X) _ HR.out.rng Try.underlying57 rfl HIL.out ?_) | (go_at_call 27; refine (same07_at HT.out hX).mono ?_; rintro e W3 ⟨rfl, hu3⟩))
  have HT3 := Lib.hid (HT.out.upd0 hu3)
  have HR3 := Lib.hid (HR.out.upd hu3 (fun x => x))
  have HU3 := Lib.hid (HU.out.then0 hu3)
  have hp3 := HT3.out.plt
  clear hu3 HT HR HU HIL
  go_upto_region 6 with fail
  obtain ⟨W6, hW6⟩ : ∃ W, W = ((W3.alloc (.cells #[.int .i64 (-1)] 3)).alloc (.cells #[.int .i64 0] 3)).alloc (.cells #[.bool true] 4) := ⟨_, rfl⟩
  obtain ⟨b, hb⟩ : ∃ b, b = W3.heap.size := ⟨_, rfl⟩
  have k1 : W6.heap[b]? = some (.cells #[.int .i64 (-1)] 3 (0, 0)) := by rw [hW6, hb]; exact heap_old _ _ (heap_old _ _ (heap_alloc_new _ _))
  have k2 : W6.heap[b + 1]? = some (.cells #[.int .i64 0] 3 (0, 0)) := by rw [hW6, hb]; exact heap_old _ _ (heap_new2 _ _ _)
  have k3 : W6.heap[b + 1 + 1]? = some (.cells #[.bool true] 4 (0, 0)) := by
    rw [hW6, hb]
    have := heap_alloc_new ((W3.alloc (.cells #[.int .i64 (-1)] 3)).alloc (.cells #[.int .i64 0] 3)) (.cells #[.bool true] 4)
    rwa [World.size_alloc, World.size_alloc] at this
  have hu6 : Upd noB W3 W6 := by rw [hW6]; exact (((Upd.refl _ _).alloc _).alloc _).alloc _
  rw [← hW6, ← hb]
  have hra := (World.block_lt_of_cell? W3 _ (Option.isSome_iff_exists.1 (HR3.out.thr 0 (by omega)).1).choose_spec)
  have hab : a < b := by rw [hb]; exact hra
  have hwb : w.heap.size ≤ b := by rw [hb]; exact HU3.out.size
  have HT := Lib.hid (HT3.out.upd0 hu6)
  have HR := Lib.hid (HR3.out.upd hu6 (fun x => x))
  have HU := Lib.hid (HU3.out.then0 hu6)
  have hl6 := lt_of_block k3
  have K1 := Lib.hid k1
  have K2 := Lib.hid k2
  have K3 := Lib.hid k3
  clear hW6 hb hu6 k1 k2 k3 HT3 HR3 HU3 hp3 hra
  go_wp2_with (go_at_call 28; refine (tall_any _).mono ?_; rintro e W7 ⟨rfl, rfl⟩)
  clear HEQ
  have hbx := heap_alloc_new W6 (.cells #[.pointer (some ⟨p, 0, none⟩)] 55)
  have hu7 : Upd (threeB b (b + 1) (b + 1 + 1)) W6 (W6.alloc (.cells #[.pointer (some ⟨p, 0, none⟩)] 55)) := (Upd.refl _ _).alloc _
  have hle := countT_le X
  rw [hl1.out] at hle
  refine (wpIn_wide (n := n)).1 (wpIn_rangeFunc_ownG rfl (by omega) (gf := 62) (lb := #[.pointer (some ⟨W6.heap.size, 0, none⟩)]) rfl trivial (enters_of Try.func62 (by kernel_rfl) rfl)
    (tall1_stops (n - 1) _ (HT.out.upd0 ((Upd.refl _ _).alloc _)) hX hbx) (fun h k => h.trans k) (fun W l o o' => KeepB.putObj _ W l o o') (Below.refl _ _) (fun _ => rfl)
    (Inv X W6 b)
    (fun _ _ _ => False)
    (fun s A B row hs hg hr => ⟨keepA_row hg hr _ _ _ _ hs.1, keepA_row hg hr _ _ _ _ hs.2.1, keepA_row hg hr _ _ _ _ hs.2.2.1, upd_row hs.2.2.2 (by simp) hg hr⟩)
    (fun _ _ _ _ _ hs _ _ => hs)
    ⟨heap_old _ _ K1.out, heap_old _ _ K2.out, heap_old _ _ K3.out, hu7⟩
    ?a1 ?assign ?body ?done ?stop)
  case assign =>
    intro l x W K hK
    rw [zip_two]
    gi_wp2
    exact hK
  case body =>
    rintro l ipre ⟨x, q⟩ W hI hlen
    have hl9 : ipre.length < 512 := by rw [pairs_length] at hlen; omega
    have hstep := good_snoc X ipre (x, q)
    have hc1 := cell_at hI.1 0
    have hc2 := cell_at hI.2.1 0
    have hc3 := cell_at hI.2.2.1 0
    have hf1 := frozen_at hI.1 0
    have hf2 := frozen_at hI.2.1 0
    have hf3 := frozen_at hI.2.2.1 0
    have hrow := (HR.out.upd hI.2.2.2 (by rintro (h | h | h) <;> omega)).rng
    have HII := Lib.hid hI
    rcases hgd : good X ipre with ⟨g, last⟩
    rw [hgd] at hc1 hc3 hstep
    have hc1 : W.cell? ⟨b, 0, none⟩ = some (.int .i64 last) := hc1
    have hc2 : W.cell? ⟨b + 1, 0, none⟩ = some (.int .i64 (ipre.length : Int)) := hc2
    have hc3 : W.cell? ⟨b + 1 + 1, 0, none⟩ = some (.bool g) := hc3
    clear hI hgd hle hlen hbx hu7
    cases g
    · have HG := Lib.hid (hstep.trans (show goodStep X (false, last) (x, q) = (false, (x : Int)) by simp [goodStep]))
      clear hstep hrow
      gi_wp2
      exact body_fin hl6 (by simp) (by omega) HII.out HG.out
    · by_cases hA : last < (x : Int)
      · have hdA : decide (last < (x : Int)) = true := by simpa using hA
        by_cases hB : x < 512
        · have hdB : decide ((x : Int) < 512) = true := by simp; omega
          have hcx : W.cell? ⟨a, x, none⟩ = some (.int .i64 (X.getD x 0)) := by
            have := hrow x (.int .i64 (X.getD x 0)) (by
              have hlt : x < X.length := by rw [hl1.out]; exact hB
              simp [numL, List.getElem?_map, List.getElem?_eq_getElem hlt, List.getD_eq_getElem?_getD])
            rwa [Nat.zero_add] at this
          obtain ⟨y, hy⟩ : ∃ y, X.getD x 0 = y := ⟨_, rfl⟩
          rw [hy] at hcx
          have hg2 : goodStep X (true, last) (x, q) = ((y == q) && (q != 0), (x : Int)) := by
            simp only [goodStep, hdA, hdB, hy, Bool.true_and]
          obtain ⟨d1, hd1⟩ : ∃ d, (y == q) = d := ⟨_, rfl⟩
          obtain ⟨d2, hd2⟩ : ∃ d, (q != 0) = d := ⟨_, rfl⟩
          rw [hd1, hd2] at hg2
          have HG := Lib.hid (hstep.trans hg2)
          clear hstep hrow hA hg2 hy
          cases d1
          · gi_wp2
            exact body_fin hl6 (by simp) (by omega) HII.out HG.out
          · gi_wp2
            exact body_fin hl6 (by simp) (by omega) HII.out HG.out
        · have hdB : decide ((x : Int) < 512) = false := by simp; omega
          have HG := Lib.hid (hstep.trans (show goodStep X (true, last) (x, q) = (false, (x : Int)) by simp only [goodStep, hdB, Bool.and_false, Bool.false_and]))
          clear hstep hrow hA
          gi_wp2
          exact body_fin hl6 (by simp) (by omega) HII.out HG.out
      · have hdA : decide (last < (x : Int)) = false := by simpa using hA
        have HG := Lib.hid (hstep.trans (show goodStep X (true, last) (x, q) = (false, (x : Int)) by simp only [goodStep, hdA, Bool.and_false, Bool.false_and]))
        clear hstep hrow hA
        gi_wp2
        exact body_fin hl6 (by simp) (by omega) HII.out HG.out
  case done =>
    rintro D ys W hD rfl ⟨h1, h2, h3, hu⟩ hK
    have hgood : (good X (pairs X 0)).1 = true := good_pairs hX hl1.out 512 0 (-1) (by omega) (by omega)
    rw [pairs_length] at h2
    rw [hgood] at h3
    have hc2 : W.drew.cell? ⟨b + 1, 0, none⟩ = some (.int .i64 (countT (occ X) : Int)) := by rw [World.cell?_drew]; exact cell_at h2 0
    have hc3 : W.drew.cell? ⟨b + 1 + 1, 0, none⟩ = some (.bool true) := by rw [World.cell?_drew]; exact cell_at h3 0
    have HTW := Lib.hid ((HT.out.upd hu (by rintro (h | h | h) <;> omega)).upd0 ((Upd.refl noB W).drew))
    have HUW := Lib.hid ((HU.out.trans hu (by rintro i (rfl | rfl | rfl) <;> exact .inr (by omega))).drew)
    have HK := Lib.hid (show W.drew.heap[D]? = some (.deferred (some [])) from hK)
    clear h1 h2 h3 hu hK hbx hu7 hgood
    go_upto_region 15 with fail
    refine wp_region_noPanic ?_
    refine wp_region_held_drew (S := (fun w' => w'.cell? ⟨b + 1 + 1, 0, none⟩ = some (.bool true) ∧ w'.cell? ⟨b + 1, 0, none⟩ = some (.int .i64 (countT (occ X) : Int)))) (by kernel_rfl) (⟨hc3, hc2⟩) (fun hHeld => ?_)
    refine wpAnyH_take (i := 0) (v := ?_) rfl (by kernel_rfl) (by kernel_rfl) (by kernel_rfl) (fun _ _ _ h => h) (Or.inl ⟨by rfl, ?_⟩) hHeld ?_
    rotate_left
    · intro w hSw; (try dsimp only at hSw); (try go_simp); (try with_reducible rfl)
    try simp only [List.getElem_toArray, List.getElem_cons_succ, List.getElem_cons_zero, Act.put, List.setIfInBounds_toArray, List.set_cons_zero, List.set_cons_succ]
    refine wpAnyH_take (i := 1) (v := ?_) rfl (by kernel_rfl) (by kernel_rfl) (by kernel_rfl) (fun _ _ _ h => h) (Or.inl ⟨by rfl, ?_⟩) hHeld ?_
    rotate_left
    · intro w hSw; (try dsimp only at hSw); (try go_simp); (try with_reducible rfl)
    try simp only [List.getElem_toArray, List.getElem_cons_succ, List.getElem_cons_zero, Act.put, List.setIfInBounds_toArray, List.set_cons_zero, List.set_cons_succ]
    refine wpAnyH_take (i := 2) (v := ?_) rfl (by kernel_rfl) (by kernel_rfl) (by kernel_rfl) (fun _ _ _ h => h) (Or.inl ⟨by rfl, ?_⟩) hHeld ?_
    rotate_left
    · intro w hSw; (try dsimp only at hSw); (try go_simp); (try with_reducible rfl)
    try simp only [List.getElem_toArray, List.getElem_cons_succ, List.getElem_cons_zero, Act.put, List.setIfInBounds_toArray, List.set_cons_zero, List.set_cons_succ]
    refine wpAnyH_take (i := 3) (v := ?_) rfl (by kernel_rfl) (by kernel_rfl) (by kernel_rfl) (fun _ _ _ h => h) (Or.inl ⟨by rfl, ?_⟩) hHeld ?_
    rotate_left
    · intro w hSw; (try dsimp only at hSw); (try go_simp); (try with_reducible rfl)
    try simp only [List.getElem_toArray, List.getElem_cons_succ, List.getElem_cons_zero, Act.put, List.setIfInBounds_toArray, List.set_cons_zero, List.set_cons_succ]
    refine wpAnyH_ready (rs := [4]) (by kernel_rfl) (by simp) ?_
    refine AllReadyH.cons rfl (fun K hK => ?_) AllReadyH.nil
    rw [if_pos (by rfl)]
    try simp only [List.getElem_toArray, List.getElem_cons_succ, List.getElem_cons_zero, Act.put, List.setIfInBounds_toArray, List.set_cons_zero, List.set_cons_succ]
    go_wp2_with (go_at_call 29; refine (tlen_at HTW.out hX).mono ?_; rintro e W8 ⟨rfl, hu8⟩)
    try simp only [List.getElem_toArray, List.getElem_cons_succ, List.getElem_cons_zero, Act.put, List.setIfInBounds_toArray, List.set_cons_zero, List.set_cons_succ]
    refine hK.out _ _ (⟨hu8.cell hc3 (fun x => x), hu8.cell hc2 (fun x => x)⟩) (fun hHeld => ?_)
    clear hK K
    try simp only [List.getElem_toArray, List.getElem_cons_succ, List.getElem_cons_zero, Act.put, List.setIfInBounds_toArray, List.set_cons_zero, List.set_cons_succ]
    refine wpAnyH_take (i := 5) (v := ?_) rfl (by kernel_rfl) (by kernel_rfl) (by kernel_rfl) (fun _ _ _ h => h) (Or.inl ⟨by rfl, ?_⟩) hHeld ?_
    rotate_left
    · intro w hSw; (try dsimp only at hSw); (try go_simp); (try with_reducible rfl)
    try simp only [List.getElem_toArray, List.getElem_cons_succ, List.getElem_cons_zero, Act.put, List.setIfInBounds_toArray, List.set_cons_zero, List.set_cons_succ]
    refine wpAnyH_take (i := 6) (v := ?_) rfl (by kernel_rfl) (by kernel_rfl) (by kernel_rfl) (fun _ _ _ h => h) (Or.inl ⟨by rfl, ?_⟩) hHeld ?_
    rotate_left
    · intro w hSw; (try dsimp only at hSw); (try go_simp); (try with_reducible rfl)
    try simp only [List.getElem_toArray, List.getElem_cons_succ, List.getElem_cons_zero, Act.put, List.setIfInBounds_toArray, List.set_cons_zero, List.set_cons_succ]
    refine wpAnyH_take (i := 7) (v := ?_) rfl (by kernel_rfl) (by kernel_rfl) (by kernel_rfl) (fun _ _ _ h => h) (Or.inl ⟨by rfl, ?_⟩) hHeld ?_
    rotate_left
    · intro w hSw; (try dsimp only at hSw); (try go_simp); (try with_reducible rfl)
    try simp only [List.getElem_toArray, List.getElem_cons_succ, List.getElem_cons_zero, Act.put, List.setIfInBounds_toArray, List.set_cons_zero, List.set_cons_succ]
    refine wpAnyH_ready (rs := [8]) (by kernel_rfl) (by simp) ?_
    refine AllReadyH.cons rfl (fun K hK => ?_) AllReadyH.nil
    rw [if_pos (by rfl)]
    try simp only [List.getElem_toArray, List.getElem_cons_succ, List.getElem_cons_zero, Act.put, List.setIfInBounds_toArray, List.set_cons_zero, List.set_cons_succ]
    go_wp2_with (go_at_call 30; refine (lives07_true _).mono ?_; rintro e W9 ⟨rfl, hu9⟩)
    try simp only [List.getElem_toArray, List.getElem_cons_succ, List.getElem_cons_zero, Act.put, List.setIfInBounds_toArray, List.set_cons_zero, List.set_cons_succ]
    refine hK.out _ _ (⟨hu9.cell (hu8.cell hc3 (fun x => x)) (fun x => x), hu9.cell (hu8.cell hc2 (fun x => x)) (fun x => x)⟩) (fun hHeld => ?_)
    clear hK K
    try simp only [List.getElem_toArray, List.getElem_cons_succ, List.getElem_cons_zero, Act.put, List.setIfInBounds_toArray, List.set_cons_zero, List.set_cons_succ]
    refine wpAnyH_take (i := 9) (v := ?_) rfl (by kernel_rfl) (by kernel_rfl) (by kernel_rfl) (fun _ _ _ h => h) (Or.inl ⟨by rfl, ?_⟩) hHeld ?_
    rotate_left
    · intro w hSw; (try dsimp only at hSw); (try go_simp); (try with_reducible rfl)
    try simp only [List.getElem_toArray, List.getElem_cons_succ, List.getElem_cons_zero, Act.put, List.setIfInBounds_toArray, List.set_cons_zero, List.set_cons_succ]
    refine wpAnyH_take (i := 10) (v := ?_) rfl (by kernel_rfl) (by kernel_rfl) (by kernel_rfl) (fun _ _ _ h => h) (Or.inl ⟨by rfl, ?_⟩) hHeld ?_
    rotate_left
    · intro w hSw; (try dsimp only at hSw); (try go_simp); (try with_reducible rfl)
    try simp only [List.getElem_toArray, List.getElem_cons_succ, List.getElem_cons_zero, Act.put, List.setIfInBounds_toArray, List.set_cons_zero, List.set_cons_succ]
    refine wpAnyH_done (by kernel_rfl) ?_ _
    try simp only [List.getElem_toArray, List.getElem_cons_succ, List.getElem_cons_zero, Act.put, List.setIfInBounds_toArray, List.set_cons_zero, List.set_cons_succ]
    refine NoPanic.normal ?_
    go_wp2
    have hK9 := hu9.at (hu8.at HK.out (fun x => x)) (fun x => x)
    refine ⟨by simp, .inl ⟨_, _, rfl, run_takeDeferred hK9, ?_⟩⟩
    exact ⟨_, results_tmp rfl _ _ _, rfl, ((HUW.out.then0 hu8).then0 hu9).grown (grownBy_putObj' W9 D _) (fun k e => by cases e; right; have := HU.out.size; simp at hD; omega)⟩
  case stop =>
    rintro D c pre W _ _ h _
    exact h.elim
end Go.Proofs.Ytejpcgoblgaieaa.TablePlays
