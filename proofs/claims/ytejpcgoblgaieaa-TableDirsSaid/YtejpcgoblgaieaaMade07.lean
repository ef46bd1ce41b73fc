/-
  What made of hibernaclelaw07 does: a table and a row behind the same steps.
-/
import Derived.Test.YtejpcgoblgaieaaLaw07c
set_option linter.unusedVariables false
set_option linter.unusedSimpArgs false
namespace Go.Proofs.Ytejpcgoblgaieaa.Law07
open Go.RowKit Go.Proofs.Ytejpcgoblgaieaa

/-- A row of 512 numbers that may be written. -/
structure RowAt (w : World) (b : Nat) (X : List Int) : Prop where
  rng : w.rangeAt b 0 (numL X)
  thr : w.there b 0 512
theorem range_upd {S : Nat → Prop} {w w' : World} {b : Nat} {cs : List Value} (h : w.rangeAt b 0 cs) (hu : Upd S w w') (hn : ¬ S b) : w'.rangeAt b 0 cs :=
  fun j v hv => hu.cell (h j v hv) hn
theorem there_upd {S : Nat → Prop} {w w' : World} {b n : Nat} (h : w.there b 0 n) (hu : Upd S w w') (hn : ¬ S b) : w'.there b 0 n := fun j hj => by
  obtain ⟨h1, h2⟩ := h j hj
  obtain ⟨u, hu1⟩ := Option.isSome_iff_exists.1 h1
  have hb := World.block_lt_of_cell? w _ hu1
  exact ⟨by rw [hu.cell hu1 hn]; rfl, (hu.frozen (a := ⟨b, 0 + j, none⟩) hb hn).trans h2⟩
theorem RowAt.upd {S : Nat → Prop} {w w' : World} {b : Nat} {X : List Int} (h : RowAt w b X) (hu : Upd S w w') (hn : ¬ S b) : RowAt w' b X := ⟨range_upd h.rng hu hn, there_upd h.thr hu hn⟩
theorem ArrAt.row {w : World} {b : Nat} {X : List Int} (h : ArrAt w b X) : RowAt w b X := ⟨h.range, h.there⟩
theorem RowAt.stored {w : World} {b : Nat} {X Y : List Int} (h : RowAt w b X) (hY : Y.length = 512) : RowAt (w.setCells b 0 (numL Y)) b Y :=
  ⟨World.rangeAt_setCells_same w b 0 _ (by rw [numL_length, hY]; exact h.thr), World.there_setCells h.thr _ _ _⟩
theorem arr_new (W : World) : ArrAt (W.alloc (.cells Try.zeroCells57 57)) W.heap.size (List.replicate 512 0) :=
  ⟨by rw [← zero57]; exact heap_alloc_new _ _, List.length_replicate⟩
/-- An argument of type []Op. -/
def OpsIn (w : World) (A : Option Addr) (n : Nat) : Prop :=
  0 < n → ∃ b o, A = some ⟨b, o, none⟩ ∧ b < w.heap.size ∧ ∀ i, i < n → ∃ k l q : Int, w.cell? ⟨b, o + i * 3, none⟩ = some (.int .i64 k) ∧ w.cell? ⟨b, o + i * 3 + 1, none⟩ = some (.int .i64 l) ∧ w.cell? ⟨b, o + i * 3 + 2, none⟩ = some (.int .i64 q)
theorem OpsIn.upd0 {w w' : World} {A : Option Addr} {n : Nat} (h : OpsIn w A n) (hu : Upd noB w w') : OpsIn w' A n := fun h0 => by
  obtain ⟨b, o, h1, h2, h3⟩ := h h0
  refine ⟨b, o, h1, Nat.lt_of_lt_of_le h2 hu.size, fun i hi => ?_⟩
  obtain ⟨k, l, q, c0, c1, c2⟩ := h3 i hi
  exact ⟨k, l, q, hu.cell c0 (fun x => x), hu.cell c1 (fun x => x), hu.cell c2 (fun x => x)⟩
section
variable {w : World}
/-- What made gives. -/
def MadePost (w : World) (e : Ending) (w' : World) : Prop :=
  ∃ (p : Nat) (X : List Int), e = .returned (.tuple #[.pointer (some ⟨p, 0, none⟩), .agg (nums X), .bool true]) ∧ Told X ∧ TabAt w' p X ∧ Upd noB w w' ∧ w.heap.size ≤ p
theorem results_tct {fn : Func} {t p u : Tmp} {ty : TypeId} (h : fn.results = #[.tmp t, .cell p ty, .tmp u]) (tmps : Array Value) (P : Program) (w : World) :
    (results fn tmps).run P w = ((asAddr (tmps.getD p undef)).run P w).andThen fun a w₁ => ((loadVar ty a).run P w₁).andThen fun v w₂ => .ok (.tuple #[tmps.getD t undef, v, tmps.getD u undef]) w₂ := by
  simp only [results, h]
  simp [Sem.run_bind, Result.andThen]
/-- What region 6 reads, and where it writes. -/
def S6 (b o c : Nat) (k l q : Int) (w' : World) : Prop := w'.there c 0 512 ∧ w'.cell? ⟨b, o, none⟩ = some (.int .i64 k) ∧ w'.cell? ⟨b, o + 1, none⟩ = some (.int .i64 l) ∧ w'.cell? ⟨b, o + 2, none⟩ = some (.int .i64 q)
theorem S6.drew {b o c : Nat} {k l q : Int} {w' : World} (h : S6 b o c k l q w') : S6 b o c k l q w'.drew := ⟨(World.there_drew _ _ _ _).2 h.1, by simpa using h.2.1, by simpa using h.2.2.1, by simpa using h.2.2.2⟩
theorem S6.upd {S : Nat → Prop} {b o c : Nat} {k l q : Int} {v w' : World} (h : S6 b o c k l q v) (hu : Upd S v w') (h1 : ¬ S c) (h2 : ¬ S b) : S6 b o c k l q w' :=
  ⟨there_upd h.1 hu h1, hu.cell h.2.1 h2, hu.cell h.2.2.1 h2, hu.cell h.2.2.2 h2⟩
theorem S6.setCells {b o c : Nat} {k l q : Int} {w' : World} (h : S6 b o c k l q w') (vs : List Value) (hne : b ≠ c) : S6 b o c k l q (w'.setCells c 0 vs) :=
  ⟨World.there_setCells h.1 _ _ _, cell_past vs h.2.1 hne, cell_past vs h.2.2.1 hne, cell_past vs h.2.2.2 hne⟩
/-- The loop. -/
def MRel (w : World) (p a c len : Nat) (t i : Value) (wr : World) : Prop :=
  ∃ (k : Nat) (X : List Int), t = .bool true ∧ i = .int .i64 (k : Int) ∧ k ≤ len ∧ Told X ∧ TabAt wr p X ∧ RowAt wr c X ∧ RowAt wr a (List.replicate 512 0) ∧ Upd noB w wr
theorem made_fin {W : World} {p a : Nat} {X Z : List Int} {tmps : Array Value} (hT : TabAt W p X) (hR : RowAt W a Z) (hX : Told X) (hU : Upd noB w W) (haw : w.heap.size ≤ a) (hpa : a < p) (hpw : w.heap.size ≤ p)
    (h2 : tmps.getD 2 undef = .pointer (some ⟨p, 0, none⟩)) (h3 : tmps.getD 3 undef = .pointer (some ⟨a, 0, none⟩)) (h4 : tmps.getD 4 undef = .bool true) :
    bodyPost Try.prog Try.f26 (MadePost w) .ret { tmps := tmps, defers := [] } (W.drew.setCells a 0 (numL X)) := by
  have hr : RowAt (W.drew.setCells a 0 (numL X)) a X := (hR.upd (S := noB) ((Upd.refl _ _).drew) (fun x => x)).stored hT.len
  have hs : Upd (oneB a) W (W.drew.setCells a 0 (numL X)) := upd_setCells _ 0 _ ((Upd.refl _ _).drew) (.inl rfl)
  have hld := run_loadVar_mid (P := Try.prog) _ a 0 57 (numL X) _ hr.rng Try.underlying57 rfl (by rw [numL_length, hT.len]; exact info57)
  refine bodyPost_ret (v := .tuple #[.pointer (some ⟨p, 0, none⟩), .agg (nums X), .bool true]) ?_ rfl ⟨p, X, rfl, hX, hT.upd hs (by show ¬ _ = _; omega), hU.trans hs (fun k e => by cases e; exact .inr haw), hpw⟩
  have hn : (numL X).toArray = nums X := rfl
  rw [hn] at hld
  rw [results_tct rfl, h2, h3, h4]
  simp [asAddr, Result.andThen, hld]
theorem told_zero : Told (List.replicate 512 0) := fun x hx => .inl (List.eq_of_mem_replicate hx)
set_option maxRecDepth 100000 in
set_option maxHeartbeats 8000000 in
theorem made07_at (A : Option Addr) (cp len : Nat) (hlen : len ≤ 9223372036854775807) (hA : OpsIn w A len) :
    Calls Try.prog 26 #[.slice A len cp] w (MadePost w) := by
  have HA := Lib.hid hA
  have hi0 : (Try.prog.info? 57).map (·.size) = some Try.zeroCells57.size := by rw [zero57, nums_size]; exact info57
  have HI0 := Lib.hid hi0
  have hone0 : Try.zeroCells57.all (·.oneCell') = true := by rw [zero57]; exact nums_one _
  have HO0 := Lib.hid hone0
  have hth0 : ∀ W : World, (W.alloc (.cells Try.zeroCells57 57)).there W.heap.size 0 Try.zeroCells57.size := fun W => by
    have := (arr_new W).there
    rw [zero57, nums_size, List.length_replicate]
    rw [zero57] at this
    exact this
  have HTH0 := Lib.hid hth0
  clear hA hi0 hone0 hth0
  go_enter Try.func26, Try.ntmps26
  go_upto_region 1 with fail
  obtain ⟨W0, hW0⟩ : ∃ W, W = w.alloc (.cells Try.zeroCells57 57) := ⟨_, rfl⟩
  obtain ⟨a, hwa⟩ : ∃ a, a = w.heap.size := ⟨_, rfl⟩
  have ha : ArrAt W0 a (List.replicate 512 0) := by rw [hW0, hwa]; exact arr_new w
  have hu0 : Upd noB w W0 := by rw [hW0]; exact (Upd.refl _ _).alloc _
  rw [← hW0, ← hwa]
  have HRA := Lib.hid (ArrAt.row ha)
  have HU0 := Lib.hid hu0
  have haw : w.heap.size ≤ a := by omega
  have hap := ha.plt
  clear hW0 hwa ha hu0
  go_upto_region 2 with (first | (go_at_call 41; refine tnew_at.mono ?_; rintro e W1 ⟨p, rfl, ht1, hu1, hp1⟩) | (refine wpList_store_mid rfl 57 _ _ rfl _ 0 _ rfl rfl ?_ ?_ ?_ ?_; exact HTH0.out _; exact HI0.out; exact HO0.out))
  obtain ⟨c, hc⟩ : ∃ c, c = W1.heap.size := ⟨_, rfl⟩
  obtain ⟨W2, hW2⟩ : ∃ W, W = (W1.alloc (.cells Try.zeroCells57 57)).setCells c 0 Try.zeroCells57.toList := ⟨_, rfl⟩
  have hrc : RowAt W2 c (List.replicate 512 0) := by
    have := (ArrAt.row (arr_new W1)).stored (Y := List.replicate 512 0) List.length_replicate
    rw [hW2, hc, zero57]
    rw [zero57] at this
    exact this
  have hu12 : Upd noB W1 W2 := by
    rw [hW2]
    exact upd_setCells _ 0 _ ((Upd.refl _ _).alloc _) (.inr (by omega))
  rw [← hc, ← hW2]
  have hpa : a < p := by omega
  have hpw : w.heap.size ≤ p := by omega
  have hpc : p < c := by have := ht1.plt; omega
  have HT := Lib.hid (ht1.upd0 hu12)
  have HRC := Lib.hid hrc
  have HR2 := Lib.hid (HRA.out.upd (hu1.then0 hu12) (fun x => x))
  have HU := Lib.hid (HU0.out.then0 (hu1.then0 hu12))
  clear hW2 hc ht1 hrc hu1 hu12 hap hp1
  go_wp2
  go_loopw [7, 8] (fun t i wr => MRel w p a c len t i wr) (fun _ i _ => len - (intOf i).toNat)
  case atStart => exact ⟨0, _, rfl, rfl, Nat.zero_le _, told_zero, HT.out, HRC.out, HR2.out, HU.out⟩
  case round =>
    obtain ⟨k, X, rfl, rfl, hk, hX, hT, hC, hR, hU⟩ := hrel
    have HT := Lib.hid hT
    have HC := Lib.hid hC
    have HR := Lib.hid hR
    have HU := Lib.hid hU
    clear hT hC hR hU
    have hu57 := Try.underlying57
    by_cases hlt : k < len
    · by_cases h40 : k < 40
      · obtain ⟨b, o, rfl, hb, hcs⟩ := HA.out (by omega)
        obtain ⟨kk, l, q, c0, c1, c2⟩ := hcs k hlt
        have hd1 : decide ((k : Int) < len) = true := by simp; omega
        have hd2 : decide ((k : Int) < 40) = true := by simp; omega
        have hS : S6 b (o + k * 3) c kk l q wr := ⟨HC.out.thr, HU.out.cell c0 (fun x => x), HU.out.cell c1 (fun x => x), HU.out.cell c2 (fun x => x)⟩
        clear hcs c0 c1 c2
        have hi57 : (Try.prog.info? 57).map (·.size) = some (numL X).length := by rw [numL_length, HT.out.len]; exact info57
        have hrg : wr.drew.rangeAt c 0 (numL X) := (World.rangeAt_drew _ _ _ _).2 HC.out.rng
        go_upto_region 6 with fail
        refine wp_region_held_drew (S := S6 b (o + k * 3) c kk l q) (by kernel_rfl) (S6.drew hS) (fun hHeld => ?_)
        refine wpAnyH_take (i := 0) (v := ?_) rfl (by kernel_rfl) (by kernel_rfl) (by kernel_rfl) (fun _ _ _ h => h) (Or.inl ⟨by rfl, ?_⟩) hHeld ?_
        rotate_left
        · intro w hSw; obtain ⟨hSa, hSb, hSc, hSd⟩ := hSw; (try go_simp); (try with_reducible rfl)
        try simp only [List.getElem_toArray, List.getElem_cons_succ, List.getElem_cons_zero, Act.put, List.setIfInBounds_toArray, List.set_cons_zero, List.set_cons_succ]
        refine wpAnyH_take (i := 2) (v := ?_) rfl (by kernel_rfl) (by kernel_rfl) (by kernel_rfl) (fun _ _ _ h => h) (Or.inl ⟨by rfl, ?_⟩) hHeld ?_
        rotate_left
        · intro w hSw; obtain ⟨hSa, hSb, hSc, hSd⟩ := hSw; (try go_simp); (try with_reducible rfl)
        try simp only [List.getElem_toArray, List.getElem_cons_succ, List.getElem_cons_zero, Act.put, List.setIfInBounds_toArray, List.set_cons_zero, List.set_cons_succ]
        refine wpAnyH_take (i := 3) (v := ?_) rfl (by kernel_rfl) (by kernel_rfl) (by kernel_rfl) (fun _ _ _ h => h) (Or.inl ⟨by rfl, ?_⟩) hHeld ?_
        rotate_left
        · intro w hSw; obtain ⟨hSa, hSb, hSc, hSd⟩ := hSw; (try go_simp); (try with_reducible rfl)
        try simp only [List.getElem_toArray, List.getElem_cons_succ, List.getElem_cons_zero, Act.put, List.setIfInBounds_toArray, List.set_cons_zero, List.set_cons_succ]
        refine wpAnyH_take (i := 4) (v := ?_) rfl (by kernel_rfl) (by kernel_rfl) (by kernel_rfl) (fun _ _ _ h => h) (Or.inl ⟨by rfl, ?_⟩) hHeld ?_
        rotate_left
        · intro w hSw; obtain ⟨hSa, hSb, hSc, hSd⟩ := hSw; (try go_simp); (try with_reducible rfl)
        try simp only [List.getElem_toArray, List.getElem_cons_succ, List.getElem_cons_zero, Act.put, List.setIfInBounds_toArray, List.set_cons_zero, List.set_cons_succ]
        refine wpAnyH_take (i := 5) (v := ?_) rfl (by kernel_rfl) (by kernel_rfl) (by kernel_rfl) (fun _ _ _ h => h) (Or.inl ⟨by rfl, ?_⟩) hHeld ?_
        rotate_left
        · intro w hSw; obtain ⟨hSa, hSb, hSc, hSd⟩ := hSw; (try go_simp); (try with_reducible rfl)
        try simp only [List.getElem_toArray, List.getElem_cons_succ, List.getElem_cons_zero, Act.put, List.setIfInBounds_toArray, List.set_cons_zero, List.set_cons_succ]
        refine wpAnyH_ready (rs := [1]) (by kernel_rfl) (by simp) ?_
        refine AllReadyH.cons rfl (fun K hK => ?_) AllReadyH.nil
        rw [if_pos (by rfl)]
        refine wp_load_mid _ _ rfl c 0 rfl (numL X) _ hrg hu57 rfl hi57 ?_
        try simp only [List.getElem_toArray, List.getElem_cons_succ, List.getElem_cons_zero, Act.put, List.setIfInBounds_toArray, List.set_cons_zero, List.set_cons_succ]
        refine hK.out _ _ (S6.drew hS) (fun hHeld => ?_)
        clear hK K
        try simp only [List.getElem_toArray, List.getElem_cons_succ, List.getElem_cons_zero, Act.put, List.setIfInBounds_toArray, List.set_cons_zero, List.set_cons_succ]
        refine wpAnyH_ready (rs := [6]) (by kernel_rfl) (by simp) ?_
        refine AllReadyH.cons rfl (fun K hK => ?_) AllReadyH.nil
        rw [if_pos (by rfl)]
        go_wp2_with (first | (go_at_call 60; refine (step_at (HT.out.upd0 ((Upd.refl _ _).drew)) hX kk l q).mono ?_; rintro e w5 ⟨he5, ht5, hu5⟩; obtain rfl : e = .returned (.tuple #[.agg (numL (stepX X kk l q)).toArray, .bool true]) := he5))
        have hi5 : (Try.prog.info? 57).map (·.size) = some (numL (stepX X kk l q)).length := by rw [numL_length, ht5.len]; exact info57
        have hlen5 : (numL (stepX X kk l q)).length = 512 := by rw [numL_length, ht5.len]
        have hone5 := numL_one (stepX X kk l q)
        refine hK.out _ _ ((S6.drew hS).upd hu5 (by show ¬ _ = _; omega) (by show ¬ _ = _; omega)) (fun hHeld => ?_)
        clear hK K
        try simp only [List.getElem_toArray, List.getElem_cons_succ, List.getElem_cons_zero, Act.put, List.setIfInBounds_toArray, List.set_cons_zero, List.set_cons_succ]
        refine wpAnyH_take (i := 7) (v := ?_) rfl (by kernel_rfl) (by kernel_rfl) (by kernel_rfl) (fun _ _ _ h => h) (Or.inl ⟨by rfl, ?_⟩) hHeld ?_
        rotate_left
        · intro w hSw; obtain ⟨hSa, hSb, hSc, hSd⟩ := hSw; (try go_simp); (try with_reducible rfl)
        try simp only [List.getElem_toArray, List.getElem_cons_succ, List.getElem_cons_zero, Act.put, List.setIfInBounds_toArray, List.set_cons_zero, List.set_cons_succ]
        refine wpAnyH_take (i := 8) (v := ?_) rfl (by kernel_rfl) (by kernel_rfl) (by kernel_rfl) (fun _ _ _ h => h) (Or.inl ⟨by rfl, ?_⟩) hHeld ?_
        rotate_left
        · intro w hSw; obtain ⟨hSa, hSb, hSc, hSd⟩ := hSw; (try go_simp); (try with_reducible rfl)
        try simp only [List.getElem_toArray, List.getElem_cons_succ, List.getElem_cons_zero, Act.put, List.setIfInBounds_toArray, List.set_cons_zero, List.set_cons_succ]
        refine wpAnyH_take (i := 9) (v := ?_) rfl (by kernel_rfl) (by kernel_rfl) (by kernel_rfl) (fun _ _ _ h => h) (Or.inl ⟨by rfl, ?_⟩) hHeld ?_
        rotate_left
        · intro w hSw; obtain ⟨hSa, hSb, hSc, hSd⟩ := hSw; (try go_simp); (try with_reducible rfl)
        try simp only [List.getElem_toArray, List.getElem_cons_succ, List.getElem_cons_zero, Act.put, List.setIfInBounds_toArray, List.set_cons_zero, List.set_cons_succ]
        refine wpAnyH_ready (rs := [10]) (by kernel_rfl) (by simp) ?_
        refine AllReadyH.cons rfl (fun K hK => ?_) AllReadyH.nil
        rw [if_pos (by rfl)]
        refine wp_store_mid _ _ _ rfl _ _ (List.toArray (numL (stepX X kk l q))) rfl rfl (by rw [List.size_toArray, hlen5]; exact hHeld.1) (by rw [List.size_toArray]; exact hi5) (all_oneCell_toArray hone5) ?_
        try simp only [List.getElem_toArray, List.getElem_cons_succ, List.getElem_cons_zero, Act.put, List.setIfInBounds_toArray, List.set_cons_zero, List.set_cons_succ]
        refine hK.out _ _ (S6.setCells hHeld _ (by omega)) (fun hHeld => ?_)
        clear hK K
        try simp only [List.getElem_toArray, List.getElem_cons_succ, List.getElem_cons_zero, Act.put, List.setIfInBounds_toArray, List.set_cons_zero, List.set_cons_succ]
        refine wpAnyH_ready (rs := [11]) (by kernel_rfl) (by simp) ?_
        refine AllReadyH.cons rfl (fun K hK => ?_) AllReadyH.nil
        rw [if_pos (by rfl)]
        go_wp2_with fail
        refine hK.out _ _ hHeld (fun hHeld => ?_)
        clear hK K
        try simp only [List.getElem_toArray, List.getElem_cons_succ, List.getElem_cons_zero, Act.put, List.setIfInBounds_toArray, List.set_cons_zero, List.set_cons_succ]
        refine wpAnyH_done (by kernel_rfl) ?_ _
        try simp only [List.getElem_toArray, List.getElem_cons_succ, List.getElem_cons_zero, Act.put, List.setIfInBounds_toArray, List.set_cons_zero, List.set_cons_succ]
        all_goals
          go_wp2_with fail
          have hsc : Upd (oneB c) w5 (w5.setCells c 0 (numL (stepX X kk l q))) := upd_setCells _ 0 _ (Upd.refl _ _) (.inl rfl)
          have hdr : Upd noB wr wr.drew := (Upd.refl _ _).drew
          refine ⟨⟨k + 1, stepX X kk l q, rfl, by go_num, by omega, told_step hX _ _ _, ht5.upd hsc (by show ¬ _ = _; omega), ((HC.out.upd hdr (fun x => x)).upd hu5 (by show ¬ _ = _; omega)).stored ht5.len, ((HR.out.upd hdr (fun x => x)).upd hu5 (by show ¬ _ = _; omega)).upd hsc (by show ¬ _ = _; omega), ?_⟩, by simp [intOf]; omega⟩
          exact ((HU.out.then0 hdr).trans hu5 (fun i e => by cases e; exact .inr hpw)).trans hsc (fun i e => by cases e; exact .inr (by omega))
      · have hd1 : decide ((k : Int) < len) = true := by simp; omega
        have hd2 : decide ((k : Int) < 40) = false := by simp; omega
        go_upto_region 8 with fail
        have hi57 : (Try.prog.info? 57).map (·.size) = some (numL X).length := by rw [numL_length, HT.out.len]; exact info57
        have hlen57 : (numL X).length = 512 := by rw [numL_length, HT.out.len]
        have hone57 := numL_one X
        have hS8 : wr.rangeAt c 0 (numL X) ∧ wr.there a 0 512 := ⟨HC.out.rng, HR.out.thr⟩
        go_region_held3 (fun w' => w'.rangeAt c 0 (numL X) ∧ w'.there a 0 512)
          (first | exact ⟨(World.rangeAt_drew _ _ _ _).2 hS8.1, (World.there_drew _ _ _ _).2 hS8.2⟩ | assumption | exact ⟨World.rangeAt_setCells_apart ((World.rangeAt_drew _ _ _ _).2 hS8.1) _ _ _ (.inl (by omega)), World.there_setCells ((World.there_drew _ _ _ _).2 hS8.2) _ _ _⟩)
          (fail)
        all_goals
          go_wp2_with fail
          refine made_fin HT.out HR.out hX HU.out haw hpa hpw rfl rfl rfl
    · have hd1 : decide ((k : Int) < len) = false := by simp; omega
      go_upto_region 8 with fail
      have hi57 : (Try.prog.info? 57).map (·.size) = some (numL X).length := by rw [numL_length, HT.out.len]; exact info57
      have hlen57 : (numL X).length = 512 := by rw [numL_length, HT.out.len]
      have hone57 := numL_one X
      have hS8 : wr.rangeAt c 0 (numL X) ∧ wr.there a 0 512 := ⟨HC.out.rng, HR.out.thr⟩
      go_region_held3 (fun w' => w'.rangeAt c 0 (numL X) ∧ w'.there a 0 512)
        (first | exact ⟨(World.rangeAt_drew _ _ _ _).2 hS8.1, (World.there_drew _ _ _ _).2 hS8.2⟩ | assumption | exact ⟨World.rangeAt_setCells_apart ((World.rangeAt_drew _ _ _ _).2 hS8.1) _ _ _ (.inl (by omega)), World.there_setCells ((World.there_drew _ _ _ _).2 hS8.2) _ _ _⟩)
        (fail)
      all_goals
        go_wp2_with fail
        refine made_fin HT.out HR.out hX HU.out haw hpa hpw rfl rfl rfl
end
end Go.Proofs.Ytejpcgoblgaieaa.Law07
