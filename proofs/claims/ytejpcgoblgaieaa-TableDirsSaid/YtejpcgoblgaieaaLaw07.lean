/-
  What step of hibernaclelaw07 does: a table and a row answer alike, and go on alike.
-/
import Derived.Test.YtejpcgoblgaieaaRef07
set_option linter.unusedVariables false
set_option linter.unusedSimpArgs false
namespace Go.Proofs.Ytejpcgoblgaieaa.Law07
open Go.RowKit Go.Proofs.Ytejpcgoblgaieaa

theorem store57 {w : World} {c : Nat} {X Z : List Int} (h : ArrAt w c Z) (hl : X.length = 512) : (Instr.storeAt 57 (.pointer (some ⟨c, 0, none⟩)) (.agg (nums X))).run Try.prog w = .ok () (w.setCells c 0 (nums X).toList) :=
  run_storeAt_mid w c 0 _ (nums X) (by rw [nums_size, hl]; exact h.there) (by rw [nums_size, hl]; exact info57) (nums_one X)
theorem numL_eq (X : List Int) : (nums X).toList = numL X := by simp [nums, numL]
theorem upd_setCells {S : Nat → Prop} {w : World} {c : Nat} : ∀ (vs : List Value) (o : Nat) (w' : World), Upd S w w' → (S c ∨ w.heap.size ≤ c) → Upd S w (w'.setCells c o vs)
  | [], o, w', h, _ => h
  | v :: vs, o, w', h, hc => by
    rw [World.setCells]
    exact upd_setCells vs (o + 1) _ (h.setCell hc v) hc
/-- What a step does to a row. -/
def stepX (X : List Int) (k l q : Int) : List Int :=
  if k = 0 then (if (inT l && okP q) = true then setX X l q else X) else if k = 1 then setX X l 0 else X
theorem setX_length (X : List Int) (l x : Int) : (setX X l x).length = X.length := by unfold setX; split <;> simp
theorem stepX_length (X : List Int) (k l q : Int) : (stepX X k l q).length = X.length := by
  unfold stepX; split
  · split
    · exact setX_length _ _ _
    · rfl
  · split
    · exact setX_length _ _ _
    · rfl
theorem Told.setX {X : List Int} (h : Told X) (l x : Int) (hx : x = 0 ∨ (2 ≤ x ∧ x < 512)) : Told (setX X l x) := by
  unfold Go.Proofs.Ytejpcgoblgaieaa.setX; split
  · exact h.set _ _ hx
  · exact h
theorem told_step {X : List Int} (h : Told X) (k l q : Int) : Told (stepX X k l q) := by
  unfold stepX; split
  · split
    · next hh => exact Told.setX h l q (.inr (by simp [okP] at hh; omega))
    · exact h
  · split
    · exact Told.setX h l 0 (.inl rfl)
    · exact h
section
variable {w : World} {p : Nat} {X : List Int}

theorem result57 {W : World} {c : Nat} {Y : List Int} {tmps : Array Value} (hY : Y.length = 512) (h : W.rangeAt c 0 (numL Y)) (h6 : tmps.getD 6 undef = .pointer (some ⟨c, 0, none⟩)) :
    (results Try.f60 tmps).run Try.prog W = .ok (.tuple #[.agg (nums Y), tmps.getD 7 undef]) W := by
  have hld := run_loadVar_mid (P := Try.prog) W c 0 57 (numL Y) _ h Try.underlying57 rfl (by rw [numL_length, hY]; exact info57)
  rw [results_cell_tmp rfl, h6]
  have hn : (numL Y).toArray = nums Y := rfl
  rw [hn] at hld
  simp [asAddr, Result.andThen, hld]

/-- What step gives at its end: the row is in the result's cells. -/
theorem step_fin {W3 : World} {c : Nat} {Y Z : List Int} {tmps : Array Value} (hY : Y.length = 512) (hc : ArrAt W3 c Z) (ht : TabAt W3 p Y) (hu : Upd (oneB p) w W3) (hge : w.heap.size ≤ c) (hpc : p ≠ c)
    (h6 : tmps.getD 6 undef = .pointer (some ⟨c, 0, none⟩)) (h7 : tmps.getD 7 undef = .bool true) {X' : List Int} (hX : X' = Y) :
    bodyPost Try.prog Try.f60 (fun e w' => e = .returned (.tuple #[.agg (nums X'), .bool true]) ∧ TabAt w' p X' ∧ Upd (oneB p) w w') .ret { tmps := tmps, defers := [] } (W3.setCells c 0 (nums Y).toList) := by
  subst hX
  have hr : (W3.setCells c 0 (nums X').toList).rangeAt c 0 (numL X') := World.rangeAt_setCells_same W3 c 0 (nums X').toList (by rw [numL_eq, numL_length, hY]; exact hc.there)
  have hs : Upd (oneB c) W3 (W3.setCells c 0 (nums X').toList) := upd_setCells _ 0 _ (Upd.refl _ _) (.inl rfl)
  refine bodyPost_ret (result57 hY hr h6) rfl ⟨by rw [h7], ht.upd hs hpc, upd_setCells _ 0 _ hu (.inr hge)⟩

/-- Behind step's first lines. -/
theorem step_start (h : TabAt w p X) (k l q : Int) :
    ∃ (W : World) (a b c : Nat), ((w.alloc (.cells (nums X) 57)).alloc (.cells #[.int .i64 k, .int .i64 l, .int .i64 q] 107)).alloc (.cells Try.zeroCells57 57) = W ∧
      w.heap.size = a ∧ a + 1 = b ∧ b + 1 = c ∧ ArrAt W a X ∧ W.heap[b]? = some (.cells #[.int .i64 k, .int .i64 l, .int .i64 q] 107 (0, 0)) ∧ ArrAt W c (List.replicate 512 0) ∧ TabAt W p X ∧ Upd noB w W ∧ p < a ∧ a < b ∧ b < c ∧ w.heap.size ≤ a := by
  have hu : Upd noB w (((w.alloc (.cells (nums X) 57)).alloc (.cells #[.int .i64 k, .int .i64 l, .int .i64 q] 107)).alloc (.cells Try.zeroCells57 57)) := (((Upd.refl _ _).alloc _).alloc _).alloc _
  refine ⟨_, _, _, _, rfl, rfl, rfl, rfl, ⟨heap_old _ _ (heap_old _ _ (heap_alloc_new _ _)), h.len⟩, heap_old _ _ (heap_new2 _ _ _), ⟨?_, List.length_replicate⟩, h.upd0 hu, hu, h.plt, by omega, by omega, Nat.le_refl _⟩
  rw [← zero57]
  have := heap_alloc_new ((w.alloc (.cells (nums X) 57)).alloc (.cells #[.int .i64 k, .int .i64 l, .int .i64 q] 107)) (.cells Try.zeroCells57 57)
  rwa [World.size_alloc, World.size_alloc] at this

set_option maxRecDepth 100000 in
set_option maxHeartbeats 8000000 in
/-- **step**, telling. -/
theorem step_0 (h : TabAt w p X) (hX : Told X) (l q : Int) :
    Calls Try.prog 60 #[.pointer (some ⟨p, 0, none⟩), .agg (nums X), .agg #[.int .i64 0, .int .i64 l, .int .i64 q]] w fun e w' =>
      e = .returned (.tuple #[.agg (nums (stepX X 0 l q)), .bool true]) ∧ TabAt w' p (stepX X 0 l q) ∧ Upd (oneB p) w w' := by
  have hl := h.len
  obtain ⟨W, a, b, c, hW, hwa, hwb, hwc, ha, ho, hc, ht, hu, h1, h2, h3, h4⟩ := step_start h 0 l q
  have hge : w.heap.size ≤ c := by omega
  go_enter Try.func60, Try.ntmps60
  go_upto_region 1 with fail
  clear hW hwa hwb hwc h
  have ho0 := cell_at ho 0
  have ho1 := cell_at ho 1
  have ho2 := cell_at ho 2
  simp only [List.getElem?_toArray, List.getElem?_cons_zero, List.getElem?_cons_succ] at ho0 ho1 ho2
  have HA := Lib.hid ha
  have HO := Lib.hid ho
  have HC := Lib.hid hc
  have HT := Lib.hid ht
  have HU := Lib.hid (hu.mono (S' := oneB p) (fun _ x => x.elim))
  have HL := Lib.hid hl
  clear ha ho hc ht hu hl
  have hnac : ¬ oneB p a ∧ ¬ oneB p b ∧ ¬ oneB p c := by refine ⟨?_, ?_, ?_⟩ <;> (show ¬ _ = _; omega)
  have HI1 := Lib.hid (show ∀ Y : List Int, Y.length = 512 → (Try.prog.info? 57).map (·.size) = some (numL Y).length from fun Y hY => by rw [numL_length, hY]; exact info57)
  have HI2 := Lib.hid (show ∀ Y : List Int, Y.length = 512 → (Try.prog.info? 57).map (·.size) = some (nums Y).size from fun Y hY => by rw [nums_size, hY]; exact info57)
  have HP := Lib.hid (fun w : World => page_ref (w := w) q)
  by_cases hin : inT l = true
  · obtain ⟨n, rfl, hn⟩ : ∃ n : Nat, l = n ∧ n < 512 := by
      rcases place_cases l with hh | hh
      · rw [inT_out l hh] at hin; cases hin
      · exact hh
    have hd1 : decide (0 ≤ (n : Int)) = true := by simp
    have hd2 : decide ((n : Int) < 512) = true := by simp; omega
    have hset := set_at HT.out (n : Int) q
    by_cases hq : okP q = true
    · have hst : stepX X 0 n q = X.set n q := by unfold stepX; rw [if_pos rfl, if_pos (by simp [hin, hq]), setX_nat X n q hn]
      rw [hin, hq] at hset
      rw [setX_nat X n q hn] at hset
      have Hset := Lib.hid hset
      have HST := Lib.hid hst
      rw [hq] at HP
      clear hset hin hq hst
      go_wp2_with fail
      refine Hset.out.mono ?_
      rintro e W2 ⟨rfl, ht2, hu2⟩
      simp only [Bool.and_self, if_true] at ht2
      have ha2 := HA.out.upd hu2 hnac.1
      have hb0 := hu2.cell ho0 hnac.2.1
      have hb1 := hu2.cell ho1 hnac.2.1
      have hb2 := hu2.cell ho2 hnac.2.1
      have hcell := ha2.cell n hn
      have hfree := ha2.free n
      have hu3 : Upd (oneB a) W2 (W2.setCell ⟨a, n, none⟩ (.int .i64 q)) := by
        refine Upd.setCell (Upd.refl _ _) ?_ _; exact .inl rfl
      have ha3 := ha2.store n q
      have hc3 := (HC.out.upd hu2 hnac.2.2).upd hu3 (show ¬ c = a by omega)
      have ht3 := ht2.upd hu3 (show ¬ p = a by omega)
      have hl3 : (X.set n q).length = 512 := by rw [List.length_set]; exact HL.out
      have HL3 := Lib.hid hl3
      have HRA := Lib.hid ha3.range
      have HTH := Lib.hid (show (W2.setCell ⟨a, n, none⟩ (.int .i64 q)).there c 0 (nums (X.set n q)).size by rw [nums_size, hl3]; exact hc3.there)
      have HU3 := Lib.hid ((HU.out.then hu2).trans hu3 (fun k e => .inr (by cases e; exact h4)))
      have HT3 := Lib.hid ht3
      have HC3 := Lib.hid hc3
      clear ha2 ht3 ht2 hc3 ha3 hu2 hu3 hl3
      go_wp2_with (first | (go_at_call 70; refine (HP.out _).mono ?_; rintro e w' ⟨rfl, rfl⟩) | (refine wpList_load_mid rfl 57 _ rfl a 0 rfl (numL (X.set n q)) _ HRA.out Try.underlying57 rfl (HI1.out _ HL3.out) ?_) | (refine wpList_store_mid rfl 57 _ _ rfl c 0 (nums (X.set n q)) rfl rfl HTH.out (HI2.out _ HL3.out) (nums_one _) ?_))
      exact step_fin HL3.out HC3.out HT3.out HU3.out hge (by omega) rfl rfl HST.out
    · have hq : okP q = false := by simpa using hq
      have hst : stepX X 0 n q = X := by unfold stepX; rw [if_pos rfl, if_neg (by simp [hq])]
      rw [hin, hq] at hset
      have Hset := Lib.hid hset
      have HST := Lib.hid hst
      rw [hq] at HP
      clear hset hin hq hst
      go_wp2_with fail
      refine Hset.out.mono ?_
      rintro e W2 ⟨rfl, ht2, hu2⟩
      simp only [Bool.and_false, Bool.false_eq_true, if_false] at ht2
      have ha2 := HA.out.upd hu2 hnac.1
      have hb0 := hu2.cell ho0 hnac.2.1
      have hb1 := hu2.cell ho1 hnac.2.1
      have hb2 := hu2.cell ho2 hnac.2.1
      have hc2 := HC.out.upd hu2 hnac.2.2
      have HRA := Lib.hid ha2.range
      have HTH := Lib.hid (show W2.there c 0 (nums X).size by rw [nums_size, HL.out]; exact hc2.there)
      have HU2 := Lib.hid (HU.out.then hu2)
      have HT2 := Lib.hid ht2
      have HC2 := Lib.hid hc2
      clear ha2 ht2 hc2 hu2
      go_wp2_with (first | (go_at_call 70; refine (HP.out _).mono ?_; rintro e w' ⟨rfl, rfl⟩) | (refine wpList_load_mid rfl 57 _ rfl a 0 rfl (numL X) _ HRA.out Try.underlying57 rfl (HI1.out _ HL.out) ?_) | (refine wpList_store_mid rfl 57 _ _ rfl c 0 (nums X) rfl rfl HTH.out (HI2.out _ HL.out) (nums_one _) ?_))
      exact step_fin HL.out HC2.out HT2.out HU2.out hge (by omega) rfl rfl HST.out
  · have hin : inT l = false := by simpa using hin
    have hst : stepX X 0 l q = X := by unfold stepX; rw [if_pos rfl, if_neg (by simp [hin])]
    have hset := set_at HT.out l q
    rw [hin] at hset
    have Hset := Lib.hid hset
    have HST := Lib.hid hst
    have hl2 : l < 0 ∨ 512 ≤ l := by
      rcases place_cases l with hh | ⟨n, rfl, hn⟩
      · exact hh
      · rw [inT_nat n hn] at hin; cases hin
    clear hset hin hst
    rcases hl2 with hneg | hbig
    · have hd1 : decide (0 ≤ l) = false := by simp; omega
      clear hneg
      go_wp2_with fail
      refine Hset.out.mono ?_
      rintro e W2 ⟨rfl, ht2, hu2⟩
      simp only [Bool.false_and, Bool.false_eq_true, if_false] at ht2
      have ha2 := HA.out.upd hu2 hnac.1
      have hb0 := hu2.cell ho0 hnac.2.1
      have hb1 := hu2.cell ho1 hnac.2.1
      have hb2 := hu2.cell ho2 hnac.2.1
      have hc2 := HC.out.upd hu2 hnac.2.2
      have HRA := Lib.hid ha2.range
      have HTH := Lib.hid (show W2.there c 0 (nums X).size by rw [nums_size, HL.out]; exact hc2.there)
      have HU2 := Lib.hid (HU.out.then hu2)
      have HT2 := Lib.hid ht2
      have HC2 := Lib.hid hc2
      clear ha2 ht2 hc2 hu2
      go_wp2_with (first | (go_at_call 70; refine (HP.out _).mono ?_; rintro e w' ⟨rfl, rfl⟩) | (refine wpList_load_mid rfl 57 _ rfl a 0 rfl (numL X) _ HRA.out Try.underlying57 rfl (HI1.out _ HL.out) ?_) | (refine wpList_store_mid rfl 57 _ _ rfl c 0 (nums X) rfl rfl HTH.out (HI2.out _ HL.out) (nums_one _) ?_))
      exact step_fin HL.out HC2.out HT2.out HU2.out hge (by omega) rfl rfl HST.out
    · have hd1 : decide (0 ≤ l) = true := by simp; omega
      have hd2 : decide (l < 512) = false := by simp; omega
      clear hbig
      go_wp2_with fail
      refine Hset.out.mono ?_
      rintro e W2 ⟨rfl, ht2, hu2⟩
      simp only [Bool.false_and, Bool.false_eq_true, if_false] at ht2
      have ha2 := HA.out.upd hu2 hnac.1
      have hb0 := hu2.cell ho0 hnac.2.1
      have hb1 := hu2.cell ho1 hnac.2.1
      have hb2 := hu2.cell ho2 hnac.2.1
      have hc2 := HC.out.upd hu2 hnac.2.2
      have HRA := Lib.hid ha2.range
      have HTH := Lib.hid (show W2.there c 0 (nums X).size by rw [nums_size, HL.out]; exact hc2.there)
      have HU2 := Lib.hid (HU.out.then hu2)
      have HT2 := Lib.hid ht2
      have HC2 := Lib.hid hc2
      clear ha2 ht2 hc2 hu2
      go_wp2_with (first | (go_at_call 70; refine (HP.out _).mono ?_; rintro e w' ⟨rfl, rfl⟩) | (refine wpList_load_mid rfl 57 _ rfl a 0 rfl (numL X) _ HRA.out Try.underlying57 rfl (HI1.out _ HL.out) ?_) | (refine wpList_store_mid rfl 57 _ _ rfl c 0 (nums X) rfl rfl HTH.out (HI2.out _ HL.out) (nums_one _) ?_))
      exact step_fin HL.out HC2.out HT2.out HU2.out hge (by omega) rfl rfl HST.out
end
end Go.Proofs.Ytejpcgoblgaieaa.Law07
