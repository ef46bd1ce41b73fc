/-
  Package table: Decode: walked once.
-/
import Derived.Test.YtejpcgoblgaieaaEnc
import Derived.Laws.ResultCell
set_option linter.unusedVariables false
set_option linter.unusedSimpArgs false
namespace Go.Proofs.Ytejpcgoblgaieaa
open Go.RowKit
theorem zero88 : (#[.int .i64 0, .int .i64 0, .int .i64 0, .int .i64 0, .pointer none] : Array Value) = dirV (zeros 4) (.pointer none) := by rfl
/-- A directory in a block. -/
structure DirAt (w : World) (b : Nat) (L : List Int) (u : Value) : Prop where
  hp : w.heap[b]? = some (.cells (dirV L u) 88 (0, 0))
  len : L.length = 4
section
variable {w : World} {b : Nat} {L : List Int} {u : Value}
theorem dirV_size (L : List Int) (u : Value) : (dirV L u).size = L.length + 1 := by simp [dirV, numL_length]
theorem DirAt.range5 (h : DirAt w b L u) : w.rangeAt b 0 (dirV L u).toList := by
  intro j v hv
  rw [Nat.zero_add, cell_at h.hp j, ← Array.getElem?_toList]; exact hv
theorem DirAt.there (h : DirAt w b L u) : w.there b 0 5 := by
  intro j hj
  have hs : (dirV L u).size = 5 := by rw [dirV_size, h.len]
  refine ⟨?_, frozen_at h.hp _⟩
  rw [cell_at h.hp, Array.getElem?_eq_getElem (by omega)]; rfl
theorem DirAt.upd {S : Nat → Prop} {w' : World} (h : DirAt w b L u) (hu : Upd S w w') (hn : ¬ S b) : DirAt w' b L u := ⟨hu.at h.hp hn, h.len⟩
theorem DirAt.upd0 {w' : World} (h : DirAt w b L u) (hu : Upd noB w w') : DirAt w' b L u := h.upd hu (fun x => x)
theorem DirAt.plt (h : DirAt w b L u) : b < w.heap.size := lt_of_block h.hp
theorem DirAt.cell (h : DirAt w b L u) (k : Nat) (hk : k < 4) : w.cell? ⟨b, k, none⟩ = some (.int .i64 (L.getD k 0)) := by
  rw [cell_at h.hp k]
  have hj : k < (numL L).length := by rw [numL_length, h.len]; exact hk
  simp only [dirV, List.getElem?_toArray]
  rw [List.getElem?_append_left hj]; exact numL_get L k (by rw [h.len]; exact hk)
theorem DirAt.used (h : DirAt w b L u) : w.cell? ⟨b, 4, none⟩ = some u := dir_used h.len h.hp
theorem DirAt.free (h : DirAt w b L u) (k : Nat) : w.frozen? ⟨b, k, none⟩ = false := frozen_at h.hp k
theorem dirV_set (L : List Int) (u : Value) (k : Nat) (hk : k < L.length) (x : Int) : (dirV L u).setIfInBounds k (.int .i64 x) = dirV (L.set k x) u := by
  apply Array.ext'
  simp only [dirV, Array.toList_setIfInBounds]
  rw [List.set_append_left _ _ (by rw [numL_length]; exact hk)]
  simp [numL, List.map_set]
theorem DirAt.store (h : DirAt w b L u) (k : Nat) (hk : k < 4) (x : Int) : DirAt (w.setCell ⟨b, k, none⟩ (.int .i64 x)) b (L.set k x) u :=
  ⟨by rw [setCell_at h.hp, dirV_set L u k (by rw [h.len]; exact hk)], by rw [List.length_set]; exact h.len⟩
theorem DirAt.storeU (h : DirAt w b L u) (v : Value) : DirAt (w.setCell ⟨b, 4, none⟩ v) b L v := by
  refine ⟨?_, h.len⟩
  rw [setCell_at h.hp]
  have : (dirV L u).setIfInBounds 4 v = dirV L v := by
    apply Array.ext'
    simp only [dirV, Array.toList_setIfInBounds]
    rw [List.set_append_right _ _ (by rw [numL_length, h.len]; omega), numL_length, h.len]; rfl
  rw [this]
theorem dir_new (W : World) : DirAt (W.alloc (.cells #[.int .i64 0, .int .i64 0, .int .i64 0, .int .i64 0, .pointer none] 88)) W.heap.size (zeros 4) (.pointer none) :=
  ⟨by rw [← zero88]; exact heap_alloc_new _ _, zeros_length 4⟩
theorem dirV_one (L : List Int) (p : Option Addr) : (dirV L (.pointer p)).all (·.oneCell') = true := by
  rw [Array.all_eq_true']
  intro v hv
  simp [dirV, numL] at hv
  rcases hv with ⟨a, _, rfl⟩ | rfl <;> rfl
end
/-- Cells, laid into a block. -/
def putA : Array Value → Nat → List Value → Array Value
  | cs, _, [] => cs
  | cs, o, v :: vs => putA (cs.setIfInBounds o v) (o + 1) vs
theorem putA_size : ∀ (vs : List Value) (cs : Array Value) (o : Nat), (putA cs o vs).size = cs.size
  | [], _, _ => rfl
  | v :: vs, cs, o => by rw [putA, putA_size vs]; simp
theorem putA_get : ∀ (vs : List Value) (cs : Array Value) (o j : Nat), (putA cs o vs)[j]? = if o ≤ j ∧ j < o + vs.length ∧ j < cs.size then vs[j - o]? else cs[j]?
  | [], cs, o, j => by rw [putA, if_neg (by simp; omega)]
  | v :: vs, cs, o, j => by
    rw [putA, putA_get vs, Array.size_setIfInBounds, Array.getElem?_setIfInBounds, List.length_cons]
    by_cases h : o + 1 ≤ j ∧ j < o + 1 + vs.length ∧ j < cs.size
    · rw [if_pos h, if_pos (by omega), show j - o = (j - (o + 1)) + 1 by omega]; rfl
    · rw [if_neg h]
      by_cases h2 : o = j
      · by_cases h3 : o < cs.size
        · rw [if_pos h2, if_pos h3, if_pos (by omega), show j - o = 0 by omega]; rfl
        · rw [if_pos h2, if_neg h3, if_neg (by omega), Array.getElem?_eq_none (by omega)]
      · rw [if_neg h2, if_neg (by omega)]
theorem heap_setCellsA {b : Nat} {t : TypeId} {fz : Nat × Nat} : ∀ (vs : List Value) (o : Nat) (w : World) (cs : Array Value), w.heap[b]? = some (.cells cs t fz) → (w.setCells b o vs).heap[b]? = some (.cells (putA cs o vs) t fz)
  | [], o, w, cs, h => h
  | v :: vs, o, w, cs, h => by
    show ((w.setCell ⟨b, o, none⟩ v).setCells b (o + 1) vs).heap[b]? = _
    rw [putA]
    exact heap_setCellsA vs (o + 1) _ _ (by rw [setCell_at h])
theorem putA_full {cs ds : Array Value} (h : ds.size = cs.size) : putA cs 0 ds.toList = ds := by
  apply Array.ext_getElem?
  intro j
  rw [putA_get, Nat.zero_add, Nat.sub_zero, Array.length_toList, Array.getElem?_toList]
  by_cases hj : j < cs.size
  · rw [if_pos (by omega)]
  · rw [if_neg (by omega), Array.getElem?_eq_none (by omega), Array.getElem?_eq_none (by omega)]
theorem DirAt.stored {w : World} {b : Nat} {L M : List Int} {u v : Value} (h : DirAt w b L u) (hM : M.length = 4) : DirAt (w.setCells b 0 (dirV M v).toList) b M v :=
  ⟨by have := heap_setCellsA (dirV M v).toList 0 w _ h.hp; rwa [putA_full (by rw [dirV_size, dirV_size, hM, h.len])] at this, hM⟩
theorem setN_dir (xs : List Int) : setN (zeros 4) 0 xs 4 = dirL xs := rfl
/-- What Decode gives. -/
def DecPost (w : World) (xs : List Int) (e : Ending) (w' : World) : Prop :=
  Upd noB w w' ∧ ((xs.length ≠ 512 ∧ e = .returned (.tuple #[.agg (dirV (zeros 4) (.pointer none)), .int .i64 (sizedE xs.length)])) ∨
    (xs.length = 512 ∧ dirOK xs = false ∧ e = .returned (.tuple #[.agg (dirV (zeros 4) (.pointer none)), .int .i64 4])) ∨
    (xs.length = 512 ∧ dirOK xs = true ∧ ∃ p g c, e = .returned (.tuple #[.agg (dirV (dirL xs) (.pointer (some ⟨p, 0, none⟩))), .int .i64 0]) ∧ Table.SetAt w' p g c (truths 512 (dirY xs))))
section
variable {w : World}
theorem dec_fin {W : World} {c : Nat} {L : List Int} {p : Option Addr} {e : Int} {tmps : Array Value} {xs : List Int} (h : DirAt W c L (.pointer p)) (h2 : tmps.getD 2 undef = .pointer (some ⟨c, 0, none⟩)) (h3 : tmps.getD 3 undef = .int .i64 e)
    (post : DecPost w xs (.returned (.tuple #[.agg (dirV L (.pointer p)), .int .i64 e])) W) : bodyPost Try.prog Try.f47 (DecPost w xs) .ret { tmps := tmps, defers := [] } W := by
  have hs : (dirV L (.pointer p)).toList.length = 5 := by rw [Array.length_toList, dirV_size, h.len]
  have hld := run_loadVar_mid (P := Try.prog) W c 0 88 (dirV L (.pointer p)).toList _ h.range5 Try.underlying88 rfl (by rw [hs]; exact info88)
  refine bodyPost_ret (v := .tuple #[.agg (dirV L (.pointer p)), .int .i64 e]) ?_ rfl post
  rw [results_cell_tmp rfl, h2, h3]
  simp [asAddr, Result.andThen, hld]
set_option maxRecDepth 100000 in
set_option maxHeartbeats 8000000 in
theorem dec_at (A : Option Addr) (c : Nat) (xs : List Int) (hx : Bytes xs) (hn2 : xs.length ≤ 1000000) (hcap : xs.length ≤ c) (hA : Lib.BytesIn w A xs.length xs) :
    Calls Try.prog 47 #[.slice A xs.length c] w (DecPost w xs) := by
  have HSZ := Lib.hid (fun W : World => tsized_at (w := W) A xs.length c)
  by_cases hs : xs.length ≠ 512
  · have hne : sizedE xs.length ≠ 0 := by
      unfold sizedE
      by_cases h1 : xs.length < 512
      · rw [if_pos h1]; decide
      · rw [if_neg h1, if_pos (by omega)]; decide
    obtain ⟨e, he⟩ : ∃ e, sizedE xs.length = e := ⟨_, rfl⟩
    rw [he] at HSZ hne
    have HE := Lib.hid he
    have hd : (e != 0) = true := by simpa using hne
    have HS := Lib.hid hs
    clear hs hne he hA hx hcap hn2
    go_enter Try.func47, Try.ntmps47
    go_wp2_with (first | (go_at_call 71; refine (HSZ.out _).mono ?_; rintro e w' ⟨rfl, rfl⟩))
    refine dec_fin (L := zeros 4) (p := none) (dir_new w) rfl rfl ⟨(Upd.refl _ _).alloc _, .inl ⟨HS.out, by rw [HE.out]⟩⟩
  · obtain ⟨m, hm⟩ : ∃ m, m = xs.length := ⟨_, rfl⟩
    have hm5 : m = 512 := by omega
    obtain ⟨b, o, rfl, hcs⟩ := hA (by omega)
    rw [show sizedE xs.length = 0 by unfold sizedE; rw [if_neg (by omega), if_neg (by omega)]] at HSZ
    rw [← hm] at hcs HSZ hcap ⊢
    have HB := Lib.hid hcs
    have HX := Lib.hid hx
    have HM5 := Lib.hid hm5
    have HM := Lib.hid hm
    have HCAP := Lib.hid hcap
    clear hcs hx hm hm5 hs hn2 hA hcap
    go_enter Try.func47, Try.ntmps47
    go_upto_region 5 with (first | (go_at_call 71; refine (HSZ.out _).mono ?_; rintro e w' ⟨rfl, rfl⟩))
    obtain ⟨r, hr⟩ : ∃ r, r = w.heap.size := ⟨_, rfl⟩
    obtain ⟨d, hd⟩ : ∃ d, d = w.heap.size + 1 := ⟨_, rfl⟩
    obtain ⟨V, hV⟩ : ∃ V, V = (w.alloc (.cells #[.int .i64 0, .int .i64 0, .int .i64 0, .int .i64 0, .pointer none] 88)).alloc (.cells #[.int .i64 0, .int .i64 0, .int .i64 0, .int .i64 0, .pointer none] 88) := ⟨_, rfl⟩
    have h1 : DirAt V r (zeros 4) (.pointer none) := by rw [hV, hr]; exact (dir_new w).upd0 ((Upd.refl _ _).alloc _)
    have h2 : DirAt V d (zeros 4) (.pointer none) := by
      have := dir_new (w.alloc (.cells #[.int .i64 0, .int .i64 0, .int .i64 0, .int .i64 0, .pointer none] 88))
      rw [World.size_alloc] at this
      rw [hV, hd]; exact this
    have huv : Upd noB w V := by rw [hV]; exact ((Upd.refl _ _).alloc _).alloc _
    rw [← hd, ← hr, ← hV]
    have hrw : w.heap.size ≤ r := by omega
    have hrd : r ≠ d := by omega
    have hdw : w.heap.size ≤ d := by omega
    have H1 := Lib.hid h1
    have H2 := Lib.hid h2
    have HU := Lib.hid huv
    clear hV hr hd h1 h2 huv HSZ
    have hmc := HCAP.out
    go_wp2
    go_loopw [19] (fun t wr => ∃ k : Nat, t = .int .i64 (k : Int) ∧ k ≤ 4 ∧ Hid (DirAt wr d (setN (zeros 4) 0 xs k) (.pointer none)) ∧ Hid (Upd (oneB d) V wr)) (fun t _ => 4 - (intOf t).toNat)
    case atStart => exact ⟨0, rfl, by omega, H2.out, Upd.refl _ _⟩
    case round =>
      obtain ⟨k, rfl, hk, hat, hup⟩ := hrel
      have H1k := Lib.hid (H1.out.upd hup.out hrd)
      have HUk := Lib.hid (HU.out.trans hup.out (fun i e => by cases e; exact .inr hdw) : Upd noB w wr)
      by_cases hlt : k < 4
      · have hd : decide ((k : Int) < 4) = true := by simp; omega
        have hm5 := HM5.out
        have hv := fun (n' c' : Nat) (h4 : 4 ≤ n') => take_xs (w := wr) b o n' c' (4 * k) m xs HX.out h4 (by omega) (fun i hi => HUk.out.cell (HB.out i hi) (fun x => x))
        have hw4 : IntKind.i64.wrap (4 * (k : Int)) = 4 * (k : Int) := by rw [IntKind.wrap_i64]; omega
        have hst : setN (zeros 4) 0 xs (k + 1) = (setN (zeros 4) 0 xs k).set k (val4 xs (4 * k)) := by rw [setN, Nat.zero_add]
        obtain ⟨x, hx⟩ : ∃ x, val4 xs (4 * k) = x := ⟨_, rfl⟩
        rw [hx] at hst
        simp only [hx] at hv
        have HV := Lib.hid hv
        have HST := Lib.hid hst
        have hb1 : (0 : Int) ≤ 4 * (k : Int) := by omega
        have hb2 : 4 * (k : Int) ≤ (m : Int) := by omega
        have hb4 : (m : Int) ≤ (c : Int) := by omega
        have hb3 : (4 * (k : Int)).toNat = 4 * k := by omega
        have hb5 : ¬ (c - 4 * k = 0) := by omega
        have hb6 : ¬ (c = 4 * k) := by omega
        have hb7 : ¬ (c ≤ 4 * k) := by omega
        have hd0 : Upd noB (wr.setCell ⟨d, k, none⟩ (.int .i64 x)) (wr.setCell ⟨d, k, none⟩ (.int .i64 x)).drew := (Upd.refl _ _).drew
        have hs0 : Upd (oneB d) wr (wr.setCell ⟨d, k, none⟩ (.int .i64 x)) := by
          refine Upd.setCell (Upd.refl _ _) ?_ _
          exact .inl rfl
        have HAT := Lib.hid ((hat.out.store k hlt x).upd0 hd0)
        have HUP := Lib.hid ((hup.out.then hs0).then0 hd0)
        obtain ⟨y, hcu⟩ : ∃ y, wr.cell? ⟨d, k, none⟩ = some (.int .i64 y) := ⟨_, hat.out.cell k hlt⟩
        have hfu := hat.out.free k
        clear hv hst hx hm5 hat hup hd0 hs0
        go_wp2_with (go_at_call 72; refine (HV.out _ _ (by have := HM5.out; omega)).mono ?_; rintro e w' ⟨rfl, rfl⟩)
        go_roundw
        case rel => exact ⟨k + 1, by go_num, by omega, HST.out ▸ HAT.out, HUP.out⟩
        case measure => simp [intOf]; omega
      · have hd : decide ((k : Int) < 4) = false := by simp; omega
        obtain rfl : k = 4 := by omega
        have hat2 := hat.out
        rw [setN_dir] at hat2
        have HAT := Lib.hid hat2
        have HUP := Lib.hid hup.out
        clear hat hat2 hup hk hlt
        have hm5 := HM5.out
        have hyl := dirY_length (xs := xs) (by rw [← HM.out, HM5.out])
        have hof := Table.of_at (w := wr) 512 (by omega) (some ⟨b, o + 16, none⟩) (c - 16) (dirY xs) (by rw [hyl]; omega) (dirY_bytes HX.out) (fun _ => ⟨b, o + 16, rfl, fun i hi => by
          rw [hyl] at hi
          have := HUk.out.cell (HB.out (16 + i) (by omega)) (fun x => x)
          rw [← Nat.add_assoc] at this
          rw [this]
          congr 2
          rw [dirY, List.getD_eq_getElem?_getD, List.getD_eq_getElem?_getD, List.getElem?_take, if_pos hi, List.getElem?_drop]⟩)
        have hof2 : Calls Try.prog 77 #[.int .i64 512, .slice (some ⟨b, o + 16, none⟩) 64 (c - 16)] wr fun e w' => Upd noB wr w' ∧ ∃ p g c, e = .returned (.tuple #[.pointer (some ⟨p, 0, none⟩), .int .i64 0]) ∧ Table.SetAt w' p g c (truths 512 (dirY xs)) ∧ wr.heap.size ≤ p ∧ wr.heap.size ≤ g := by
          rw [hyl] at hof
          refine hof.mono ?_
          rintro e w' ⟨hu, h | h | h | h⟩
          · have := h.1; rw [hyl] at this; exact absurd this (by decide)
          · have := h.1; rw [hyl] at this; exact absurd this (by decide)
          · have := h.2.1; rw [no_stray hyl] at this; cases this
          · obtain ⟨_, _, p, g, c, he, hs, h1, h2⟩ := h
            exact ⟨hu, p, g, c, he, hs, h1, h2⟩
        have HOF := Lib.hid hof2
        have hb1 : (16 : Int) ≤ m := by omega
        have hb2 : (80 : Int) ≤ c := by omega
        have hb5 : ¬ (c - 16 = 0) := by omega
        have hb6 : ¬ (c = 16) := by omega
        have hb7 : ¬ (c ≤ 16) := by omega
        clear hof hof2 hyl hm5
        go_wp2_with fail
        refine HOF.out.mono ?_
        rintro e w11 ⟨hu11, p, g, cc, rfl, hset, hp11, hg11⟩
        have hdl := HAT.out.plt
        have hD11 := HAT.out.upd0 hu11
        have hcu : w11.cell? ⟨d, 4, none⟩ = some (.pointer none) := hD11.used
        have hfu := hD11.free 4
        have hpd : ¬ oneB d p := by show ¬ _ = _; omega
        have hgd : ¬ oneB d g := by show ¬ _ = _; omega
        have hrl := H1k.out.plt
        have hpr : ¬ oneB r p := by show ¬ _ = _; omega
        have hgr : ¬ oneB r g := by show ¬ _ = _; omega
        have HPR := Lib.hid (And.intro hpr hgr)
        have hs4 : Upd (oneB d) w11 (w11.setCell ⟨d, 4, none⟩ (.pointer (some ⟨p, 0, none⟩))) := by
          refine Upd.setCell (Upd.refl _ _) ?_ _
          exact .inl rfl
        have HD12 := Lib.hid (hD11.storeU (.pointer (some ⟨p, 0, none⟩)))
        have HS12 := Lib.hid (hset.upd hs4 hpd hgd)
        have H112 := Lib.hid ((H1k.out.upd0 hu11).upd hs4 hrd)
        have HU12 := Lib.hid ((HUk.out.then0 hu11).trans hs4 (fun i e => by cases e; exact .inr hdw))
        clear hpr hgr hrl hu11 hset hp11 hg11 hdl hD11 hpd hgd hs4 HOF HAT HUP H1k HUk
        go_upto_region 13 with fail
        obtain ⟨W12, hW12⟩ : ∃ W, W = w11.setCell ⟨d, 4, none⟩ (.pointer (some ⟨p, 0, none⟩)) := ⟨_, rfl⟩
        rw [← hW12] at HD12 HS12 H112 HU12 ⊢
        clear hW12 hcu hfu
        have hsz5 : (dirV (dirL xs) (.pointer (some ⟨p, 0, none⟩))).toList.length = 5 := by rw [Array.length_toList, dirV_size]; rfl
        have HI5 := Lib.hid (show (Try.prog.info? 88).map (·.size) = some (dirV (dirL xs) (.pointer (some ⟨p, 0, none⟩))).toList.length by rw [hsz5]; exact info88)
        have HEN := Lib.hid (enc_at (L := dirL xs) rfl HS12.out (truths_length 512 _))
        clear hsz5
        go_wp2_with (refine wpList_load_mid rfl 88 _ rfl d 0 rfl (dirV (dirL xs) (.pointer (some ⟨p, 0, none⟩))).toList _ HD12.out.range5 Try.underlying88 rfl HI5.out ?_)
        refine HEN.out.mono ?_
        rintro e w13 ⟨hu13, hcase⟩
        have H113 := Lib.hid (H112.out.upd0 hu13)
        have HD13 := Lib.hid (HD12.out.upd0 hu13)
        have HS13 := Lib.hid (HS12.out.upd0 hu13)
        have HU13 := Lib.hid (HU12.out.then0 hu13)
        have HTH := Lib.hid H113.out.there
        have hx5 : xs.length = 512 := by rw [← HM.out]; exact HM5.out
        have HX5 := Lib.hid hx5
        have herr : ∀ h : dirOK xs = false, DecPost w xs (.returned (.tuple #[.agg (dirV (zeros 4) (.pointer none)), .int .i64 4])) (w13.setCells r 0 (dirV (zeros 4) (.pointer none)).toList) :=
          fun h => ⟨upd_cells _ _ _ HU13.out (.inr hrw), .inr (.inl ⟨HX5.out, h, rfl⟩)⟩
        have HERR := Lib.hid herr
        have HD0 := Lib.hid (H113.out.stored (M := zeros 4) (v := .pointer none) (zeros_length 4))
        clear hu13 H112 HD12 HS12 HU12 HEN HI5 hx5 herr
        rcases hcase with ⟨hno, rfl⟩ | ⟨hyes, v13, rfl, hr13⟩
        · have HNO := Lib.hid (show dirOK xs = false by rw [dirOK, show okL (dirL xs) = false by simpa using hno]; rfl)
          clear hno
          go_wp2_with (refine wpList_store_mid rfl 88 _ _ rfl r 0 (dirV (zeros 4) (.pointer none)) rfl rfl ?_ ?_ ?_ ?_; exact HTH.out; exact info88; exact dirV_one _ _)
          exact dec_fin HD0.out rfl rfl (HERR.out HNO.out)
        · have hokl : okL (dirL xs) = true := by simpa using hyes
          have HCV := Lib.hid (conv_of hr13 (by rw [List.length_append, List.length_append, zeros_length]; omega)).run
          have hcv2 : (convert 48 9 (.slice (some ⟨b, o, none⟩) m c)).run Try.prog w13 = .ok (.string (strOfNums xs)) w13 :=
            run_convert_bytes_arg w13 _ _ Try.underlying48 Try.underlying5 b o m c xs HM.out.symm (fun i hi => HU13.out.cell (HB.out i hi) (fun x => x)) _ Try.underlying9
          have hcv1 := HCV.out
          have hds : (leavesB (dirL xs) ++ bytesOf (truths 512 (dirY xs)) ++ zeros 432) = dirB (dirL xs) (truths 512 (dirY xs)) := rfl
          rw [hds] at hcv1
          have hq : ((strOfNums (dirB (dirL xs) (truths 512 (dirY xs)))).toList == (strOfNums xs).toList) = dirOK xs := by
            rw [strOf_eq (dirB_bytes hokl) HX.out, dirOK, hokl, Bool.true_and]
            exact decide_eq_decide.2 (again_eq HX.out HX5.out hokl)
          obtain ⟨q, hqq⟩ : ∃ q, dirOK xs = q := ⟨_, rfl⟩
          rw [hqq] at hq
          have HQ := Lib.hid hqq
          clear hyes hokl hr13 HCV hds hqq
          cases q
          · go_wp2_with (refine wpList_store_mid rfl 88 _ _ rfl r 0 (dirV (zeros 4) (.pointer none)) rfl rfl ?_ ?_ ?_ ?_; exact HTH.out; exact info88; exact dirV_one _ _)
            exact dec_fin HD0.out rfl rfl (HERR.out HQ.out)
          · have hsz5 : (dirV (dirL xs) (.pointer (some ⟨p, 0, none⟩))).toList.length = 5 := by rw [Array.length_toList, dirV_size]; rfl
            have HI5 := Lib.hid (show (Try.prog.info? 88).map (·.size) = some (dirV (dirL xs) (.pointer (some ⟨p, 0, none⟩))).toList.length by rw [hsz5]; exact info88)
            have hsz6 : (dirV (dirL xs) (.pointer (some ⟨p, 0, none⟩))).size = 5 := by rw [dirV_size]; rfl
            have HI6 := Lib.hid (show (Try.prog.info? 88).map (·.size) = some (dirV (dirL xs) (.pointer (some ⟨p, 0, none⟩))).size by rw [hsz6]; exact info88)
            have HTH6 := Lib.hid (show w13.there r 0 (dirV (dirL xs) (.pointer (some ⟨p, 0, none⟩))).size by rw [hsz6]; exact HTH.out)
            have HD1 := Lib.hid (H113.out.stored (M := dirL xs) (v := .pointer (some ⟨p, 0, none⟩)) rfl)
            have hsr : Upd (oneB r) w13 (w13.setCells r 0 (dirV (dirL xs) (.pointer (some ⟨p, 0, none⟩))).toList) := upd_cells _ _ _ (Upd.refl _ _) (.inl rfl)
            clear hsz5 hsz6
            go_wp2_with (first | (refine wpList_load_mid rfl 88 _ rfl d 0 rfl (dirV (dirL xs) (.pointer (some ⟨p, 0, none⟩))).toList _ HD13.out.range5 Try.underlying88 rfl HI5.out ?_) | (refine wpList_store_mid rfl 88 _ _ rfl r 0 (dirV (dirL xs) (.pointer (some ⟨p, 0, none⟩))) rfl rfl ?_ ?_ ?_ ?_; exact HTH6.out; exact HI6.out; exact dirV_one _ _))
            exact dec_fin HD1.out rfl rfl ⟨upd_cells _ _ _ HU13.out (.inr hrw), .inr (.inr ⟨HX5.out, HQ.out, p, g, cc, rfl, HS13.out.upd hsr HPR.out.1 HPR.out.2⟩)⟩
end
end Go.Proofs.Ytejpcgoblgaieaa
