/-
  What Decode of the document's layer 7 gives: walked once.
-/
import Derived.Test.YtejpcgoblgaieaaDirPlain
import Derived.Test.YtejpcgoblgaieaaLoadRef
import Derived.Test.YtejpcgoblgaieaaRef06Of
set_option linter.unusedVariables false
set_option linter.unusedSimpArgs false
namespace Go.Proofs.Ytejpcgoblgaieaa.Law07
open Go.RowKit Go.Proofs.Ytejpcgoblgaieaa
/-- Four numbers in a block. -/
structure Arr4 (w : World) (b : Nat) (L : List Int) : Prop where
  hp : w.heap[b]? = some (.cells (nums L) 79 (0, 0))
  len : L.length = 4
theorem info79' : (Try.prog.info? 79).map (·.size) = some 4 := by kernel_rfl
section
variable {w : World} {b : Nat} {L : List Int}
theorem Arr4.cell (h : Arr4 w b L) (k : Nat) (hk : k < 4) : w.cell? ⟨b, k, none⟩ = some (.int .i64 (L.getD k 0)) := (cell_at h.hp k).trans (nums_get L k (by rw [h.len]; exact hk))
theorem Arr4.free (h : Arr4 w b L) (k : Nat) : w.frozen? ⟨b, k, none⟩ = false := frozen_at h.hp k
theorem Arr4.plt (h : Arr4 w b L) : b < w.heap.size := lt_of_block h.hp
theorem Arr4.upd {S : Nat → Prop} {w' : World} (h : Arr4 w b L) (hu : Upd S w w') (hn : ¬ S b) : Arr4 w' b L := ⟨hu.at h.hp hn, h.len⟩
theorem Arr4.upd0 {w' : World} (h : Arr4 w b L) (hu : Upd noB w w') : Arr4 w' b L := h.upd hu (fun x => x)
theorem Arr4.store (h : Arr4 w b L) (k : Nat) (x : Int) : Arr4 (w.setCell ⟨b, k, none⟩ (.int .i64 x)) b (L.set k x) := ⟨by rw [setCell_at h.hp, nums_set], by rw [List.length_set]; exact h.len⟩
theorem Arr4.range (h : Arr4 w b L) : w.rangeAt b 0 (numL L) := by
  intro j v hv
  rw [Nat.zero_add, cell_at h.hp j]
  simpa [nums, numL] using hv
theorem Arr4.there (h : Arr4 w b L) {M : List Int} (hM : M.length = 4) : w.there b 0 (numL M).toArray.size := by
  have h2 : (numL M).toArray.size = 4 := by rw [List.size_toArray, numL_length, hM]
  rw [h2]
  intro j hj
  rw [Nat.zero_add]
  exact ⟨by rw [h.cell j hj]; rfl, h.free j⟩
theorem Arr4.stored (h : Arr4 w b L) {M : List Int} (hM : M.length = 4) : Arr4 (w.setCells b 0 (numL M)) b M :=
  ⟨by have := heap_setCells M 0 w L h.hp; rwa [putL_full (by rw [hM, h.len])] at this, hM⟩
theorem arr4_new (W : World) : Arr4 (W.alloc (.cells #[.int .i64 0, .int .i64 0, .int .i64 0, .int .i64 0] 79)) W.heap.size (zeros 4) := ⟨heap_alloc_new _ _, zeros_length 4⟩
end
/-- What Decode gives. -/
def DecRefPost (w : World) (xs : List Int) (e : Ending) (w' : World) : Prop :=
  Upd noB w w' ∧ ((xs.length ≠ 512 ∧ e = .returned (.tuple #[.agg (nums (zeros 4)), .slice none 0 0, .int .i64 (sizedE xs.length)])) ∨
    (xs.length = 512 ∧ dirOK xs = false ∧ e = .returned (.tuple #[.agg (nums (zeros 4)), .slice none 0 0, .int .i64 4])) ∨
    (xs.length = 512 ∧ dirOK xs = true ∧ ∃ v, e = .returned (.tuple #[.agg (nums (dirL xs)), v, .int .i64 0]) ∧ Ref06.BRow w' v (truths 512 (dirY xs))))
theorem results_ctt {fn : Func} {t p u : Tmp} {ty : TypeId} (h : fn.results = #[.cell p ty, .tmp t, .tmp u]) (tmps : Array Value) (P : Program) (w : World) :
    (results fn tmps).run P w = ((asAddr (tmps.getD p undef)).run P w).andThen fun a w₁ => ((loadVar ty a).run P w₁).andThen fun v w₂ => .ok (.tuple #[v, tmps.getD t undef, tmps.getD u undef]) w₂ := by
  simp only [results, h]
  simp [Sem.run_bind, Result.andThen]
theorem drop_zero {xs : List Int} (hl : xs.length = 512) : (xs.drop 80 = zeros 432) ↔ ∀ j, j < 432 → xs.getD (80 + j) 0 = 0 := by
  constructor
  · intro h j hj
    have : (xs.drop 80).getD j 0 = 0 := by rw [h]; exact zeros_getD 432 j
    rwa [List.getD_eq_getElem?_getD, List.getElem?_drop, ← List.getD_eq_getElem?_getD] at this
  · intro h
    refine ext_getD (by rw [List.length_drop, hl, zeros_length]) (fun j hj => ?_)
    rw [List.length_drop, hl] at hj
    rw [List.getD_eq_getElem?_getD, List.getElem?_drop, ← List.getD_eq_getElem?_getD, h j (by omega)]
    exact (zeros_getD 432 j).symm
section
variable {w : World}
theorem decref_fin {W : World} {c : Nat} {L Z : List Int} {v : Value} {e : Int} {tmps : Array Value} {xs : List Int} (h : Arr4 W c Z) (hL : L.length = 4) (h2 : tmps.getD 2 undef = .pointer (some ⟨c, 0, none⟩)) (h3 : tmps.getD 3 undef = v) (h4 : tmps.getD 4 undef = .int .i64 e)
    (post : DecRefPost w xs (.returned (.tuple #[.agg (nums L), v, .int .i64 e])) (W.setCells c 0 (numL L))) : bodyPost Try.prog Try.f48 (DecRefPost w xs) .ret { tmps := tmps, defers := [] } (W.setCells c 0 (numL L)) := by
  have hld := run_loadVar_mid (P := Try.prog) _ c 0 79 (numL L) _ (h.stored hL).range Try.underlying79 rfl (by rw [numL_length, hL]; exact info79')
  have hn : (numL L).toArray = nums L := rfl
  rw [hn] at hld
  refine bodyPost_ret (v := .tuple #[.agg (nums L), v, .int .i64 e]) ?_ rfl post
  rw [results_ctt rfl, h2, h3, h4]
  simp [asAddr, Result.andThen, hld]
/-- The first three boxes. -/
theorem dref_start (w : World) : ∃ (V : World) (r n l : Nat), ((w.alloc (.cells #[.int .i64 0, .int .i64 0, .int .i64 0, .int .i64 0] 79)).alloc (.cells #[.int .i64 0, .int .i64 0, .int .i64 0, .int .i64 0] 79)).alloc (.cells #[.int .i64 0, .int .i64 0, .int .i64 0, .int .i64 0] 79) = V ∧
    w.heap.size = r ∧ r + 1 = n ∧ n + 1 = l ∧ Arr4 V r (zeros 4) ∧ Arr4 V n (zeros 4) ∧ Arr4 V l (zeros 4) ∧ Upd noB w V := by
  refine ⟨_, _, _, _, rfl, rfl, rfl, rfl, (arr4_new w).upd0 (((Upd.refl _ _).alloc _).alloc _), ?_, ?_, (((Upd.refl _ _).alloc _).alloc _).alloc _⟩
  · have := arr4_new (w.alloc (.cells #[.int .i64 0, .int .i64 0, .int .i64 0, .int .i64 0] 79))
    rw [World.size_alloc] at this
    exact this.upd0 ((Upd.refl _ _).alloc _)
  · have := arr4_new ((w.alloc (.cells #[.int .i64 0, .int .i64 0, .int .i64 0, .int .i64 0] 79)).alloc (.cells #[.int .i64 0, .int .i64 0, .int .i64 0, .int .i64 0] 79))
    rw [World.size_alloc, World.size_alloc] at this
    exact this
set_option maxRecDepth 100000 in
set_option maxHeartbeats 8000000 in
theorem dec_ref (A : Option Addr) (c : Nat) (xs : List Int) (hx : Bytes xs) (hn2 : xs.length ≤ 1000000) (hcap : xs.length ≤ c) (hA : Lib.BytesIn w A xs.length xs) :
    Calls Try.prog 48 #[.slice A xs.length c] w (DecRefPost w xs) := by
  obtain ⟨V, r, n, l, hV, hr, hn, hl, h1, h2, h3, hu⟩ := dref_start w
  have HR := Lib.hid h1
  have HN := Lib.hid h2
  have HL := Lib.hid h3
  have HU := Lib.hid hu
  have hrw : w.heap.size ≤ r := by omega
  have hrl : r ≠ l := by omega
  have hnl : n ≠ l := by omega
  have hlw : w.heap.size ≤ l := by omega
  have HI := Lib.hid (show (Try.prog.info? 79).map (·.size) = some (numL (zeros 4)).length by rw [numL_length, zeros_length]; exact info79')
  have HIS := Lib.hid (show (Try.prog.info? 79).map (·.size) = some (numL (zeros 4)).toArray.size by rw [List.size_toArray, numL_length, zeros_length]; exact info79')
  have HON := Lib.hid (all_oneCell_toArray (numL_one (zeros 4)))
  clear h1 h2 h3 hu
  by_cases hs : xs.length ≠ 512
  · have HS := Lib.hid hs
    by_cases h5 : xs.length < 512
    · have hd : decide ((xs.length : Int) < 512) = true := by simp; omega
      have HE := Lib.hid (show sizedE xs.length = 3 by simp [sizedE, h5])
      clear hs h5 hA hx hcap hn2
      go_enter Try.func48, Try.ntmps48
      go_upto_region 2 with fail
      clear hV hr hn hl
      go_wp2_with (first | (refine wpList_load_mid rfl 79 _ rfl n 0 rfl (numL (zeros 4)) _ HN.out.range Try.underlying79 rfl HI.out ?_) | (refine wpList_store_mid rfl 79 _ _ rfl r 0 (numL (zeros 4)).toArray rfl rfl ?_ ?_ ?_ ?_; exact HR.out.there (zeros_length 4); exact HIS.out; exact HON.out))
      exact decref_fin (v := .slice none 0 0) (e := 3) HR.out (zeros_length 4) rfl rfl rfl ⟨upd_setCells _ _ _ HU.out (.inr hrw), .inl ⟨HS.out, by rw [HE.out]⟩⟩
    · have hd : decide ((xs.length : Int) < 512) = false := by simp; omega
      have hd2 : decide ((512 : Int) < xs.length) = true := by simp; omega
      have HE := Lib.hid (show sizedE xs.length = 2 by unfold sizedE; rw [if_neg h5, if_pos (by omega)])
      clear hs h5 hA hx hcap hn2
      go_enter Try.func48, Try.ntmps48
      go_upto_region 2 with fail
      clear hV hr hn hl
      go_wp2_with (first | (refine wpList_load_mid rfl 79 _ rfl n 0 rfl (numL (zeros 4)) _ HN.out.range Try.underlying79 rfl HI.out ?_) | (refine wpList_store_mid rfl 79 _ _ rfl r 0 (numL (zeros 4)).toArray rfl rfl ?_ ?_ ?_ ?_; exact HR.out.there (zeros_length 4); exact HIS.out; exact HON.out))
      exact decref_fin (v := .slice none 0 0) (e := 2) HR.out (zeros_length 4) rfl rfl rfl ⟨upd_setCells _ _ _ HU.out (.inr hrw), .inl ⟨HS.out, by rw [HE.out]⟩⟩
  · obtain ⟨m, hm⟩ : ∃ m, m = xs.length := ⟨_, rfl⟩
    have hm5 : m = 512 := by omega
    obtain ⟨b, o, rfl, hcs⟩ := hA (by omega)
    rw [← hm] at hcs hcap ⊢
    have hd1 : decide ((m : Int) < 512) = false := by simp; omega
    have hd2 : decide ((512 : Int) < m) = false := by simp; omega
    have HB := Lib.hid hcs
    have HX := Lib.hid hx
    have HM5 := Lib.hid hm5
    have HM := Lib.hid hm
    have HCAP := Lib.hid hcap
    have herr : ∀ (W : World) (h : dirOK xs = false), Upd noB w W → DecRefPost w xs (.returned (.tuple #[.agg (nums (zeros 4)), .slice none 0 0, .int .i64 4])) (W.setCells r 0 (numL (zeros 4))) :=
      fun W h hu => ⟨upd_setCells _ _ _ hu (.inr hrw), .inr (.inl ⟨by omega, h, rfl⟩)⟩
    have HERR := Lib.hid herr
    clear hcs hx hm hm5 hs hn2 hA hcap herr
    go_enter Try.func48, Try.ntmps48
    go_upto_region 2 with fail
    clear hV hr hn hl
    go_wp2
    go_loopw [7] (fun t wr => ∃ k : Nat, t = .int .i64 (k : Int) ∧ k ≤ 4 ∧ Hid (okL ((dirL xs).take k) = true) ∧ Hid (Arr4 wr l (setN (zeros 4) 0 xs k)) ∧ Hid (Upd (oneB l) V wr)) (fun t _ => 4 - (intOf t).toNat)
    case atStart => exact ⟨0, rfl, by omega, rfl, HL.out, Upd.refl _ _⟩
    case round =>
      obtain ⟨k, rfl, hk, hok, hat, hup⟩ := hrel
      have HRk := Lib.hid (HR.out.upd hup.out hrl)
      have HNk := Lib.hid (HN.out.upd hup.out hnl)
      have HUk := Lib.hid (HU.out.trans hup.out (fun i e => by cases e; exact .inr hlw) : Upd noB w wr)
      by_cases hlt : k < 4
      · have hd : decide ((k : Int) < 4) = true := by simp; omega
        have hv := value_at (w := wr) b o m c (4 * k) xs HX.out HM.out.symm (by have := HM5.out; omega) (by have := HM5.out; omega) (fun i hi => HUk.out.cell (HB.out i hi) (fun x => x))
        rw [show ((4 * k : Nat) : Int) = 4 * (k : Int) by omega] at hv
        have hw4 : IntKind.i64.wrap (4 * (k : Int)) = 4 * (k : Int) := by rw [IntKind.wrap_i64]; omega
        have hst : setN (zeros 4) 0 xs (k + 1) = (setN (zeros 4) 0 xs k).set k (val4 xs (4 * k)) := by rw [setN, Nat.zero_add]
        have hot := okL_take (L := dirL xs) k hlt
        have hbad := okL_bad (L := dirL xs) (k := k) hlt
        rw [dirL_getD xs k hlt] at hot hbad
        obtain ⟨x, hx⟩ : ∃ x, val4 xs (4 * k) = x := ⟨_, rfl⟩
        rw [hx] at hst hot hbad hv
        have HV := Lib.hid hv
        have HST := Lib.hid hst
        have HOT := Lib.hid hot
        have HBAD := Lib.hid (fun h => (show dirOK xs = false by rw [dirOK, hbad h]; rfl))
        have hd0 : Upd noB (wr.setCell ⟨l, k, none⟩ (.int .i64 x)) (wr.setCell ⟨l, k, none⟩ (.int .i64 x)).drew := (Upd.refl _ _).drew
        have hs0 : Upd (oneB l) wr (wr.setCell ⟨l, k, none⟩ (.int .i64 x)) := by
          refine Upd.setCell (Upd.refl _ _) ?_ _
          exact .inl rfl
        have HAT := Lib.hid ((hat.out.store k x).upd0 hd0)
        have HUP := Lib.hid ((hup.out.then hs0).then0 hd0)
        have HN3 := Lib.hid ((HNk.out.upd hs0 hnl).upd0 hd0)
        have HR3 := Lib.hid ((HRk.out.upd hs0 hrl).upd0 hd0)
        have HU3 := Lib.hid ((HUk.out.trans hs0 (fun i e => by cases e; exact .inr hlw)).then0 hd0)
        obtain ⟨y, hcu⟩ : ∃ y, wr.cell? ⟨l, k, none⟩ = some (.int .i64 y) := ⟨_, hat.out.cell k hlt⟩
        have hfu := hat.out.free k
        clear hv hst hot hbad hx hat hup hd0 hs0
        by_cases hx0 : x = 0
        · have hd5 : (x != 0) = false := by simp [hx0]
          have HOK := Lib.hid (show okL ((dirL xs).take (k + 1)) = true by rw [HOT.out, hok.out]; simp [okV, hx0])
          clear hx0
          go_wp2_with (go_at_call 69; refine HV.out.mono ?_; rintro e w' ⟨rfl, rfl⟩)
          go_roundw
          case rel => exact ⟨k + 1, by go_num, by omega, HOK.out, HST.out ▸ HAT.out, HUP.out⟩
          case measure => simp [intOf]; omega
        · have hd5 : (x != 0) = true := by simp [hx0]
          have hov : okV x = okP x := by simp [okV, hx0]
          rw [hov] at HOT HBAD
          obtain ⟨q, hdx⟩ : ∃ d, okP x = d := ⟨_, rfl⟩
          have hp : ∀ W : World, Calls Try.prog 70 #[.int .i64 x] W fun e w' => e = .returned (.bool q) ∧ W = w' := fun W => by have := page_ref (w := W) x; rwa [hdx] at this
          have HP := Lib.hid hp
          rw [hdx] at HOT HBAD
          clear hov hp hdx hx0
          cases q
          · have HB2 := Lib.hid (HBAD.out rfl)
            go_wp2_with (first | (go_at_call 69; refine HV.out.mono ?_; rintro e w' ⟨rfl, rfl⟩) | (go_at_call 70; refine (HP.out _).mono ?_; rintro e w' ⟨rfl, rfl⟩) | (refine wpList_load_mid rfl 79 _ rfl n 0 rfl (numL (zeros 4)) _ HN3.out.range Try.underlying79 rfl HI.out ?_) | (refine wpList_store_mid rfl 79 _ _ rfl r 0 (numL (zeros 4)).toArray rfl rfl ?_ ?_ ?_ ?_; exact HR3.out.there (zeros_length 4); exact HIS.out; exact HON.out))
            exact decref_fin (v := .slice none 0 0) (e := 4) HR3.out (zeros_length 4) rfl rfl rfl (HERR.out _ HB2.out HU3.out)
          · have HOK := Lib.hid (show okL ((dirL xs).take (k + 1)) = true by rw [HOT.out, hok.out]; rfl)
            go_wp2_with (first | (go_at_call 69; refine HV.out.mono ?_; rintro e w' ⟨rfl, rfl⟩) | (go_at_call 70; refine (HP.out _).mono ?_; rintro e w' ⟨rfl, rfl⟩))
            go_roundw
            case rel => exact ⟨k + 1, by go_num, by omega, HOK.out, HST.out ▸ HAT.out, HUP.out⟩
            case measure => simp [intOf]; omega
      · have hd : decide ((k : Int) < 4) = false := by simp; omega
        obtain rfl : k = 4 := by omega
        have htk : (dirL xs).take 4 = dirL xs := rfl
        have hat2 : Arr4 wr l (dirL xs) := hat.out
        rw [htk] at hok
        have HAT := Lib.hid hat2
        have hm5 := HM5.out
        have HX5 := Lib.hid (show xs.length = 512 by rw [← HM.out]; exact hm5)
        clear hat hat2 hup htk hk hlt hd
        go_wp2
        go_loop [8] (fun t => ∃ j : Nat, t = .int .i64 ((80 + j : Nat) : Int) ∧ j ≤ 432 ∧ Hid (∀ i, i < j → xs.getD (80 + i) 0 = 0)) (fun t => 512 - (intOf t).toNat)
        case atStart => exact ⟨0, rfl, by omega, fun i hi => by omega⟩
        case round =>
          obtain ⟨j, rfl, hj, hz⟩ := hrel
          by_cases hlt : j < 432
          · have hd : decide (((80 + j : Nat) : Int) < 512) = true := by simp; omega
            have hcell := HUk.out.cell (HB.out (80 + j) (by omega)) (fun x => x)
            have hlj : ((80 + j : Nat) : Int) < m := by omega
            obtain ⟨x, hx, hx5⟩ := HX.out.at (80 + j)
            rw [hx] at hcell
            have hjm : 80 + j < m := by omega
            by_cases hx0 : x = 0
            · subst hx0
              have HZ := Lib.hid (show ∀ i, i < j + 1 → xs.getD (80 + i) 0 = 0 from fun i hi => by
                by_cases h : i < j
                · exact hz.out i h
                · obtain rfl : i = j := by omega
                  exact hx)
              clear hx hx5 hz
              go_wp2
              go_round
              case rel => exact ⟨j + 1, by go_num, by omega, HZ.out⟩
              case measure => simp [intOf]; omega
            · have hd5 : ((x : Int) != 0) = true := by simp; omega
              have HB2 := Lib.hid (show dirOK xs = false by
                rw [dirOK, hok.out, Bool.true_and, decide_eq_false_iff_not, drop_zero HX5.out]
                intro h
                have := h j hlt
                omega)
              clear hx hx5 hz hx0
              go_wp2_with (first | (refine wpList_load_mid rfl 79 _ rfl n 0 rfl (numL (zeros 4)) _ HNk.out.range Try.underlying79 rfl HI.out ?_) | (refine wpList_store_mid rfl 79 _ _ rfl r 0 (numL (zeros 4)).toArray rfl rfl ?_ ?_ ?_ ?_; exact HRk.out.there (zeros_length 4); exact HIS.out; exact HON.out))
              exact decref_fin (v := .slice none 0 0) (e := 4) HRk.out (zeros_length 4) rfl rfl rfl (HERR.out _ HB2.out HUk.out)
          · have hd : decide (((80 + j : Nat) : Int) < 512) = false := by simp; omega
            obtain rfl : j = 432 := by omega
            have HOKD := Lib.hid (show dirOK xs = true by rw [dirOK, hok.out, Bool.true_and, decide_eq_true_eq, drop_zero HX5.out]; exact hz.out)
            have hyl := dirY_length (xs := xs) HX5.out
            have hof := Ref06.of_ref (w := wr) 512 (by omega) (some ⟨b, o + 16, none⟩) (c - 16) (dirY xs) (by rw [hyl]; omega) (dirY_bytes HX.out) (fun _ => ⟨b, o + 16, rfl, fun i hi => by
              rw [hyl] at hi
              have := HUk.out.cell (HB.out (16 + i) (by omega)) (fun x => x)
              rw [← Nat.add_assoc] at this
              rw [this]
              congr 2
              rw [dirY, List.getD_eq_getElem?_getD, List.getD_eq_getElem?_getD, List.getElem?_take, if_pos hi, List.getElem?_drop]⟩)
            have hof2 : Calls Try.prog 24 #[.int .i64 512, .slice (some ⟨b, o + 16, none⟩) 64 (c - 16)] wr fun e w' => Upd noB wr w' ∧ ∃ v, e = .returned (.tuple #[v, .int .i64 0]) ∧ Ref06.BRow w' v (truths 512 (dirY xs)) := by
              rw [hyl] at hof
              refine hof.mono ?_
              rintro e w' ⟨hu, h | h | h | h⟩
              · have := h.1; rw [hyl] at this; exact absurd this (by decide)
              · have := h.1; rw [hyl] at this; exact absurd this (by decide)
              · have := h.2.1; rw [no_stray hyl] at this; cases this
              · obtain ⟨_, _, v, he, hs⟩ := h
                exact ⟨hu, v, he, hs⟩
            have HOF := Lib.hid hof2
            have hcap := HCAP.out
            have hb1 : (16 : Int) ≤ m := by omega
            have hb2 : (80 : Int) ≤ c := by omega
            have hb5 : ¬ (c - 16 = 0) := by omega
            have hb6 : ¬ (c = 16) := by omega
            have hb7 : ¬ (c ≤ 16) := by omega
            have HI4 := Lib.hid (show (Try.prog.info? 79).map (·.size) = some (numL (dirL xs)).length by rw [numL_length]; exact info79')
            have HIS4 := Lib.hid (show (Try.prog.info? 79).map (·.size) = some (numL (dirL xs)).toArray.size by rw [List.size_toArray, numL_length]; exact info79')
            have HON4 := Lib.hid (all_oneCell_toArray (numL_one (dirL xs)))
            clear hof hof2 hyl hm5 hz hcap
            go_wp2_with fail
            refine HOF.out.mono ?_
            rintro e w17 ⟨hu17, v17, rfl, hr17⟩
            have HR17 := Lib.hid (HRk.out.upd0 hu17)
            have HL17 := Lib.hid (HAT.out.upd0 hu17)
            have HU17 := Lib.hid (HUk.out.then0 hu17)
            have HB17 := Lib.hid (And.intro hr17 HR17.out.plt)
            clear hu17 hr17 HOF
            go_wp2_with (first | (refine wpList_load_mid rfl 79 _ rfl l 0 rfl (numL (dirL xs)) _ HL17.out.range Try.underlying79 rfl HI4.out ?_) | (refine wpList_store_mid rfl 79 _ _ rfl r 0 (numL (dirL xs)).toArray rfl rfl ?_ ?_ ?_ ?_; exact HR17.out.there rfl; exact HIS4.out; exact HON4.out))
            refine decref_fin (v := v17) (e := 0) HR17.out rfl rfl rfl rfl ⟨upd_setCells _ _ _ HU17.out (.inr hrw), .inr (.inr ⟨HX5.out, HOKD.out, v17, rfl, ?_⟩)⟩
            have hs : Upd (oneB r) w17 (w17.setCells r 0 (numL (dirL xs))) := upd_setCells _ _ _ (Upd.refl _ _) (.inl rfl)
            exact HB17.out.1.upd hs (fun k hk hk2 => HB17.out.1.ne HR17.out.hp (by decide) hk hk2)
end
end Go.Proofs.Ytejpcgoblgaieaa.Law07
