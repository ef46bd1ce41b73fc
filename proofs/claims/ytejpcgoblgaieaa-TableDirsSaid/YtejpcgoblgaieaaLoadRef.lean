/-
  What Load of the document's layer 7 makes of a row of 512 numbers: walked once.
-/
import Derived.Test.YtejpcgoblgaieaaLoadPlain
import Derived.Test.YtejpcgoblgaieaaMade07
import Derived.Shelf.Bytes.SlSmallAll
set_option linter.unusedVariables false
set_option linter.unusedSimpArgs false
namespace Go.Proofs.Ytejpcgoblgaieaa.Law07
open Go.RowKit Go.Proofs.Ytejpcgoblgaieaa
section
variable {w : World} {X : List Int}
theorem load_fin {W : World} {c : Nat} {Y Z : List Int} {tmps : Array Value} {i e : Int} {xs : List Int} (hc : ArrAt W c Z) (hY : Y.length = 512) (hU : Upd noB w W) (hcw : w.heap.size ≤ c)
    (h6 : tmps.getD 6 undef = .pointer (some ⟨c, 0, none⟩)) (h7 : tmps.getD 7 undef = .int .i64 e) (hX : loadX X i xs = Y) (hE : loadE i xs = e) :
    bodyPost Try.prog Try.f39 (fun e w' => e = .returned (.tuple #[.agg (nums (loadX X i xs)), .int .i64 (loadE i xs)]) ∧ Upd noB w w') .ret { tmps := tmps, defers := [] } (W.setCells c 0 (numL Y)) := by
  subst hX hE
  have hr := (hc.stored hY).range
  have hld := run_loadVar_mid (P := Try.prog) _ c 0 57 _ _ hr Try.underlying57 rfl (by rw [numL_length, hY]; exact info57)
  have hn : (numL (loadX X i xs)).toArray = nums (loadX X i xs) := rfl
  rw [hn] at hld
  refine bodyPost_ret (v := .tuple #[.agg (nums (loadX X i xs)), .int .i64 (loadE i xs)]) ?_ rfl ⟨rfl, upd_setCells _ 0 _ hU (.inr hcw)⟩
  rw [results_cell_tmp rfl, h6, h7]
  simp [asAddr, Result.andThen, hld]
theorem there_new (V : World) (X : List Int) (hl : X.length = 512) : (V.alloc (.cells Try.zeroCells57 57)).there V.heap.size 0 (numL X).toArray.size := by
  have h2 : (numL X).toArray.size = 512 := by rw [List.size_toArray, numL_length, hl]
  rw [h2]; exact (arr_new V).there
theorem arr_there {V : World} {c : Nat} {Z L : List Int} (h : ArrAt V c Z) (hl : L.length = 512) : V.there c 0 (numL L).toArray.size := by
  have h2 : (numL L).toArray.size = 512 := by rw [List.size_toArray, numL_length, hl]
  rw [h2]; exact h.there
/-- The first two boxes. -/
theorem load_start (w : World) (hl : X.length = 512) : ∃ (W : World) (a c : Nat), (w.alloc (.cells (nums X) 57)).alloc (.cells Try.zeroCells57 57) = W ∧ w.heap.size = a ∧ a + 1 = c ∧
    ArrAt W a X ∧ ArrAt W c (List.replicate 512 0) ∧ Upd noB w W := by
  refine ⟨_, _, _, rfl, rfl, rfl, ⟨heap_old _ _ (heap_alloc_new _ _), hl⟩, ⟨?_, List.length_replicate⟩, ((Upd.refl _ _).alloc _).alloc _⟩
  rw [← zero57]
  exact heap_new2 _ _ _
set_option maxRecDepth 100000 in
set_option maxHeartbeats 8000000 in
theorem load_ref (hl : X.length = 512) (i : Int) (A : Option Addr) (cp : Nat) (xs : List Int) (hx : Bytes xs) (hn2 : xs.length ≤ 1000000) (hA : Lib.BytesIn w A xs.length xs) :
    Calls Try.prog 39 #[.agg (nums X), .int .i64 i, .slice A xs.length cp] w fun e w' => e = .returned (.tuple #[.agg (nums (loadX X i xs)), .int .i64 (loadE i xs)]) ∧ Upd noB w w' := by
  have HBI := Lib.hid hA
  obtain ⟨W, a, c, hW, ha, hc, h1, h2, hu⟩ := load_start (X := X) w hl
  have HIL := Lib.hid (show (Try.prog.info? 57).map (·.size) = some (numL X).length by rw [numL_length, hl]; exact info57)
  have HIS := Lib.hid (show (Try.prog.info? 57).map (·.size) = some (numL X).toArray.size by rw [List.size_toArray, numL_length, hl]; exact info57)
  have HON := Lib.hid (all_oneCell_toArray (numL_one X))
  have HTH := Lib.hid (show W.there c 0 (numL X).toArray.size by rw [List.size_toArray, numL_length, hl]; exact h2.there)
  have H1 := Lib.hid h1
  have H2 := Lib.hid h2
  have HU := Lib.hid hu
  have HL := Lib.hid hl
  have hcw : w.heap.size ≤ c := by omega
  clear hA h1 h2 hu hl
  have hout : ∀ e : Int, loadE i xs = e → e ≠ 0 → loadX X i xs = X := fun e h1 h2 => by unfold loadX; rw [if_neg (by omega)]
  have HOUT := Lib.hid hout
  clear hout
  by_cases hi : i < 0 ∨ 3 < i
  · have HE := Lib.hid (show loadE i xs = 7 by unfold loadE; rw [if_pos hi])
    rcases hi with hi | hi
    · have hd : decide (i < 0) = true := by simpa using hi
      clear hi
      go_enter Try.func39, Try.ntmps39
      go_upto_region 1 with fail
      clear ha hc hW
      go_wp2_with (first | (refine wpList_load_mid rfl 57 _ rfl a 0 rfl (numL X) _ H1.out.range Try.underlying57 rfl HIL.out ?_) | (refine wpList_store_mid rfl 57 _ _ rfl c 0 _ rfl rfl ?_ ?_ ?_ ?_; exact HTH.out; exact HIS.out; exact HON.out))
      exact load_fin H2.out HL.out HU.out hcw rfl rfl (HOUT.out _ HE.out (by decide)) HE.out
    · have hd : decide (i < 0) = false := by simp; omega
      have hd2 : decide (3 < i) = true := by simpa using hi
      clear hi
      go_enter Try.func39, Try.ntmps39
      go_upto_region 1 with fail
      clear ha hc hW
      go_wp2_with (first | (refine wpList_load_mid rfl 57 _ rfl a 0 rfl (numL X) _ H1.out.range Try.underlying57 rfl HIL.out ?_) | (refine wpList_store_mid rfl 57 _ _ rfl c 0 _ rfl rfl ?_ ?_ ?_ ?_; exact HTH.out; exact HIS.out; exact HON.out))
      exact load_fin H2.out HL.out HU.out hcw rfl rfl (HOUT.out _ HE.out (by decide)) HE.out
  · obtain ⟨n, rfl⟩ := Int.eq_ofNat_of_zero_le (show 0 ≤ i by omega)
    have hn : n < 4 := by omega
    have hd1 : decide ((n : Int) < 0) = false := by simp
    have hd2 : decide ((3 : Int) < n) = false := by simp; omega
    have hni := hi
    clear hi
    by_cases hs : xs.length < 512
    · have HE := Lib.hid (show loadE n xs = 3 by unfold loadE; rw [if_neg (by omega), if_pos hs])
      have hd3 : decide ((xs.length : Int) < 512) = true := by simp; omega
      clear hs hni hd2
      have hd2 : decide ((3 : Int) < n) = false := by simp; omega
      go_enter Try.func39, Try.ntmps39
      go_upto_region 1 with fail
      clear ha hc hW
      go_wp2_with (first | (refine wpList_load_mid rfl 57 _ rfl a 0 rfl (numL X) _ H1.out.range Try.underlying57 rfl HIL.out ?_) | (refine wpList_store_mid rfl 57 _ _ rfl c 0 _ rfl rfl ?_ ?_ ?_ ?_; exact HTH.out; exact HIS.out; exact HON.out))
      exact load_fin H2.out HL.out HU.out hcw rfl rfl (HOUT.out _ HE.out (by decide)) HE.out
    by_cases hs2 : 512 < xs.length
    · have HE := Lib.hid (show loadE n xs = 2 by unfold loadE; rw [if_neg (by omega), if_neg hs, if_pos hs2])
      have hd3 : decide ((xs.length : Int) < 512) = false := by simp; omega
      have hd4 : decide ((512 : Int) < xs.length) = true := by simp; omega
      clear hs hs2 hni
      go_enter Try.func39, Try.ntmps39
      go_upto_region 1 with fail
      clear ha hc hW
      go_wp2_with (first | (refine wpList_load_mid rfl 57 _ rfl a 0 rfl (numL X) _ H1.out.range Try.underlying57 rfl HIL.out ?_) | (refine wpList_store_mid rfl 57 _ _ rfl c 0 _ rfl rfl ?_ ?_ ?_ ?_; exact HTH.out; exact HIS.out; exact HON.out))
      exact load_fin H2.out HL.out HU.out hcw rfl rfl (HOUT.out _ HE.out (by decide)) HE.out
    obtain ⟨m, hm⟩ : ∃ m, m = xs.length := ⟨_, rfl⟩
    have hm5 : m = 512 := by omega
    have HE0 := Lib.hid (show loadE n xs = if okN xs 128 = true then 0 else 4 by unfold loadE; rw [if_neg hni, if_neg hs, if_neg hs2])
    obtain ⟨b, o, rfl, hcs⟩ := HBI.out (by omega)
    rw [← hm] at hcs ⊢
    have hd3 : decide ((m : Int) < 512) = false := by simp; omega
    have hd4 : decide ((512 : Int) < m) = false := by simp; omega
    have HB := Lib.hid hcs
    have HX := Lib.hid hx
    have HM := Lib.hid hm
    have HM5 := Lib.hid hm5
    have HTN := Lib.hid (fun (V : World) => there_new V X HL.out)
    clear hcs hx hm hm5 hs hs2 hni hn2 HBI
    go_enter Try.func39, Try.ntmps39
    go_upto_region 1 with fail
    clear ha hc hW
    go_upto_region 8 with (first | (refine wpList_load_mid rfl 57 _ rfl a 0 rfl (numL X) _ H1.out.range Try.underlying57 rfl HIL.out ?_) | (refine wpList_store_mid rfl 57 _ _ rfl _ 0 _ rfl rfl ?_ ?_ ?_ ?_; exact HTN.out _; exact HIS.out; exact HON.out))
    simp only [Act.put]
    obtain ⟨u, hu⟩ : ∃ u, u = W.heap.size := ⟨_, rfl⟩
    obtain ⟨V, hV⟩ : ∃ V, V = (W.alloc (.cells Try.zeroCells57 57)).setCells u 0 (numL X) := ⟨_, rfl⟩
    have hau : ArrAt V u X := by rw [hV, hu]; exact (arr_new W).stored HL.out
    have huv : Upd noB W V := by rw [hV]; exact upd_setCells _ 0 _ ((Upd.refl _ _).alloc _) (.inr (by omega))
    rw [← hu, ← hV]
    have HA := Lib.hid (H1.out.upd0 huv)
    have HC := Lib.hid (H2.out.upd0 huv)
    have HUV := Lib.hid (HU.out.then0 huv)
    have HAU := Lib.hid hau
    have hne : a ≠ u ∧ c ≠ u ∧ w.heap.size ≤ u := by have := H1.out.plt; have := H2.out.plt; have := HU.out.size; exact ⟨by omega, by omega, by omega⟩
    have HNE := Lib.hid hne
    clear hV hu hau huv hne HTH HTN H1 H2 HU HIS
    go_wp2
    go_loopw [9] (fun t wr => ∃ k : Nat, t = .int .i64 (k : Int) ∧ k ≤ 128 ∧ Hid (okN xs k = true) ∧ Hid (ArrAt wr u (setN X (n * 128) xs k)) ∧ Hid (Upd (oneB u) V wr)) (fun t _ => 128 - (intOf t).toNat)
    case atStart => exact ⟨0, rfl, by omega, rfl, HAU.out, Upd.refl _ _⟩
    case round =>
      obtain ⟨k, rfl, hk, hok, hat, hup⟩ := hrel
      have HA2 := Lib.hid (HA.out.upd hup.out HNE.out.1)
      have HC2 := Lib.hid (HC.out.upd hup.out HNE.out.2.1)
      have HU2 := Lib.hid (HUV.out.trans hup.out (fun i e => by cases e; exact .inr HNE.out.2.2))
      by_cases hlt : k < 128
      · have hd : decide ((k : Int) < 128) = true := by simp; omega
        have hv := value_at (w := wr) b o m cp (4 * k) xs HX.out HM.out.symm (by have := HM5.out; omega) (by have := HM5.out; omega) (fun i hi => HU2.out.cell (HB.out i hi) (fun x => x))
        rw [show ((4 * k : Nat) : Int) = 4 * (k : Int) by omega] at hv
        have hw4 : IntKind.i64.wrap (4 * (k : Int)) = 4 * (k : Int) := by rw [IntKind.wrap_i64]; omega
        have hws := okN_succ xs k
        have hst : setN X (n * 128) xs (k + 1) = (setN X (n * 128) xs k).set (n * 128 + k) (val4 xs (4 * k)) := rfl
        have hstop := okN_stop (xs := xs) (k := k) (n := 128) hlt
        obtain ⟨x, hx⟩ : ∃ x, val4 xs (4 * k) = x := ⟨_, rfl⟩
        rw [hx] at hv hws hst hstop
        have HV := Lib.hid hv
        have HWS := Lib.hid hws
        have HST := Lib.hid hst
        have HSTOP := Lib.hid hstop
        have hw5 : IntKind.i64.wrap (128 * (n : Int)) = 128 * (n : Int) := by rw [IntKind.wrap_i64]; omega
        have hw6 : IntKind.i64.wrap (128 * (n : Int) + k) = 128 * (n : Int) + k := by rw [IntKind.wrap_i64]; omega
        have hb1 : (0 : Int) ≤ 128 * (n : Int) + k := by omega
        have hb2 : 128 * (n : Int) + k < 512 := by omega
        have hb3 : (128 * (n : Int) + k).toNat = n * 128 + k := by omega
        clear hv hws hst hx hstop
        have hd0 : Upd noB wr wr.drew := (Upd.refl _ _).drew
        have HAT := Lib.hid (hat.out.upd0 hd0)
        have HA3 := Lib.hid (HA2.out.upd0 hd0)
        have HC3 := Lib.hid (HC2.out.upd0 hd0)
        have HU3 := Lib.hid (HU2.out.then0 hd0)
        have HUP := Lib.hid (hup.out.then0 hd0)
        obtain ⟨y, hcu⟩ : ∃ y, wr.drew.cell? ⟨u, n * 128 + k, none⟩ = some (.int .i64 y) := ⟨_, HAT.out.cell (n * 128 + k) (by omega)⟩
        have hfu := HAT.out.free (n * 128 + k)
        clear hat hup hd0
        by_cases hx0 : x = 0
        · have hd5 : (x != 0) = false := by simp [hx0]
          have HOK := Lib.hid (HWS.out.trans (by rw [hok.out]; simp [okV, hx0]) : okN xs (k + 1) = true)
          clear hx0
          go_wp2_with (go_at_call 69; refine HV.out.mono ?_; rintro e w' ⟨rfl, rfl⟩)
          go_roundw
          case rel => exact ⟨k + 1, by go_num, by omega, HOK.out, HST.out ▸ HAT.out.store _ _, Upd.setCell (p := ⟨u, n * 128 + k, none⟩) HUP.out (.inl rfl) _⟩
          case measure => simp [intOf]; omega
        · have hd5 : (x != 0) = true := by simp [hx0]
          have hov : okV x = okP x := by simp [okV, hx0]
          rw [hov] at HSTOP HWS
          obtain ⟨d, hdx⟩ : ∃ d, okP x = d := ⟨_, rfl⟩
          have hp : ∀ W : World, Calls Try.prog 70 #[.int .i64 x] W fun e w' => e = .returned (.bool d) ∧ W = w' := fun W => by have := page_ref (w := W) x; rwa [hdx] at this
          have HP := Lib.hid (hp wr.drew)
          rw [hdx] at HSTOP HWS
          clear hx0 hov hp hdx
          cases d
          · have HE := Lib.hid (show loadE n xs = 4 by rw [HE0.out, HSTOP.out rfl]; rfl)
            have HTH := Lib.hid (arr_there HC3.out HL.out)
            have HIS := Lib.hid (show (Try.prog.info? 57).map (·.size) = some (numL X).toArray.size by rw [List.size_toArray, numL_length, HL.out]; exact info57)
            go_wp2_with (first | (go_at_call 69; refine HV.out.mono ?_; rintro e w' ⟨rfl, rfl⟩) | (go_at_call 70; refine HP.out.mono ?_; rintro e w' ⟨rfl, rfl⟩) | (refine wpList_load_mid rfl 57 _ rfl a 0 rfl (numL X) _ HA3.out.range Try.underlying57 rfl HIL.out ?_) | (refine wpList_store_mid rfl 57 _ _ rfl c 0 _ rfl rfl ?_ ?_ ?_ ?_; exact HTH.out; exact HIS.out; exact HON.out))
            exact load_fin HC3.out HL.out HU3.out hcw rfl rfl (HOUT.out _ HE.out (by decide)) HE.out
          · have HOK := Lib.hid (HWS.out.trans (by rw [hok.out]; rfl) : okN xs (k + 1) = true)
            go_wp2_with (first | (go_at_call 69; refine HV.out.mono ?_; rintro e w' ⟨rfl, rfl⟩) | (go_at_call 70; refine HP.out.mono ?_; rintro e w' ⟨rfl, rfl⟩))
            go_roundw
            case rel => exact ⟨k + 1, by go_num, by omega, HOK.out, HST.out ▸ HAT.out.store _ _, Upd.setCell (p := ⟨u, n * 128 + k, none⟩) HUP.out (.inl rfl) _⟩
            case measure => simp [intOf]; omega
      · have hd : decide ((k : Int) < 128) = false := by simp; omega
        obtain rfl : k = 128 := by omega
        have HE := Lib.hid (show loadE n xs = 0 by rw [HE0.out, if_pos hok.out])
        have HLX := Lib.hid (show loadX X n xs = setN X (n * 128) xs 128 by unfold loadX; rw [if_pos HE.out]; rfl)
        have hl2 : (setN X (n * 128) xs 128).length = 512 := (setN_length _ _ _ _).trans HL.out
        obtain ⟨Y, hY⟩ : ∃ Y, setN X (n * 128) xs 128 = Y := ⟨_, rfl⟩
        rw [hY] at hl2 HLX hat
        have HIL2 := Lib.hid (show (Try.prog.info? 57).map (·.size) = some (numL Y).length by rw [numL_length, hl2]; exact info57)
        have HIS2 := Lib.hid (show (Try.prog.info? 57).map (·.size) = some (numL Y).toArray.size by rw [List.size_toArray, numL_length, hl2]; exact info57)
        have HTH2 := Lib.hid (arr_there HC2.out hl2)
        have HON2 := Lib.hid (all_oneCell_toArray (numL_one Y))
        have HL2 := Lib.hid hl2
        clear hY hl2
        go_wp2_with (first | (refine wpList_load_mid rfl 57 _ rfl u 0 rfl (numL Y) _ hat.out.range Try.underlying57 rfl HIL2.out ?_) | (refine wpList_store_mid rfl 57 _ _ rfl c 0 _ rfl rfl ?_ ?_ ?_ ?_; exact HTH2.out; exact HIS2.out; exact HON2.out))
        exact load_fin HC2.out HL2.out HU2.out hcw rfl rfl HLX.out HE.out
end
end Go.Proofs.Ytejpcgoblgaieaa.Law07
