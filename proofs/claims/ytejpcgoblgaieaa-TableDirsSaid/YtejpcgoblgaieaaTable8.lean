/-
  Package table: Load: walked once.
-/
import Derived.Test.YtejpcgoblgaieaaLoadPlain
import Derived.Shelf.Bytes.SlSmallAll
set_option linter.unusedVariables false
set_option linter.unusedSimpArgs false
namespace Go.Proofs.Ytejpcgoblgaieaa
open Go.RowKit
/-- A leaf in a block of its own. -/
structure LeafAt (w : World) (u : Nat) (L : List Int) : Prop where
  hp : w.heap[u]? = some (.cells (nums L) 115 (0, 0))
  len : L.length = 128
section
variable {w : World} {u : Nat} {L : List Int}
theorem LeafAt.cell (h : LeafAt w u L) (i : Nat) (hi : i < 128) : w.cell? ⟨u, i, none⟩ = some (.int .i64 (L.getD i 0)) :=
  (cell_at h.hp i).trans (nums_get L i (by rw [h.len]; exact hi))
theorem LeafAt.free (h : LeafAt w u L) (i : Nat) : w.frozen? ⟨u, i, none⟩ = false := frozen_at h.hp i
theorem LeafAt.plt (h : LeafAt w u L) : u < w.heap.size := lt_of_block h.hp
theorem LeafAt.upd {S : Nat → Prop} {w' : World} (h : LeafAt w u L) (hu : Upd S w w') (hn : ¬ S u) : LeafAt w' u L := ⟨hu.at h.hp hn, h.len⟩
theorem LeafAt.upd0 {w' : World} (h : LeafAt w u L) (hu : Upd noB w w') : LeafAt w' u L := h.upd hu (fun x => x)
theorem LeafAt.store (h : LeafAt w u L) (i : Nat) (x : Int) : LeafAt (w.setCell ⟨u, i, none⟩ (.int .i64 x)) u (L.set i x) :=
  ⟨by rw [setCell_at h.hp, nums_set], by rw [List.length_set]; exact h.len⟩
theorem LeafAt.range (h : LeafAt w u L) : w.rangeAt u 0 (numL L) := by
  intro j v hv
  rw [Nat.zero_add, cell_at h.hp j]
  simpa [nums, numL] using hv
theorem leaf_new (W : World) : LeafAt (W.alloc (.cells Try.zeroCells115 115)) W.heap.size (List.replicate 128 0) :=
  ⟨by rw [← zero115]; exact heap_alloc_new _ _, List.length_replicate⟩
theorem TabAt.there {p : Nat} {X : List Int} (h : TabAt w p X) (i : Nat) (hi : i < 4) : w.there p (i * 128) 128 := by
  intro j hj
  exact ⟨by rw [h.cell (i * 128 + j) (by omega)]; rfl, h.free _⟩
theorem upd_cells {S : Nat → Prop} {w : World} {c : Nat} : ∀ (vs : List Value) (o : Nat) (w' : World), Upd S w w' → (S c ∨ w.heap.size ≤ c) → Upd S w (w'.setCells c o vs)
  | [], o, w', h, _ => h
  | v :: vs, o, w', h, hc => by
    rw [World.setCells]
    exact upd_cells vs (o + 1) _ (h.setCell hc v) hc
end
section
variable {w : World} {p : Nat} {X : List Int}
/-- Four bytes of a row of bytes. -/
theorem take_xs (b o n c k m : Nat) (xs : List Int) (hx : Bytes xs) (h4 : 4 ≤ n) (hk : k + 4 ≤ m) (hc : ∀ i, i < m → w.cell? ⟨b, o + i, none⟩ = some (.int .u8 (xs.getD i 0))) :
    Calls Try.prog 72 #[.slice (some ⟨b, o + k, none⟩) n c] w fun e w' => e = .returned (.int .i64 (val4 xs k)) ∧ w.drew = w' := by
  obtain ⟨x0, e0, l0⟩ := hx.at k
  obtain ⟨x1, e1, l1⟩ := hx.at (k + 1)
  obtain ⟨x2, e2, l2⟩ := hx.at (k + 2)
  obtain ⟨x3, e3, l3⟩ := hx.at (k + 3)
  have c0 := hc k (by omega)
  have c1 := hc (k + 1) (by omega)
  have c2 := hc (k + 2) (by omega)
  have c3 := hc (k + 3) (by omega)
  rw [e0] at c0
  rw [e1, ← Nat.add_assoc] at c1
  rw [e2, ← Nat.add_assoc] at c2
  rw [e3, ← Nat.add_assoc] at c3
  rw [val4, e0, e1, e2, e3]
  exact ttake_at b (o + k) n c x0 x1 x2 x3 h4 c0 c1 c2 c3 l0 l1 l2 l3
theorem tload_bad (h : TabAt w p X) (i : Int) (hi : i < 0 ∨ 3 < i) (v : Value) (xs : List Int) :
    Calls Try.prog 40 #[.pointer (some ⟨p, 0, none⟩), .int .i64 i, v] w fun e w' => e = .returned (.int .i64 (loadE i xs)) ∧ TabAt w' p (loadX X i xs) ∧ Upd (oneB p) w w' := by
  have H := Lib.hid h
  have HE := Lib.hid (show loadE i xs = 7 by unfold loadE; rw [if_pos hi])
  have HX := Lib.hid (show loadX X i xs = X by unfold loadX; rw [if_neg (by rw [HE.out]; decide)])
  have hd : (decide (0 ≤ i) && decide (i < 4)) = false := by
    rcases hi with h | h
    · simp; omega
    · simp; omega
  have hp : ∀ W : World, Calls Try.prog 66 #[.int .i64 i] W fun e w' => e = .returned (.bool false) ∧ W = w' := fun W => by have := tpart_at (w := W) i; rwa [hd] at this
  have HP := Lib.hid (hp w)
  clear h hd hp hi
  go_enter Try.func40, Try.ntmps40
  go_wp2_with (go_at_call 66; refine HP.out.mono ?_; rintro e w' ⟨rfl, rfl⟩)
  go_ret
  rw [HE.out, HX.out]
  exact ⟨rfl, H.out, Upd.refl _ _⟩
set_option maxRecDepth 100000 in
set_option maxHeartbeats 8000000 in
theorem tload_at (h : TabAt w p X) (i : Nat) (hi : i < 4) (A : Option Addr) (c : Nat) (xs : List Int) (hx : Bytes xs) (hn2 : xs.length ≤ 1000000) (hcap : xs.length ≤ c) (hA : Lib.BytesIn w A xs.length xs) :
    Calls Try.prog 40 #[.pointer (some ⟨p, 0, none⟩), .int .i64 (i : Int), .slice A xs.length c] w fun e w' => e = .returned (.int .i64 (loadE i xs)) ∧ TabAt w' p (loadX X i xs) ∧ Upd (oneB p) w w' := by
  have hp : ∀ W : World, Calls Try.prog 66 #[.int .i64 (i : Int)] W fun e w' => e = .returned (.bool true) ∧ W = w' := fun W => by
    have := tpart_at (w := W) i
    rwa [show (decide ((0 : Int) ≤ i) && decide ((i : Int) < 4)) = true by simp; omega] at this
  have HP := Lib.hid (hp w)
  have HE0 : loadE i xs = if xs.length < 512 then 3 else if 512 < xs.length then 2 else if okN xs 128 = true then 0 else 4 := by
    unfold loadE; rw [if_neg (by omega)]
  have H := Lib.hid h
  have HOUT := Lib.hid (fun (e : Int) (h1 : loadE i xs = e) (h2 : e ≠ 0) => (show loadX X i xs = X by unfold loadX; rw [if_neg (by omega)]))
  have HSZ := Lib.hid (tsized_at (w := w) A xs.length c)
  clear hp h
  by_cases hs : xs.length ≠ 512
  · have HE := Lib.hid (show loadE i xs = sizedE xs.length by
      rw [HE0, sizedE]
      by_cases h1 : xs.length < 512
      · rw [if_pos h1, if_pos h1]
      · rw [if_neg h1, if_neg h1, if_pos (by omega), if_pos (by omega)])
    have hne : sizedE xs.length ≠ 0 := by
      unfold sizedE
      by_cases h1 : xs.length < 512
      · rw [if_pos h1]; decide
      · rw [if_neg h1, if_pos (by omega)]; decide
    obtain ⟨e, he⟩ : ∃ e, sizedE xs.length = e := ⟨_, rfl⟩
    rw [he] at HE HSZ hne
    have hd : (e != 0) = true := by simpa using hne
    have HN := Lib.hid hne
    clear hs he HE0 hne hA hx
    go_enter Try.func40, Try.ntmps40
    go_wp2_with (first | (go_at_call 66; refine HP.out.mono ?_; rintro e w' ⟨rfl, rfl⟩) | (go_at_call 71; refine HSZ.out.mono ?_; rintro e w' ⟨rfl, rfl⟩))
    go_ret
    rw [HOUT.out _ HE.out HN.out]
    exact ⟨ret_int HE.out.symm, H.out, Upd.refl _ _⟩
  · obtain ⟨m, hm⟩ : ∃ m, m = xs.length := ⟨_, rfl⟩
    have hm5 : m = 512 := by omega
    obtain ⟨b, o, rfl, hcs⟩ := hA (by omega)
    rw [if_neg (by omega), if_neg (by omega)] at HE0
    rw [show sizedE xs.length = 0 by unfold sizedE; rw [if_neg (by omega), if_neg (by omega)]] at HSZ
    rw [← hm] at hcs HSZ hcap ⊢
    have HE1 := Lib.hid HE0
    clear HE0
    have HE0 := HE1
    clear HE1
    have HB := Lib.hid hcs
    have HX := Lib.hid hx
    have HM5 := Lib.hid hm5
    have HM := Lib.hid hm
    have HCAP := Lib.hid hcap
    clear hcs hx hm hm5 hs hn2 hA hcap
    go_enter Try.func40, Try.ntmps40
    go_upto_region 9 with (first | (go_at_call 66; refine HP.out.mono ?_; rintro e w' ⟨rfl, rfl⟩) | (go_at_call 71; refine HSZ.out.mono ?_; rintro e w' ⟨rfl, rfl⟩))
    clear HP HSZ
    obtain ⟨u, hu⟩ : ∃ u, u = w.heap.size := ⟨_, rfl⟩
    obtain ⟨V, hV⟩ : ∃ V, V = w.alloc (.cells Try.zeroCells115 115) := ⟨_, rfl⟩
    have hau : LeafAt V u (List.replicate 128 0) := by rw [hV, hu]; exact leaf_new w
    have huv : Upd noB w V := by rw [hV]; exact (Upd.refl _ _).alloc _
    rw [← hu, ← hV]
    have hpu : p < u := by rw [hu]; exact H.out.plt
    have HT := Lib.hid (H.out.upd0 huv)
    have HUV := Lib.hid huv
    have HAU := Lib.hid hau
    have HW := Lib.hid (show w.heap.size ≤ u by omega)
    clear hV hu hau huv
    go_wp2
    go_loopw [22] (fun t wr => ∃ k : Nat, t = .int .i64 (k : Int) ∧ k ≤ 128 ∧ Hid (okN xs k = true) ∧ Hid (LeafAt wr u (setN (List.replicate 128 0) 0 xs k)) ∧ Hid (Upd (oneB u) V wr)) (fun t _ => 128 - (intOf t).toNat)
    case atStart => exact ⟨0, rfl, by omega, rfl, HAU.out, Upd.refl _ _⟩
    case round =>
      obtain ⟨k, rfl, hk, hok, hat, hup⟩ := hrel
      have HT2 := Lib.hid (HT.out.upd hup.out (by show ¬ _ = _; omega))
      have HU2 := Lib.hid (HUV.out.trans hup.out (fun i e => by cases e; exact .inr HW.out) : Upd noB w wr)
      by_cases hlt : k < 128
      · have hd : decide ((k : Int) < 128) = true := by simp; omega
        have hm5 := HM5.out
        have hcap := HCAP.out
        have hv := fun (n' c' : Nat) (h4 : 4 ≤ n') => take_xs (w := wr) b o n' c' (4 * k) m xs HX.out h4 (by omega) (fun i hi => HU2.out.cell (HB.out i hi) (fun x => x))
        have hw4 : IntKind.i64.wrap (4 * (k : Int)) = 4 * (k : Int) := by rw [IntKind.wrap_i64]; omega
        have hws := okN_succ xs k
        have hst : setN (List.replicate 128 0) 0 xs (k + 1) = (setN (List.replicate 128 0) 0 xs k).set k (val4 xs (4 * k)) := by rw [setN, Nat.zero_add]
        have hstop := okN_stop (xs := xs) (k := k) (n := 128) hlt
        obtain ⟨x, hx⟩ : ∃ x, val4 xs (4 * k) = x := ⟨_, rfl⟩
        rw [hx] at hws hst hstop
        simp only [hx] at hv
        have HV := Lib.hid hv
        have HWS := Lib.hid hws
        have HST := Lib.hid hst
        have HSTOP := Lib.hid hstop
        have hb1 : (0 : Int) ≤ 4 * (k : Int) := by omega
        have hb2 : 4 * (k : Int) ≤ (m : Int) := by omega
        have hb4 : (m : Int) ≤ (c : Int) := by omega
        have hb3 : (4 * (k : Int)).toNat = 4 * k := by omega
        have hb5 : ¬ (c - 4 * k = 0) := by omega
        have hb6 : ¬ (c = 4 * k) := by omega
        have hb7 : ¬ (c ≤ 4 * k) := by omega
        clear hv hws hst hx hstop hm5 hcap
        have hd0 : Upd noB (wr.setCell ⟨u, k, none⟩ (.int .i64 x)) (wr.setCell ⟨u, k, none⟩ (.int .i64 x)).drew := (Upd.refl _ _).drew
        have hs0 : Upd (oneB u) wr (wr.setCell ⟨u, k, none⟩ (.int .i64 x)) := by
          refine Upd.setCell (Upd.refl _ _) ?_ _
          exact .inl rfl
        have HAT := Lib.hid ((hat.out.store k x).upd0 hd0)
        have hp0 := H.out.plt
        have HT3 := Lib.hid ((HT2.out.upd hs0 (by show ¬ _ = _; omega)).upd0 hd0)
        have HU3 := Lib.hid ((HU2.out.trans hs0 (fun i e => by cases e; exact .inr HW.out)).then0 hd0)
        have HUP := Lib.hid ((hup.out.then hs0).then0 hd0)
        obtain ⟨y, hcu⟩ : ∃ y, wr.cell? ⟨u, k, none⟩ = some (.int .i64 y) := ⟨_, hat.out.cell k (by omega)⟩
        have hfu := hat.out.free k
        clear hat hup hd0 hs0
        by_cases hx0 : x = 0
        · have hd5 : (x != 0) = false := by simp [hx0]
          have HOK := Lib.hid (HWS.out.trans (by rw [hok.out]; simp [okV, hx0]) : okN xs (k + 1) = true)
          clear hx0
          go_wp2_with (go_at_call 72; refine (HV.out _ _ (by have := HM5.out; omega)).mono ?_; rintro e w' ⟨rfl, rfl⟩)
          go_roundw
          case rel => exact ⟨k + 1, by go_num, by omega, HOK.out, HST.out ▸ HAT.out, HUP.out⟩
          case measure => simp [intOf]; omega
        · have hd5 : (x != 0) = true := by simp [hx0]
          have hov : okV x = okP x := by simp [okV, hx0]
          rw [hov] at HSTOP HWS
          obtain ⟨d, hdx⟩ : ∃ d, okP x = d := ⟨_, rfl⟩
          have hp : ∀ W : World, Calls Try.prog 73 #[.int .i64 x] W fun e w' => e = .returned (.bool d) ∧ W = w' := fun W => by have := tpage_at (w := W) x; rwa [show (decide (2 ≤ x) && decide (x < 512)) = d from hdx] at this
          have HP := Lib.hid (fun W => hp W)
          rw [hdx] at HSTOP HWS
          clear hx0 hov hp hdx
          cases d
          · have HE := Lib.hid (show loadE i xs = 4 by rw [HE0.out, HSTOP.out rfl]; rfl)
            go_wp2_with (first | (go_at_call 72; refine (HV.out _ _ (by have := HM5.out; omega)).mono ?_; rintro e w' ⟨rfl, rfl⟩) | (go_at_call 73; refine (HP.out _).mono ?_; rintro e w' ⟨rfl, rfl⟩))
            go_ret
            rw [HOUT.out _ HE.out (by decide)]
            exact ⟨ret_int HE.out.symm, HT3.out, HU3.out.mono (fun _ h => h.elim)⟩
          · have HOK := Lib.hid (HWS.out.trans (by rw [hok.out]; rfl) : okN xs (k + 1) = true)
            go_wp2_with (first | (go_at_call 72; refine (HV.out _ _ (by have := HM5.out; omega)).mono ?_; rintro e w' ⟨rfl, rfl⟩) | (go_at_call 73; refine (HP.out _).mono ?_; rintro e w' ⟨rfl, rfl⟩))
            go_roundw
            case rel => exact ⟨k + 1, by go_num, by omega, HOK.out, HST.out ▸ HAT.out, HUP.out⟩
            case measure => simp [intOf]; omega
      · have hd : decide ((k : Int) < 128) = false := by simp; omega
        obtain rfl : k = 128 := by omega
        have HE := Lib.hid (show loadE i xs = 0 by rw [HE0.out, if_pos hok.out])
        have HLX := Lib.hid (show loadX X i xs = putL X (i * 128) (setN (List.replicate 128 0) 0 xs 128) by rw [put_setN HT2.out.len i hi]; unfold loadX; rw [if_pos HE.out]; rfl)
        obtain ⟨L, hL⟩ : ∃ L, setN (List.replicate 128 0) 0 xs 128 = L := ⟨_, rfl⟩
        rw [hL] at HLX hat
        have HAT := Lib.hid (hat.out.upd0 ((Upd.refl noB wr).drew))
        have HT3 := Lib.hid (HT2.out.upd0 ((Upd.refl noB wr).drew))
        have HU3 := Lib.hid (HU2.out.drew)
        have hl : (numL L).length = 128 := by rw [numL_length]; exact hat.out.len
        have HIL := Lib.hid (show (Try.prog.info? 115).map (·.size) = some (numL L).length by rw [hl]; exact info115)
        have HIS := Lib.hid (show (Try.prog.info? 115).map (·.size) = some (numL L).toArray.size by rw [List.size_toArray, hl]; exact info115)
        have HON := Lib.hid (all_oneCell_toArray (numL_one L))
        have hl2 : (numL L).toArray.size = 128 := by rw [List.size_toArray, hl]
        have HTH := Lib.hid (show wr.drew.there p (i * 128) (numL L).toArray.size by rw [hl2]; exact HT3.out.there i hi)
        have HL2 := Lib.hid hl2
        have hi4 : (i : Int) < 4 := by omega
        have hpl := HT3.out.plt
        clear hL hat hup hl hl2
        go_upto_region 16 with fail
        refine wp_region_held_drew (S := (fun w' => w'.rangeAt u 0 (numL L))) (by kernel_rfl) (HAT.out.range) (fun hHeld => ?_)
        refine wpAnyH_take (i := 0) (v := ?_) rfl (by kernel_rfl) (by kernel_rfl) (by kernel_rfl) (fun _ _ _ h => h) (Or.inl ⟨by rfl, ?_⟩) hHeld ?_
        rotate_left
        · intro w hSw; (try dsimp only at hSw); (try go_simp); (try with_reducible rfl)
        try simp only [List.getElem_toArray, List.getElem_cons_succ, List.getElem_cons_zero, Act.put, List.setIfInBounds_toArray, List.set_cons_zero, List.set_cons_succ]
        refine wpAnyH_take (i := 1) (v := ?_) rfl (by kernel_rfl) (by kernel_rfl) (by kernel_rfl) (fun _ _ _ h => h) (Or.inl ⟨by rfl, ?_⟩) hHeld ?_
        rotate_left
        · intro w hSw; (try dsimp only at hSw); (try go_simp); (try with_reducible rfl)
        try simp only [List.getElem_toArray, List.getElem_cons_succ, List.getElem_cons_zero, Act.put, List.setIfInBounds_toArray, List.set_cons_zero, List.set_cons_succ]
        refine wpAnyH_take (i := 2) (v := .agg (List.toArray (numL L))) rfl (by kernel_rfl) (by kernel_rfl) (by kernel_rfl) (fun _ _ _ h => h) (yieldsIf_load_mid (by rfl) _ _ rfl (u) (0) rfl (numL L) _ (fun w hSw => hSw) Try.underlying115 rfl HIL.out) hHeld ?_
        try simp only [List.getElem_toArray, List.getElem_cons_succ, List.getElem_cons_zero, Act.put, List.setIfInBounds_toArray, List.set_cons_zero, List.set_cons_succ]
        refine wpAnyH_take (i := 3) (v := ?_) rfl (by kernel_rfl) (by kernel_rfl) (by kernel_rfl) (fun _ _ _ h => h) (Or.inl ⟨by rfl, ?_⟩) hHeld ?_
        rotate_left
        · intro w hSw; (try dsimp only at hSw); (try go_simp); (try with_reducible rfl)
        try simp only [List.getElem_toArray, List.getElem_cons_succ, List.getElem_cons_zero, Act.put, List.setIfInBounds_toArray, List.set_cons_zero, List.set_cons_succ]
        refine wpAnyH_take (i := 4) (v := ?_) rfl (by kernel_rfl) (by kernel_rfl) (by kernel_rfl) (fun _ _ _ h => h) (Or.inl ⟨by rfl, ?_⟩) hHeld ?_
        rotate_left
        · intro w hSw; (try dsimp only at hSw); (try go_simp); (try with_reducible rfl)
        try simp only [List.getElem_toArray, List.getElem_cons_succ, List.getElem_cons_zero, Act.put, List.setIfInBounds_toArray, List.set_cons_zero, List.set_cons_succ]
        refine wpAnyH_take (i := 5) (v := ?_) rfl (by kernel_rfl) (by kernel_rfl) (by kernel_rfl) (fun _ _ _ h => h) (Or.inl ⟨by rfl, ?_⟩) hHeld ?_
        rotate_left
        · intro w hSw; (try dsimp only at hSw); (try go_simp); (try with_reducible rfl)
        try simp only [List.getElem_toArray, List.getElem_cons_succ, List.getElem_cons_zero, Act.put, List.setIfInBounds_toArray, List.set_cons_zero, List.set_cons_succ]
        refine wpAnyH_ready (rs := [6]) (by kernel_rfl) (by simp) ?_
        refine AllReadyH.cons rfl (fun K hK => ?_) AllReadyH.nil
        rw [if_pos (by rfl)]
        try simp only [List.getElem_toArray, List.getElem_cons_succ, List.getElem_cons_zero, Act.put, List.setIfInBounds_toArray, List.set_cons_zero, List.set_cons_succ]
        refine wp_store_mid _ _ _ rfl _ _ (List.toArray (numL L)) rfl rfl HTH.out HIS.out HON.out ?_
        try simp only [List.getElem_toArray, List.getElem_cons_succ, List.getElem_cons_zero, Act.put, List.setIfInBounds_toArray, List.set_cons_zero, List.set_cons_succ]
        refine hK.out _ _ (World.rangeAt_setCells_apart HAT.out.range _ _ _ (.inl (by omega))) (fun hHeld => ?_)
        clear hK K
        try simp only [List.getElem_toArray, List.getElem_cons_succ, List.getElem_cons_zero, Act.put, List.setIfInBounds_toArray, List.set_cons_zero, List.set_cons_succ]
        refine wpAnyH_done (by kernel_rfl) ?_ _
        try simp only [List.getElem_toArray, List.getElem_cons_succ, List.getElem_cons_zero, Act.put, List.setIfInBounds_toArray, List.set_cons_zero, List.set_cons_succ]
        go_wp2
        go_ret
        rw [HLX.out]
        exact ⟨ret_int HE.out.symm, HT3.out.put _ _, upd_cells _ _ _ (HU3.out.mono (fun _ h => h.elim)) (.inl rfl)⟩
end
end Go.Proofs.Ytejpcgoblgaieaa
