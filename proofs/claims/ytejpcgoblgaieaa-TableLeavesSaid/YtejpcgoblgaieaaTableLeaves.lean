/-
  hibernaclelaw07.TableLeaves: walked once: for every row of steps, every number and all bytes it returns true.
-/
import Derived.Test.YtejpcgoblgaieaaLives07
import Derived.Test.YtejpcgoblgaieaaLoadRef
import Derived.Test.YtejpcgoblgaieaaLeafRef
import Derived.Test.YtejpcgoblgaieaaTable9
set_option linter.unusedVariables false
set_option linter.unusedSimpArgs false
namespace Go.Proofs.Ytejpcgoblgaieaa.TableLeaves
open Go.RowKit Go.Proofs.Ytejpcgoblgaieaa Go.Proofs.Ytejpcgoblgaieaa.Law07
theorem bytesIn_upd0 {w w' : World} {A : Option Addr} {n : Nat} {xs : List Int} (h : Lib.BytesIn w A n xs) (hu : Upd noB w w') : Lib.BytesIn w' A n xs := fun h0 => by
  obtain ⟨b, o, h1, h2⟩ := h h0
  exact ⟨b, o, h1, fun i hi => hu.cell (h2 i hi) (fun x => x)⟩
theorem row_conv {w : World} {v : Value} {ys : List Int} (h : Row w 5 v (u8s ys)) (h0 : 0 < ys.length) (W : World) (hu : Upd noB w W) : (convert 48 9 v).run Try.prog W = .ok (.string (strOfNums ys)) W := by
  have h2 : Row W 5 v (u8s ys) := h.upd0 hu
  rcases h2.2 with ⟨_, hl⟩ | ⟨g, cap, cur, rfl, _⟩
  · rw [show (u8s ys).length = ys.length by simp [u8s]] at hl; omega
  · exact row_string _ _ _ 5 Try.underlying48 Try.underlying5 Try.underlying9 h2
theorem str_eq {xs ys : List Int} (hx : Bytes xs) (hy : Bytes ys) : ((strOfNums xs).toList == (strOfNums ys).toList) = decide (xs = ys) := by
  rw [Bool.eq_iff_iff, beq_iff_eq, decide_eq_true_eq]
  constructor
  · intro hh
    refine libBytes_inj hx hy ?_
    simpa [strOfNums] using hh
  · rintro rfl; rfl
theorem bytes_zero (n : Nat) : Bytes (List.replicate n 0) := fun x hx => by rw [List.eq_of_mem_replicate hx]; omega
theorem str_zero {xs : List Int} {q : Prop} [Decidable q] (hx : Bytes xs) (h : (xs = List.replicate 512 0) ↔ q) : ((strOfNums xs).toList == (strOfNums (List.replicate 512 0)).toList) = decide q := by
  rw [str_eq hx (bytes_zero 512)]
  exact decide_eq_decide.2 h
/-- A page of zeros. -/
def zpage : ByteArray := strOfNums (List.replicate 512 0)
/-- A row of 512 zeros lies in block g. -/
def Made (W : World) (g : Nat) : Prop := ∀ W', Upd noB W W' → (convert 48 9 (.slice (some ⟨g, 0, none⟩) 512 512)).run Try.prog W' = .ok (.string zpage) W'
theorem made_of {W3 W : World} (h : Upd noB W3 W) : Made (W.alloc (.cells (madeCells #[.int .u8 0] 512) 5)) W.heap.size := fun W' hu => by
  refine row_conv (ys := List.replicate 512 0) ?_ (by rw [List.length_replicate]; omega) W' hu
  have := ownsRow_made W 5 (.int .u8 0) 512 (by omega)
  unfold Row u8s
  rw [List.map_replicate, List.length_replicate]
  exact this
theorem made_upd {W W' : World} {g : Nat} (h : Made W g) (hu : Upd noB W W') : Made W' g := fun W2 h2 => h W2 (hu.then0 h2)
theorem made_run {W : World} {g : Nat} (h : Made W g) : (convert 48 9 (.slice (some ⟨g, 0, none⟩) 512 512)).run Try.prog W = .ok (.string zpage) W := h W (Upd.refl _ _)
theorem tload_all {w : World} {p : Nat} {X : List Int} (h : TabAt w p X) (i : Int) (A : Option Addr) (c : Nat) (xs : List Int) (hx : Bytes xs) (hn2 : xs.length ≤ 1000000) (hcap : xs.length ≤ c) (hA : Lib.BytesIn w A xs.length xs) :
    Calls Try.prog 40 #[.pointer (some ⟨p, 0, none⟩), .int .i64 i, .slice A xs.length c] w fun e w' => e = .returned (.int .i64 (loadE i xs)) ∧ TabAt w' p (loadX X i xs) ∧ Upd (oneB p) w w' := by
  by_cases hi : i < 0 ∨ 3 < i
  · exact tload_bad h i hi _ xs
  · obtain ⟨n, rfl⟩ := Int.eq_ofNat_of_zero_le (show 0 ≤ i by omega)
    exact tload_at h n (by omega) A c xs hx hn2 hcap hA
set_option maxRecDepth 100000 in
set_option maxHeartbeats 8000000 in
theorem walk (A : Option Addr) (cp len : Nat) (i : Int) (B : Option Addr) (cb : Nat) (xs : List Int) (w : World) (hlen : len ≤ 9223372036854775807) (hA : OpsIn w A len) (hx : Bytes xs) (hcap : xs.length ≤ cb) (hB : Lib.BytesIn w B xs.length xs) :
    Calls Try.prog 8 #[.slice A len cp, .int .i64 i, .slice B xs.length cb] w fun e w' => e = .returned (.bool true) ∧ Upd noB w w' := by
  have HM := Lib.hid (made07_at A cp len hlen hA)
  have HBY := Lib.hid hB
  have HX := Lib.hid hx
  have HCAP := Lib.hid hcap
  have HLV := Lib.hid lives07_true
  clear hA hB hx hcap
  by_cases hbig : 1500 < xs.length
  · have hd : decide ((1500 : Int) < xs.length) = true := by simp; omega
    clear hbig
    go_enter Try.func8, Try.ntmps8
    go_wp2_with (go_at_call 30; refine (HLV.out _).mono ?_; rintro e w' ⟨rfl, hu⟩)
    go_ret
    exact ⟨rfl, hu⟩
  have hd : decide ((1500 : Int) < xs.length) = false := by simp; omega
  have HBIG := Lib.hid (show xs.length ≤ 1000000 by omega)
  clear hbig
  have HN := Lib.hid nums_one
  have HI := Lib.hid (fun (X : List Int) (h : X.length = 512) => (show (Try.prog.info? 57).map (·.size) = some (nums X).size by rw [nums_size, h]; exact info57))
  have HTH := Lib.hid (fun (W : World) (X : List Int) (h : X.length = 512) => (show (W.alloc (.cells Try.zeroCells57 57)).there W.heap.size 0 (nums X).size by rw [nums_size, h]; exact (arr_new W).there))
  go_enter Try.func8, Try.ntmps8
  go_upto_region 3 with fail
  go_upto_region 4 with (first | (go_at_call 26; refine HM.out.mono ?_; rintro e w1 ⟨p, X, rfl, hX, ht1, hu1, hp1⟩; have hl1 := Lib.hid ht1.len) | (refine wpList_store_mid rfl 57 _ _ rfl _ 0 _ rfl rfl ?_ ?_ ?_ ?_; exact HTH.out _ _ hl1.out; exact HI.out _ hl1.out; exact HN.out _))
  obtain ⟨a, ha⟩ : ∃ a, a = w1.heap.size := ⟨_, rfl⟩
  obtain ⟨W2, hW2⟩ : ∃ W, W = (w1.alloc (.cells Try.zeroCells57 57)).setCells a 0 (nums X).toList := ⟨_, rfl⟩
  have hra : RowAt W2 a X := by
    have := (ArrAt.row (arr_new w1)).stored (Y := X) hl1.out
    rw [hW2, ha, numL_eq]; exact this
  have hu2 : Upd noB w1 W2 := by
    rw [hW2]
    exact upd_setCells _ 0 _ ((Upd.refl _ _).alloc _) (.inr (by omega))
  rw [← ha, ← hW2]
  have HT := Lib.hid (ht1.upd0 hu2)
  have HR := Lib.hid hra
  have HU := Lib.hid (hu1.then0 hu2)
  have HIL := Lib.hid (show (Try.prog.info? 57).map (·.size) = some (numL X).length by rw [numL_length, hl1.out]; exact info57)
  have hpa : p < a := by have := ht1.plt; omega
  clear hW2 ha hra hu1 hu2 ht1 HM HTH HI HN
  have hcase : i < 0 ∨ (¬ i < 0 ∧ 3 < i) ∨ ∃ n : Nat, i = n ∧ n < 4 := by
    by_cases h1 : i < 0
    · exact .inl h1
    · by_cases h2 : 3 < i
      · exact .inr (.inl ⟨h1, h2⟩)
      · exact .inr (.inr ⟨i.toNat, by omega, by omega⟩)
  have HLR0 := fun (W : World) (h : Lib.BytesIn W B xs.length xs) => load_ref (w := W) hl1.out i B cb xs HX.out HBIG.out h
  have HLT0 := fun (W : World) (h : TabAt W p X) (hb : Lib.BytesIn W B xs.length xs) => tload_all h i B cb xs HX.out HBIG.out HCAP.out hb
  have hYt := told_load hX i xs
  have hYl := loadX_length X i xs
  obtain ⟨Y, hY⟩ : ∃ Y, loadX X i xs = Y := ⟨_, rfl⟩
  obtain ⟨e0, he0⟩ : ∃ e, loadE i xs = e := ⟨_, rfl⟩
  simp only [hY, he0] at HLR0 HLT0
  rw [hY] at hYt hYl
  rw [hl1.out] at hYl
  have HLR := Lib.hid HLR0
  have HLT := Lib.hid HLT0
  have HYT := Lib.hid hYt
  have HYL := Lib.hid hYl
  clear hY he0 hYt hYl HLR0 HLT0
  rcases hcase with hi | ⟨hi1, hi⟩ | ⟨n, rfl, hn⟩
  focus
    have HLF := Lib.hid (tleaf_bad (p := p) (w := W2) i (.inl hi))
    have HBR := Lib.hid (tbare_bad (p := p) (w := W2) i (.inl hi))
    have hd1 : decide (i < 0) = true := by simpa using hi
    clear hi
    go_upto_region 10 with (first | (go_at_call 36; refine HLF.out.mono ?_; rintro e w' ⟨rfl, rfl⟩) | (go_at_call 37; refine HBR.out.mono ?_; rintro e w' ⟨rfl, rfl⟩))
    have HU8 := Lib.hid (Upd.refl noB W2)
  rotate_left
  focus
    have HLF := Lib.hid (tleaf_bad (p := p) (w := W2) i (.inr hi))
    have HBR := Lib.hid (tbare_bad (p := p) (w := W2) i (.inr hi))
    have hd1 : decide (i < 0) = false := by simpa using hi1
    have hd2 : decide (3 < i) = true := by simpa using hi
    clear hi hi1
    go_upto_region 10 with (first | (go_at_call 36; refine HLF.out.mono ?_; rintro e w' ⟨rfl, rfl⟩) | (go_at_call 37; refine HBR.out.mono ?_; rintro e w' ⟨rfl, rfl⟩))
    have HU8 := Lib.hid (Upd.refl noB W2)
  rotate_left
  focus
    have hd1 : decide ((n : Int) < 0) = false := by simp
    have hd2 : decide ((3 : Int) < n) = false := by simp; omega
    go_upto_region 8 with (go_at_call 36; refine (tleaf_at HT.out hX n hn).mono ?_; rintro e W3 ⟨v, rfl, hrv, huv, hnv⟩)
    have HUV := Lib.hid huv
    go_cut [58] (fun v W => v = .bool false ∧ Hid (Upd noB W3 W))
    case first =>
      have HT3 := Lib.hid (HT.out.upd0 huv)
      have HR3 := Lib.hid (HR.out.upd huv (fun x => x))
      have HCV := Lib.hid (row_conv hrv (by rw [leafB_length]; omega))
      have HLF := Lib.hid (fun W : World => leaf_ref (w := W) hl1.out hX n hn)
      have hba := fun (W : World) (h : TabAt W p X) => tbare_at h n hn
      have hbb := bare_bytes hX hl1.out n hn
      obtain ⟨d, hd⟩ : ∃ d, decide (leafN X n = List.replicate 128 0) = d := ⟨_, rfl⟩
      have hbe : ((strOfNums (leafB X n 128)).toList == zpage.toList) = d := by
        rw [← hd]; exact str_zero (leafB_bytes hX n 128) hbb
      rw [hd] at hba
      have HBA := Lib.hid hba
      clear hrv huv hnv hba hbb hd
      have hmk := make_run (P := Try.prog) 48 5 (.int .u8 0) 1 Try.underlying48 info_u8t rfl (512 : Int) 512 rfl (by omega) (by omega)
      refine wp_region_held_drew (S := (fun w' => Upd noB W3 w')) (by kernel_rfl) ((Upd.refl _ _).drew) (fun hHeld => ?_)
      refine wpAnyH_take (i := 0) (v := ?_) rfl (by kernel_rfl) (by kernel_rfl) (by kernel_rfl) (fun _ _ _ h => h) (Or.inl ⟨by rfl, ?_⟩) hHeld ?_
      rotate_left
      · intro w hSw; (try dsimp only at hSw); (try go_simp); (try with_reducible rfl)
      try simp only [List.getElem_toArray, List.getElem_cons_succ, List.getElem_cons_zero, Act.put, List.setIfInBounds_toArray, List.set_cons_zero, List.set_cons_succ]
      refine wpAnyH_take (i := 1) (v := .string (strOfNums (leafB X n 128))) rfl (by kernel_rfl) (by kernel_rfl) (by kernel_rfl) (fun _ _ _ h => h) (Or.inl ⟨by rfl, fun w hSw => by have h1 := HCV.out w hSw; go_simp⟩) hHeld ?_
      try simp only [List.getElem_toArray, List.getElem_cons_succ, List.getElem_cons_zero, Act.put, List.setIfInBounds_toArray, List.set_cons_zero, List.set_cons_succ]
      refine wpAnyH_take (i := 2) (v := .agg (List.toArray (numL X))) rfl (by kernel_rfl) (by kernel_rfl) (by kernel_rfl) (fun _ _ _ h => h) (yieldsIf_load_mid (by rfl) _ _ rfl (a) (0) rfl (numL X) _ (fun w hSw => range_upd HR3.out.rng hSw (fun x => x)) Try.underlying57 rfl HIL.out) hHeld ?_
      try simp only [List.getElem_toArray, List.getElem_cons_succ, List.getElem_cons_zero, Act.put, List.setIfInBounds_toArray, List.set_cons_zero, List.set_cons_succ]
      refine wpAnyH_take (i := 3) (v := ?_) rfl (by kernel_rfl) (by kernel_rfl) (by kernel_rfl) (fun _ _ _ h => h) (Or.inl ⟨by rfl, ?_⟩) hHeld ?_
      rotate_left
      · intro w hSw; (try dsimp only at hSw); (try go_simp); (try with_reducible rfl)
      try simp only [List.getElem_toArray, List.getElem_cons_succ, List.getElem_cons_zero, Act.put, List.setIfInBounds_toArray, List.set_cons_zero, List.set_cons_succ]
      refine wpAnyH_ready (rs := [4]) (by kernel_rfl) (by simp) ?_
      refine AllReadyH.cons rfl (fun K hK => ?_) AllReadyH.nil
      rw [if_pos (by rfl)]
      try simp only [List.getElem_toArray, List.getElem_cons_succ, List.getElem_cons_zero, Act.put, List.setIfInBounds_toArray, List.set_cons_zero, List.set_cons_succ]
      go_wp2_with (go_at_call 38; refine (HLF.out _).mono ?_; rintro e w4 ⟨rfl, hu4⟩)
      try simp only [List.getElem_toArray, List.getElem_cons_succ, List.getElem_cons_zero, Act.put, List.setIfInBounds_toArray, List.set_cons_zero, List.set_cons_succ]
      refine hK.out _ _ (hHeld.then0 hu4) (fun hHeld => ?_)
      clear hK K
      try simp only [List.getElem_toArray, List.getElem_cons_succ, List.getElem_cons_zero, Act.put, List.setIfInBounds_toArray, List.set_cons_zero, List.set_cons_succ]
      refine wpAnyH_take (i := 5) (v := ?_) rfl (by kernel_rfl) (by kernel_rfl) (by kernel_rfl) (fun _ _ _ h => h) (Or.inl ⟨by rfl, ?_⟩) hHeld ?_
      rotate_left
      · intro w hSw; (try dsimp only at hSw); (try go_simp); (try with_reducible rfl)
      try simp only [List.getElem_toArray, List.getElem_cons_succ, List.getElem_cons_zero, Act.put, List.setIfInBounds_toArray, List.set_cons_zero, List.set_cons_succ]
      refine wpAnyH_take (i := 6) (v := ?_) rfl (by kernel_rfl) (by kernel_rfl) (by kernel_rfl) (fun _ _ _ h => h) (Or.inl ⟨by rfl, ?_⟩) hHeld ?_
      rotate_left
      · intro w hSw; (try dsimp only at hSw); (try go_simp); (try with_reducible rfl)
      try simp only [List.getElem_toArray, List.getElem_cons_succ, List.getElem_cons_zero, Act.put, List.setIfInBounds_toArray, List.set_cons_zero, List.set_cons_succ]
      refine wpAnyH_take (i := 7) (v := ?_) rfl (by kernel_rfl) (by kernel_rfl) (by kernel_rfl) (fun _ _ _ h => h) (Or.inl ⟨by rfl, ?_⟩) hHeld ?_
      rotate_left
      · intro w hSw; (try dsimp only at hSw); (try go_simp); (try with_reducible rfl)
      try simp only [List.getElem_toArray, List.getElem_cons_succ, List.getElem_cons_zero, Act.put, List.setIfInBounds_toArray, List.set_cons_zero, List.set_cons_succ]
      refine wpAnyH_take (i := 8) (v := ?_) rfl (by kernel_rfl) (by kernel_rfl) (by kernel_rfl) (fun _ _ _ h => h) (Or.inl ⟨by rfl, ?_⟩) hHeld ?_
      rotate_left
      · intro w hSw; (try dsimp only at hSw); (try go_simp); (try with_reducible rfl)
      try simp only [List.getElem_toArray, List.getElem_cons_succ, List.getElem_cons_zero, Act.put, List.setIfInBounds_toArray, List.set_cons_zero, List.set_cons_succ]
      refine wpAnyH_take (i := 10) (v := .agg (List.toArray (numL X))) rfl (by kernel_rfl) (by kernel_rfl) (by kernel_rfl) (fun _ _ _ h => h) (yieldsIf_load_mid (by rfl) _ _ rfl (a) (0) rfl (numL X) _ (fun w hSw => range_upd HR3.out.rng hSw (fun x => x)) Try.underlying57 rfl HIL.out) hHeld ?_
      try simp only [List.getElem_toArray, List.getElem_cons_succ, List.getElem_cons_zero, Act.put, List.setIfInBounds_toArray, List.set_cons_zero, List.set_cons_succ]
      refine wpAnyH_take (i := 11) (v := ?_) rfl (by kernel_rfl) (by kernel_rfl) (by kernel_rfl) (fun _ _ _ h => h) (Or.inl ⟨by rfl, ?_⟩) hHeld ?_
      rotate_left
      · intro w hSw; (try dsimp only at hSw); (try go_simp); (try with_reducible rfl)
      try simp only [List.getElem_toArray, List.getElem_cons_succ, List.getElem_cons_zero, Act.put, List.setIfInBounds_toArray, List.set_cons_zero, List.set_cons_succ]
      refine wpAnyH_ready (rs := [9, 13]) (by kernel_rfl) (by simp) ?_
      refine AllReadyH.cons rfl (fun K hK => ?_) (AllReadyH.cons rfl (fun K hK => ?_) AllReadyH.nil)
      · rw [if_pos (by rfl)]
        try simp only [List.getElem_toArray, List.getElem_cons_succ, List.getElem_cons_zero, Act.put, List.setIfInBounds_toArray, List.set_cons_zero, List.set_cons_succ]
        go_wp2_with (go_at_call 37; refine (HBA.out _ (HT3.out.upd0 hHeld)).mono ?_; rintro e w5 ⟨rfl, rfl⟩)
        try simp only [List.getElem_toArray, List.getElem_cons_succ, List.getElem_cons_zero, Act.put, List.setIfInBounds_toArray, List.set_cons_zero, List.set_cons_succ]
        refine hK.out _ _ (hHeld) (fun hHeld => ?_)
        clear hK K
        try simp only [List.getElem_toArray, List.getElem_cons_succ, List.getElem_cons_zero, Act.put, List.setIfInBounds_toArray, List.set_cons_zero, List.set_cons_succ]
        refine wpAnyH_ready (rs := [12, 13]) (by kernel_rfl) (by simp) ?_
        refine AllReadyH.cons rfl (fun K hK => ?_) (AllReadyH.cons rfl (fun K hK => ?_) AllReadyH.nil)
        · rw [if_pos (by rfl)]
          try simp only [List.getElem_toArray, List.getElem_cons_succ, List.getElem_cons_zero, Act.put, List.setIfInBounds_toArray, List.set_cons_zero, List.set_cons_succ]
          go_wp2_with (go_at_call 38; refine (HLF.out _).mono ?_; rintro e w5 ⟨rfl, hu5⟩)
          (try have hmc := Lib.hid (made_upd hmc.out hu5))
          try simp only [List.getElem_toArray, List.getElem_cons_succ, List.getElem_cons_zero, Act.put, List.setIfInBounds_toArray, List.set_cons_zero, List.set_cons_succ]
          refine hK.out _ _ (hHeld.then0 hu5) (fun hHeld => ?_)
          clear hK K
          try simp only [List.getElem_toArray, List.getElem_cons_succ, List.getElem_cons_zero, Act.put, List.setIfInBounds_toArray, List.set_cons_zero, List.set_cons_succ]
          refine wpAnyH_ready (rs := [13]) (by kernel_rfl) (by simp) ?_
          refine AllReadyH.cons rfl (fun K hK => ?_) AllReadyH.nil
          rw [if_pos (by rfl)]
          try simp only [List.getElem_toArray, List.getElem_cons_succ, List.getElem_cons_zero, Act.put, List.setIfInBounds_toArray, List.set_cons_zero, List.set_cons_succ]
          have hmc := Lib.hid (made_of hHeld)
          go_wp2_with fail
          try simp only [List.getElem_toArray, List.getElem_cons_succ, List.getElem_cons_zero, Act.put, List.setIfInBounds_toArray, List.set_cons_zero, List.set_cons_succ]
          refine hK.out _ _ (hHeld.alloc _) (fun hHeld => ?_)
          clear hK K
          try simp only [List.getElem_toArray, List.getElem_cons_succ, List.getElem_cons_zero, Act.put, List.setIfInBounds_toArray, List.set_cons_zero, List.set_cons_succ]
          refine wpAnyH_ready (rs := [14]) (by kernel_rfl) (by simp) ?_
          refine AllReadyH.cons rfl (fun K hK => ?_) AllReadyH.nil
          rw [if_pos (by rfl)]
          try simp only [List.getElem_toArray, List.getElem_cons_succ, List.getElem_cons_zero, Act.put, List.setIfInBounds_toArray, List.set_cons_zero, List.set_cons_succ]
          have hmr := made_run hmc.out
          go_wp2_with fail
          try simp only [List.getElem_toArray, List.getElem_cons_succ, List.getElem_cons_zero, Act.put, List.setIfInBounds_toArray, List.set_cons_zero, List.set_cons_succ]
          refine hK.out _ _ (hHeld) (fun hHeld => ?_)
          clear hK K
          try simp only [List.getElem_toArray, List.getElem_cons_succ, List.getElem_cons_zero, Act.put, List.setIfInBounds_toArray, List.set_cons_zero, List.set_cons_succ]
          refine wpAnyH_take (i := 15) (v := ?_) rfl (by kernel_rfl) (by kernel_rfl) (by kernel_rfl) (fun _ _ _ h => h) (Or.inl ⟨by rfl, ?_⟩) hHeld ?_
          rotate_left
          · intro w hSw; (try dsimp only at hSw); (try go_simp); (try with_reducible rfl)
          try simp only [List.getElem_toArray, List.getElem_cons_succ, List.getElem_cons_zero, Act.put, List.setIfInBounds_toArray, List.set_cons_zero, List.set_cons_succ]
          refine wpAnyH_take (i := 16) (v := ?_) rfl (by kernel_rfl) (by kernel_rfl) (by kernel_rfl) (fun _ _ _ h => h) (Or.inl ⟨by rfl, ?_⟩) hHeld ?_
          rotate_left
          · intro w hSw; (try dsimp only at hSw); (try go_simp); (try with_reducible rfl)
          try simp only [List.getElem_toArray, List.getElem_cons_succ, List.getElem_cons_zero, Act.put, List.setIfInBounds_toArray, List.set_cons_zero, List.set_cons_succ]
          refine wpAnyH_take (i := 17) (v := ?_) rfl (by kernel_rfl) (by kernel_rfl) (by kernel_rfl) (fun _ _ _ h => h) (Or.inl ⟨by rfl, ?_⟩) hHeld ?_
          rotate_left
          · intro w hSw; (try dsimp only at hSw); (try go_simp); (try with_reducible rfl)
          try simp only [List.getElem_toArray, List.getElem_cons_succ, List.getElem_cons_zero, Act.put, List.setIfInBounds_toArray, List.set_cons_zero, List.set_cons_succ]
          refine wpAnyH_done (by kernel_rfl) ?_ _
          try simp only [List.getElem_toArray, List.getElem_cons_succ, List.getElem_cons_zero, Act.put, List.setIfInBounds_toArray, List.set_cons_zero, List.set_cons_succ]
          go_wp2_with fail
          go_meet
          exact ⟨rfl, hHeld⟩
        · rw [if_pos (by rfl)]
          try simp only [List.getElem_toArray, List.getElem_cons_succ, List.getElem_cons_zero, Act.put, List.setIfInBounds_toArray, List.set_cons_zero, List.set_cons_succ]
          have hmc := Lib.hid (made_of hHeld)
          go_wp2_with fail
          try simp only [List.getElem_toArray, List.getElem_cons_succ, List.getElem_cons_zero, Act.put, List.setIfInBounds_toArray, List.set_cons_zero, List.set_cons_succ]
          refine hK.out _ _ (hHeld.alloc _) (fun hHeld => ?_)
          clear hK K
          try simp only [List.getElem_toArray, List.getElem_cons_succ, List.getElem_cons_zero, Act.put, List.setIfInBounds_toArray, List.set_cons_zero, List.set_cons_succ]
          refine wpAnyH_ready (rs := [12, 14]) (by kernel_rfl) (by simp) ?_
          refine AllReadyH.cons rfl (fun K hK => ?_) (AllReadyH.cons rfl (fun K hK => ?_) AllReadyH.nil)
          · rw [if_pos (by rfl)]
            try simp only [List.getElem_toArray, List.getElem_cons_succ, List.getElem_cons_zero, Act.put, List.setIfInBounds_toArray, List.set_cons_zero, List.set_cons_succ]
            go_wp2_with (go_at_call 38; refine (HLF.out _).mono ?_; rintro e w5 ⟨rfl, hu5⟩)
            (try have hmc := Lib.hid (made_upd hmc.out hu5))
            try simp only [List.getElem_toArray, List.getElem_cons_succ, List.getElem_cons_zero, Act.put, List.setIfInBounds_toArray, List.set_cons_zero, List.set_cons_succ]
            refine hK.out _ _ (hHeld.then0 hu5) (fun hHeld => ?_)
            clear hK K
            try simp only [List.getElem_toArray, List.getElem_cons_succ, List.getElem_cons_zero, Act.put, List.setIfInBounds_toArray, List.set_cons_zero, List.set_cons_succ]
            refine wpAnyH_ready (rs := [14]) (by kernel_rfl) (by simp) ?_
            refine AllReadyH.cons rfl (fun K hK => ?_) AllReadyH.nil
            rw [if_pos (by rfl)]
            try simp only [List.getElem_toArray, List.getElem_cons_succ, List.getElem_cons_zero, Act.put, List.setIfInBounds_toArray, List.set_cons_zero, List.set_cons_succ]
            have hmr := made_run hmc.out
            go_wp2_with fail
            try simp only [List.getElem_toArray, List.getElem_cons_succ, List.getElem_cons_zero, Act.put, List.setIfInBounds_toArray, List.set_cons_zero, List.set_cons_succ]
            refine hK.out _ _ (hHeld) (fun hHeld => ?_)
            clear hK K
            try simp only [List.getElem_toArray, List.getElem_cons_succ, List.getElem_cons_zero, Act.put, List.setIfInBounds_toArray, List.set_cons_zero, List.set_cons_succ]
            refine wpAnyH_take (i := 15) (v := ?_) rfl (by kernel_rfl) (by kernel_rfl) (by kernel_rfl) (fun _ _ _ h => h) (Or.inl ⟨by rfl, ?_⟩) hHeld ?_
            rotate_left
            · intro w hSw; (try dsimp only at hSw); (try go_simp); (try with_reducible rfl)
            try simp only [List.getElem_toArray, List.getElem_cons_succ, List.getElem_cons_zero, Act.put, List.setIfInBounds_toArray, List.set_cons_zero, List.set_cons_succ]
            refine wpAnyH_take (i := 16) (v := ?_) rfl (by kernel_rfl) (by kernel_rfl) (by kernel_rfl) (fun _ _ _ h => h) (Or.inl ⟨by rfl, ?_⟩) hHeld ?_
            rotate_left
            · intro w hSw; (try dsimp only at hSw); (try go_simp); (try with_reducible rfl)
            try simp only [List.getElem_toArray, List.getElem_cons_succ, List.getElem_cons_zero, Act.put, List.setIfInBounds_toArray, List.set_cons_zero, List.set_cons_succ]
            refine wpAnyH_take (i := 17) (v := ?_) rfl (by kernel_rfl) (by kernel_rfl) (by kernel_rfl) (fun _ _ _ h => h) (Or.inl ⟨by rfl, ?_⟩) hHeld ?_
            rotate_left
            · intro w hSw; (try dsimp only at hSw); (try go_simp); (try with_reducible rfl)
            try simp only [List.getElem_toArray, List.getElem_cons_succ, List.getElem_cons_zero, Act.put, List.setIfInBounds_toArray, List.set_cons_zero, List.set_cons_succ]
            refine wpAnyH_done (by kernel_rfl) ?_ _
            try simp only [List.getElem_toArray, List.getElem_cons_succ, List.getElem_cons_zero, Act.put, List.setIfInBounds_toArray, List.set_cons_zero, List.set_cons_succ]
            go_wp2_with fail
            go_meet
            exact ⟨rfl, hHeld⟩
          · rw [if_pos (by rfl)]
            try simp only [List.getElem_toArray, List.getElem_cons_succ, List.getElem_cons_zero, Act.put, List.setIfInBounds_toArray, List.set_cons_zero, List.set_cons_succ]
            have hmr := made_run hmc.out
            go_wp2_with fail
            try simp only [List.getElem_toArray, List.getElem_cons_succ, List.getElem_cons_zero, Act.put, List.setIfInBounds_toArray, List.set_cons_zero, List.set_cons_succ]
            refine hK.out _ _ (hHeld) (fun hHeld => ?_)
            clear hK K
            try simp only [List.getElem_toArray, List.getElem_cons_succ, List.getElem_cons_zero, Act.put, List.setIfInBounds_toArray, List.set_cons_zero, List.set_cons_succ]
            refine wpAnyH_ready (rs := [12]) (by kernel_rfl) (by simp) ?_
            refine AllReadyH.cons rfl (fun K hK => ?_) AllReadyH.nil
            rw [if_pos (by rfl)]
            try simp only [List.getElem_toArray, List.getElem_cons_succ, List.getElem_cons_zero, Act.put, List.setIfInBounds_toArray, List.set_cons_zero, List.set_cons_succ]
            go_wp2_with (go_at_call 38; refine (HLF.out _).mono ?_; rintro e w5 ⟨rfl, hu5⟩)
            (try have hmc := Lib.hid (made_upd hmc.out hu5))
            try simp only [List.getElem_toArray, List.getElem_cons_succ, List.getElem_cons_zero, Act.put, List.setIfInBounds_toArray, List.set_cons_zero, List.set_cons_succ]
            refine hK.out _ _ (hHeld.then0 hu5) (fun hHeld => ?_)
            clear hK K
            try simp only [List.getElem_toArray, List.getElem_cons_succ, List.getElem_cons_zero, Act.put, List.setIfInBounds_toArray, List.set_cons_zero, List.set_cons_succ]
            refine wpAnyH_take (i := 15) (v := ?_) rfl (by kernel_rfl) (by kernel_rfl) (by kernel_rfl) (fun _ _ _ h => h) (Or.inl ⟨by rfl, ?_⟩) hHeld ?_
            rotate_left
            · intro w hSw; (try dsimp only at hSw); (try go_simp); (try with_reducible rfl)
            try simp only [List.getElem_toArray, List.getElem_cons_succ, List.getElem_cons_zero, Act.put, List.setIfInBounds_toArray, List.set_cons_zero, List.set_cons_succ]
            refine wpAnyH_take (i := 16) (v := ?_) rfl (by kernel_rfl) (by kernel_rfl) (by kernel_rfl) (fun _ _ _ h => h) (Or.inl ⟨by rfl, ?_⟩) hHeld ?_
            rotate_left
            · intro w hSw; (try dsimp only at hSw); (try go_simp); (try with_reducible rfl)
            try simp only [List.getElem_toArray, List.getElem_cons_succ, List.getElem_cons_zero, Act.put, List.setIfInBounds_toArray, List.set_cons_zero, List.set_cons_succ]
            refine wpAnyH_take (i := 17) (v := ?_) rfl (by kernel_rfl) (by kernel_rfl) (by kernel_rfl) (fun _ _ _ h => h) (Or.inl ⟨by rfl, ?_⟩) hHeld ?_
            rotate_left
            · intro w hSw; (try dsimp only at hSw); (try go_simp); (try with_reducible rfl)
            try simp only [List.getElem_toArray, List.getElem_cons_succ, List.getElem_cons_zero, Act.put, List.setIfInBounds_toArray, List.set_cons_zero, List.set_cons_succ]
            refine wpAnyH_done (by kernel_rfl) ?_ _
            try simp only [List.getElem_toArray, List.getElem_cons_succ, List.getElem_cons_zero, Act.put, List.setIfInBounds_toArray, List.set_cons_zero, List.set_cons_succ]
            go_wp2_with fail
            go_meet
            exact ⟨rfl, hHeld⟩
      · rw [if_pos (by rfl)]
        try simp only [List.getElem_toArray, List.getElem_cons_succ, List.getElem_cons_zero, Act.put, List.setIfInBounds_toArray, List.set_cons_zero, List.set_cons_succ]
        have hmc := Lib.hid (made_of hHeld)
        go_wp2_with fail
        try simp only [List.getElem_toArray, List.getElem_cons_succ, List.getElem_cons_zero, Act.put, List.setIfInBounds_toArray, List.set_cons_zero, List.set_cons_succ]
        refine hK.out _ _ (hHeld.alloc _) (fun hHeld => ?_)
        clear hK K
        try simp only [List.getElem_toArray, List.getElem_cons_succ, List.getElem_cons_zero, Act.put, List.setIfInBounds_toArray, List.set_cons_zero, List.set_cons_succ]
        refine wpAnyH_ready (rs := [9, 14]) (by kernel_rfl) (by simp) ?_
        refine AllReadyH.cons rfl (fun K hK => ?_) (AllReadyH.cons rfl (fun K hK => ?_) AllReadyH.nil)
        · rw [if_pos (by rfl)]
          try simp only [List.getElem_toArray, List.getElem_cons_succ, List.getElem_cons_zero, Act.put, List.setIfInBounds_toArray, List.set_cons_zero, List.set_cons_succ]
          go_wp2_with (go_at_call 37; refine (HBA.out _ (HT3.out.upd0 hHeld)).mono ?_; rintro e w5 ⟨rfl, rfl⟩)
          try simp only [List.getElem_toArray, List.getElem_cons_succ, List.getElem_cons_zero, Act.put, List.setIfInBounds_toArray, List.set_cons_zero, List.set_cons_succ]
          refine hK.out _ _ (hHeld) (fun hHeld => ?_)
          clear hK K
          try simp only [List.getElem_toArray, List.getElem_cons_succ, List.getElem_cons_zero, Act.put, List.setIfInBounds_toArray, List.set_cons_zero, List.set_cons_succ]
          refine wpAnyH_ready (rs := [12, 14]) (by kernel_rfl) (by simp) ?_
          refine AllReadyH.cons rfl (fun K hK => ?_) (AllReadyH.cons rfl (fun K hK => ?_) AllReadyH.nil)
          · rw [if_pos (by rfl)]
            try simp only [List.getElem_toArray, List.getElem_cons_succ, List.getElem_cons_zero, Act.put, List.setIfInBounds_toArray, List.set_cons_zero, List.set_cons_succ]
            go_wp2_with (go_at_call 38; refine (HLF.out _).mono ?_; rintro e w5 ⟨rfl, hu5⟩)
            (try have hmc := Lib.hid (made_upd hmc.out hu5))
            try simp only [List.getElem_toArray, List.getElem_cons_succ, List.getElem_cons_zero, Act.put, List.setIfInBounds_toArray, List.set_cons_zero, List.set_cons_succ]
            refine hK.out _ _ (hHeld.then0 hu5) (fun hHeld => ?_)
            clear hK K
            try simp only [List.getElem_toArray, List.getElem_cons_succ, List.getElem_cons_zero, Act.put, List.setIfInBounds_toArray, List.set_cons_zero, List.set_cons_succ]
            refine wpAnyH_ready (rs := [14]) (by kernel_rfl) (by simp) ?_
            refine AllReadyH.cons rfl (fun K hK => ?_) AllReadyH.nil
            rw [if_pos (by rfl)]
            try simp only [List.getElem_toArray, List.getElem_cons_succ, List.getElem_cons_zero, Act.put, List.setIfInBounds_toArray, List.set_cons_zero, List.set_cons_succ]
            have hmr := made_run hmc.out
            go_wp2_with fail
            try simp only [List.getElem_toArray, List.getElem_cons_succ, List.getElem_cons_zero, Act.put, List.setIfInBounds_toArray, List.set_cons_zero, List.set_cons_succ]
            refine hK.out _ _ (hHeld) (fun hHeld => ?_)
            clear hK K
            try simp only [List.getElem_toArray, List.getElem_cons_succ, List.getElem_cons_zero, Act.put, List.setIfInBounds_toArray, List.set_cons_zero, List.set_cons_succ]
            refine wpAnyH_take (i := 15) (v := ?_) rfl (by kernel_rfl) (by kernel_rfl) (by kernel_rfl) (fun _ _ _ h => h) (Or.inl ⟨by rfl, ?_⟩) hHeld ?_
            rotate_left
            · intro w hSw; (try dsimp only at hSw); (try go_simp); (try with_reducible rfl)
            try simp only [List.getElem_toArray, List.getElem_cons_succ, List.getElem_cons_zero, Act.put, List.setIfInBounds_toArray, List.set_cons_zero, List.set_cons_succ]
            refine wpAnyH_take (i := 16) (v := ?_) rfl (by kernel_rfl) (by kernel_rfl) (by kernel_rfl) (fun _ _ _ h => h) (Or.inl ⟨by rfl, ?_⟩) hHeld ?_
            rotate_left
            · intro w hSw; (try dsimp only at hSw); (try go_simp); (try with_reducible rfl)
            try simp only [List.getElem_toArray, List.getElem_cons_succ, List.getElem_cons_zero, Act.put, List.setIfInBounds_toArray, List.set_cons_zero, List.set_cons_succ]
            refine wpAnyH_take (i := 17) (v := ?_) rfl (by kernel_rfl) (by kernel_rfl) (by kernel_rfl) (fun _ _ _ h => h) (Or.inl ⟨by rfl, ?_⟩) hHeld ?_
            rotate_left
            · intro w hSw; (try dsimp only at hSw); (try go_simp); (try with_reducible rfl)
            try simp only [List.getElem_toArray, List.getElem_cons_succ, List.getElem_cons_zero, Act.put, List.setIfInBounds_toArray, List.set_cons_zero, List.set_cons_succ]
            refine wpAnyH_done (by kernel_rfl) ?_ _
            try simp only [List.getElem_toArray, List.getElem_cons_succ, List.getElem_cons_zero, Act.put, List.setIfInBounds_toArray, List.set_cons_zero, List.set_cons_succ]
            go_wp2_with fail
            go_meet
            exact ⟨rfl, hHeld⟩
          · rw [if_pos (by rfl)]
            try simp only [List.getElem_toArray, List.getElem_cons_succ, List.getElem_cons_zero, Act.put, List.setIfInBounds_toArray, List.set_cons_zero, List.set_cons_succ]
            have hmr := made_run hmc.out
            go_wp2_with fail
            try simp only [List.getElem_toArray, List.getElem_cons_succ, List.getElem_cons_zero, Act.put, List.setIfInBounds_toArray, List.set_cons_zero, List.set_cons_succ]
            refine hK.out _ _ (hHeld) (fun hHeld => ?_)
            clear hK K
            try simp only [List.getElem_toArray, List.getElem_cons_succ, List.getElem_cons_zero, Act.put, List.setIfInBounds_toArray, List.set_cons_zero, List.set_cons_succ]
            refine wpAnyH_ready (rs := [12]) (by kernel_rfl) (by simp) ?_
            refine AllReadyH.cons rfl (fun K hK => ?_) AllReadyH.nil
            rw [if_pos (by rfl)]
            try simp only [List.getElem_toArray, List.getElem_cons_succ, List.getElem_cons_zero, Act.put, List.setIfInBounds_toArray, List.set_cons_zero, List.set_cons_succ]
            go_wp2_with (go_at_call 38; refine (HLF.out _).mono ?_; rintro e w5 ⟨rfl, hu5⟩)
            (try have hmc := Lib.hid (made_upd hmc.out hu5))
            try simp only [List.getElem_toArray, List.getElem_cons_succ, List.getElem_cons_zero, Act.put, List.setIfInBounds_toArray, List.set_cons_zero, List.set_cons_succ]
            refine hK.out _ _ (hHeld.then0 hu5) (fun hHeld => ?_)
            clear hK K
            try simp only [List.getElem_toArray, List.getElem_cons_succ, List.getElem_cons_zero, Act.put, List.setIfInBounds_toArray, List.set_cons_zero, List.set_cons_succ]
            refine wpAnyH_take (i := 15) (v := ?_) rfl (by kernel_rfl) (by kernel_rfl) (by kernel_rfl) (fun _ _ _ h => h) (Or.inl ⟨by rfl, ?_⟩) hHeld ?_
            rotate_left
            · intro w hSw; (try dsimp only at hSw); (try go_simp); (try with_reducible rfl)
            try simp only [List.getElem_toArray, List.getElem_cons_succ, List.getElem_cons_zero, Act.put, List.setIfInBounds_toArray, List.set_cons_zero, List.set_cons_succ]
            refine wpAnyH_take (i := 16) (v := ?_) rfl (by kernel_rfl) (by kernel_rfl) (by kernel_rfl) (fun _ _ _ h => h) (Or.inl ⟨by rfl, ?_⟩) hHeld ?_
            rotate_left
            · intro w hSw; (try dsimp only at hSw); (try go_simp); (try with_reducible rfl)
            try simp only [List.getElem_toArray, List.getElem_cons_succ, List.getElem_cons_zero, Act.put, List.setIfInBounds_toArray, List.set_cons_zero, List.set_cons_succ]
            refine wpAnyH_take (i := 17) (v := ?_) rfl (by kernel_rfl) (by kernel_rfl) (by kernel_rfl) (fun _ _ _ h => h) (Or.inl ⟨by rfl, ?_⟩) hHeld ?_
            rotate_left
            · intro w hSw; (try dsimp only at hSw); (try go_simp); (try with_reducible rfl)
            try simp only [List.getElem_toArray, List.getElem_cons_succ, List.getElem_cons_zero, Act.put, List.setIfInBounds_toArray, List.set_cons_zero, List.set_cons_succ]
            refine wpAnyH_done (by kernel_rfl) ?_ _
            try simp only [List.getElem_toArray, List.getElem_cons_succ, List.getElem_cons_zero, Act.put, List.setIfInBounds_toArray, List.set_cons_zero, List.set_cons_succ]
            go_wp2_with fail
            go_meet
            exact ⟨rfl, hHeld⟩
        · rw [if_pos (by rfl)]
          try simp only [List.getElem_toArray, List.getElem_cons_succ, List.getElem_cons_zero, Act.put, List.setIfInBounds_toArray, List.set_cons_zero, List.set_cons_succ]
          have hmr := made_run hmc.out
          go_wp2_with fail
          try simp only [List.getElem_toArray, List.getElem_cons_succ, List.getElem_cons_zero, Act.put, List.setIfInBounds_toArray, List.set_cons_zero, List.set_cons_succ]
          refine hK.out _ _ (hHeld) (fun hHeld => ?_)
          clear hK K
          try simp only [List.getElem_toArray, List.getElem_cons_succ, List.getElem_cons_zero, Act.put, List.setIfInBounds_toArray, List.set_cons_zero, List.set_cons_succ]
          refine wpAnyH_ready (rs := [9]) (by kernel_rfl) (by simp) ?_
          refine AllReadyH.cons rfl (fun K hK => ?_) AllReadyH.nil
          rw [if_pos (by rfl)]
          try simp only [List.getElem_toArray, List.getElem_cons_succ, List.getElem_cons_zero, Act.put, List.setIfInBounds_toArray, List.set_cons_zero, List.set_cons_succ]
          go_wp2_with (go_at_call 37; refine (HBA.out _ (HT3.out.upd0 hHeld)).mono ?_; rintro e w5 ⟨rfl, rfl⟩)
          try simp only [List.getElem_toArray, List.getElem_cons_succ, List.getElem_cons_zero, Act.put, List.setIfInBounds_toArray, List.set_cons_zero, List.set_cons_succ]
          refine hK.out _ _ (hHeld) (fun hHeld => ?_)
          clear hK K
          try simp only [List.getElem_toArray, List.getElem_cons_succ, List.getElem_cons_zero, Act.put, List.setIfInBounds_toArray, List.set_cons_zero, List.set_cons_succ]
          refine wpAnyH_ready (rs := [12]) (by kernel_rfl) (by simp) ?_
          refine AllReadyH.cons rfl (fun K hK => ?_) AllReadyH.nil
          rw [if_pos (by rfl)]
          try simp only [List.getElem_toArray, List.getElem_cons_succ, List.getElem_cons_zero, Act.put, List.setIfInBounds_toArray, List.set_cons_zero, List.set_cons_succ]
          go_wp2_with (go_at_call 38; refine (HLF.out _).mono ?_; rintro e w5 ⟨rfl, hu5⟩)
          (try have hmc := Lib.hid (made_upd hmc.out hu5))
          try simp only [List.getElem_toArray, List.getElem_cons_succ, List.getElem_cons_zero, Act.put, List.setIfInBounds_toArray, List.set_cons_zero, List.set_cons_succ]
          refine hK.out _ _ (hHeld.then0 hu5) (fun hHeld => ?_)
          clear hK K
          try simp only [List.getElem_toArray, List.getElem_cons_succ, List.getElem_cons_zero, Act.put, List.setIfInBounds_toArray, List.set_cons_zero, List.set_cons_succ]
          refine wpAnyH_take (i := 15) (v := ?_) rfl (by kernel_rfl) (by kernel_rfl) (by kernel_rfl) (fun _ _ _ h => h) (Or.inl ⟨by rfl, ?_⟩) hHeld ?_
          rotate_left
          · intro w hSw; (try dsimp only at hSw); (try go_simp); (try with_reducible rfl)
          try simp only [List.getElem_toArray, List.getElem_cons_succ, List.getElem_cons_zero, Act.put, List.setIfInBounds_toArray, List.set_cons_zero, List.set_cons_succ]
          refine wpAnyH_take (i := 16) (v := ?_) rfl (by kernel_rfl) (by kernel_rfl) (by kernel_rfl) (fun _ _ _ h => h) (Or.inl ⟨by rfl, ?_⟩) hHeld ?_
          rotate_left
          · intro w hSw; (try dsimp only at hSw); (try go_simp); (try with_reducible rfl)
          try simp only [List.getElem_toArray, List.getElem_cons_succ, List.getElem_cons_zero, Act.put, List.setIfInBounds_toArray, List.set_cons_zero, List.set_cons_succ]
          refine wpAnyH_take (i := 17) (v := ?_) rfl (by kernel_rfl) (by kernel_rfl) (by kernel_rfl) (fun _ _ _ h => h) (Or.inl ⟨by rfl, ?_⟩) hHeld ?_
          rotate_left
          · intro w hSw; (try dsimp only at hSw); (try go_simp); (try with_reducible rfl)
          try simp only [List.getElem_toArray, List.getElem_cons_succ, List.getElem_cons_zero, Act.put, List.setIfInBounds_toArray, List.set_cons_zero, List.set_cons_succ]
          refine wpAnyH_done (by kernel_rfl) ?_ _
          try simp only [List.getElem_toArray, List.getElem_cons_succ, List.getElem_cons_zero, Act.put, List.setIfInBounds_toArray, List.set_cons_zero, List.set_cons_succ]
          go_wp2_with fail
          go_meet
          exact ⟨rfl, hHeld⟩
    obtain ⟨rfl, hu58⟩ := hcut
    go_upto_region 10 with fail
    have HU8 := Lib.hid (HUV.out.then0 hu58.out)
  all_goals
    have HXA := Lib.hid (range_upd HR.out.rng HU8.out (fun x => x))
    have HT8 := Lib.hid (HT.out.upd0 HU8.out)
    have HUW := Lib.hid (HU.out.then0 HU8.out)
    have HB8 := Lib.hid (bytesIn_upd0 HBY.out HUW.out)
    have HIY := Lib.hid (show (Try.prog.info? 57).map (·.size) = some (nums Y).size by rw [nums_size, HYL.out]; exact info57)
    have HIY2 := Lib.hid (show (Try.prog.info? 57).map (·.size) = some (numL Y).length by rw [numL_length, HYL.out]; exact info57)
    have HOY := Lib.hid (nums_one Y)
    have HTY := Lib.hid (fun (W : World) => (show (W.alloc (.cells Try.zeroCells57 57)).there W.heap.size 0 (nums Y).size by rw [nums_size, HYL.out]; exact (arr_new W).there))
    clear HU8 HR HT HU
    go_upto_region 11 with (first | (refine wpList_load_mid rfl 57 _ rfl a 0 rfl (numL X) _ HXA.out Try.underlying57 rfl HIL.out ?_) | (go_at_call 39; refine (HLR.out _ HB8.out).mono ?_; rintro e w9 ⟨rfl, hu9⟩) | (refine wpList_store_mid rfl 57 _ _ rfl _ 0 _ rfl rfl ?_ ?_ ?_ ?_; exact HTY.out _; exact HIY.out; exact HOY.out))
    obtain ⟨c, hc⟩ : ∃ c, c = w9.heap.size := ⟨_, rfl⟩
    obtain ⟨W11, hW11⟩ : ∃ W, W = (w9.alloc (.cells Try.zeroCells57 57)).setCells c 0 (nums Y).toList := ⟨_, rfl⟩
    have hrc : RowAt W11 c Y := by
      have := (ArrAt.row (arr_new w9)).stored (Y := Y) HYL.out
      rw [hW11, hc, numL_eq]; exact this
    have hu11 : Upd noB w9 W11 := by
      rw [hW11]
      exact upd_setCells _ 0 _ ((Upd.refl _ _).alloc _) (.inr (by omega))
    rw [← hc, ← hW11]
    have HT11 := Lib.hid ((HT8.out.upd0 hu9).upd0 hu11)
    have HB11 := Lib.hid (bytesIn_upd0 (bytesIn_upd0 HB8.out hu9) hu11)
    have HUW11 := Lib.hid ((HUW.out.then0 hu9).then0 hu11)
    have HRC := Lib.hid hrc
    have hpc : p < c := by have := (HT8.out.upd0 hu9).plt; omega
    clear hW11 hc hrc hu11 hu9 HT8 HB8 HUW HXA HTY HIY HOY HIL
    go_wp2_with (first | (go_at_call 40; refine (HLT.out _ HT11.out HB11.out).mono ?_; rintro e w12 ⟨rfl, ht12, hu12⟩) | (refine wpList_load_wanted rfl 57 _ rfl c 0 rfl (numL Y) _ (range_upd HRC.out.rng hu12 (by show ¬ _ = _; omega)) Try.underlying57 rfl HIY2.out ?_) | (go_at_call 27; refine (same07_at ht12 HYT.out).mono ?_; rintro e w13 ⟨rfl, hu13⟩) | (go_at_call 30; refine (HLV.out _).mono ?_; rintro e w14 ⟨rfl, hu14⟩))
    go_ret
    exact ⟨rfl, ((HUW11.out.trans hu12 (fun k e => by cases e; exact .inr hp1)).then0 hu13).then0 hu14⟩
end Go.Proofs.Ytejpcgoblgaieaa.TableLeaves
