/-
  hibernaclelaw07.TableBack: walked once: for all two rows of steps it returns true.
-/
import Derived.Test.YtejpcgoblgaieaaLives07
import Derived.Test.YtejpcgoblgaieaaMade07
import Derived.Test.YtejpcgoblgaieaaBackPlain
set_option linter.unusedVariables false
set_option linter.unusedSimpArgs false
namespace Go.Proofs.Ytejpcgoblgaieaa.TableBack
open Go.RowKit Go.Proofs.Ytejpcgoblgaieaa Go.Proofs.Ytejpcgoblgaieaa.Law07
set_option maxRecDepth 100000 in
set_option maxHeartbeats 8000000 in
theorem walk (A : Option Addr) (cp len : Nat) (A2 : Option Addr) (cp2 len2 : Nat) (w : World) (hlen : len ≤ 9223372036854775807) (hA : OpsIn w A len) (hlen2 : len2 ≤ 9223372036854775807) (hA2 : OpsIn w A2 len2) :
    Calls Try.prog 9 #[.slice A len cp, .slice A2 len2 cp2] w fun e w' => e = .returned (.bool true) ∧ Upd noB w w' := by
  have HM := Lib.hid (made07_at A cp len hlen hA)
  have HO2 := Lib.hid hA2
  have HL2 := Lib.hid hlen2
  clear hA hA2 hlen hlen2
  have HN := Lib.hid nums_one
  have HI := Lib.hid (fun (X : List Int) (h : X.length = 512) => (show (Try.prog.info? 57).map (·.size) = some (nums X).size by rw [nums_size, h]; exact info57))
  have HTH := Lib.hid (fun (W : World) (X : List Int) (h : X.length = 512) => (show (W.alloc (.cells Try.zeroCells57 57)).there W.heap.size 0 (nums X).size by rw [nums_size, h]; exact (arr_new W).there))
  go_enter Try.func9, Try.ntmps9
  go_upto_region 1 with fail
  go_upto_region 2 with (first | (go_at_call 26; refine HM.out.mono ?_; rintro e w1 ⟨p, X, rfl, hX, ht1, hu1, hp1⟩; have hl1 := Lib.hid ht1.len) | (refine wpList_store_mid rfl 57 _ _ rfl _ 0 _ rfl rfl ?_ ?_ ?_ ?_; exact HTH.out _ _ hl1.out; exact HI.out _ hl1.out; exact HN.out _))
  obtain ⟨W2, hW2⟩ : ∃ W, W = (w1.alloc (.cells Try.zeroCells57 57)).setCells w1.heap.size 0 (nums X).toList := ⟨_, rfl⟩
  have hu2 : Upd noB w1 W2 := by
    rw [hW2]
    exact upd_setCells _ 0 _ ((Upd.refl _ _).alloc _) (.inr (by omega))
  obtain ⟨a, ha⟩ : ∃ a, a = w1.heap.size := ⟨_, rfl⟩
  rw [← hW2, ← ha]
  have HT := Lib.hid (ht1.upd0 hu2)
  have HU := Lib.hid (hu1.then0 hu2)
  have HM2 := Lib.hid (made07_at (w := W2) A2 cp2 len2 HL2.out (HO2.out.upd0 HU.out))
  clear hW2 ha hu1 hu2 ht1 HM HO2 HL2
  go_upto_region 3 with (first | (go_at_call 26; refine HM2.out.mono ?_; rintro e w3 ⟨q, Y, rfl, hY, ht3, hu3, hp3⟩; have hl3 := Lib.hid ht3.len) | (refine wpList_store_mid rfl 57 _ _ rfl _ 0 _ rfl rfl ?_ ?_ ?_ ?_; exact HTH.out _ _ hl3.out; exact HI.out _ hl3.out; exact HN.out _))
  obtain ⟨W4, hW4⟩ : ∃ W, W = (w3.alloc (.cells Try.zeroCells57 57)).setCells w3.heap.size 0 (nums Y).toList := ⟨_, rfl⟩
  have hu4 : Upd noB w3 W4 := by
    rw [hW4]
    exact upd_setCells _ 0 _ ((Upd.refl _ _).alloc _) (.inr (by omega))
  obtain ⟨a2, ha2⟩ : ∃ a, a = w3.heap.size := ⟨_, rfl⟩
  rw [← hW4, ← ha2]
  have HTX := Lib.hid ((HT.out.upd0 hu3).upd0 hu4)
  have HTY := Lib.hid (ht3.upd0 hu4)
  have HU4 := Lib.hid ((HU.out.then0 hu3).then0 hu4)
  clear hW4 ha2 hu3 hu4 ht3 HM2 HT HU HTH HI HN
  go_upto_region 4 with (go_at_call 41; refine tnew_at.mono ?_; rintro e W5 ⟨r, rfl, htr, hu5, hr5⟩)
  have hpr : p ≠ r := by have := HTX.out.plt; omega
  have hqr : q ≠ r := by have := HTY.out.plt; omega
  have hwr : w.heap.size ≤ r := by have := HU4.out.size; omega
  have HX5 := Lib.hid (HTX.out.upd0 hu5)
  have HY5 := Lib.hid (HTY.out.upd0 hu5)
  have HU5 := Lib.hid (HU4.out.then0 hu5)
  have hz : (List.replicate 512 (0 : Int)).length = 512 := List.length_replicate
  obtain ⟨Z, hZ⟩ : ∃ Z : List Int, Z = List.replicate 512 0 := ⟨_, rfl⟩
  rw [← hZ] at htr hz
  have hZt : Told Z := by rw [hZ]; exact told_0
  have HR5 := Lib.hid htr
  have HZ := Lib.hid hz
  clear hZ htr hu5 hz HTX HTY HU4
  go_wp2
  go_loopw [12] (fun t wr => ∃ k : Nat, t = .int .i64 (k : Int) ∧ k ≤ 4 ∧ Hid (TabAt wr r (mix Z X k)) ∧ Hid (Upd (oneB r) W5 wr)) (fun t _ => 4 - (intOf t).toNat)
  case atStart => exact ⟨0, rfl, by omega, by rw [mix_0]; exact HR5.out, Upd.refl _ _⟩
  case round =>
    obtain ⟨k, rfl, hk, htk, huk⟩ := hrel
    have HXk := Lib.hid (HX5.out.upd huk.out hpr)
    have HYk := Lib.hid (HY5.out.upd huk.out hqr)
    have HUk := Lib.hid (HU5.out.trans huk.out (fun i e => by cases e; exact .inr hwr))
    by_cases hlt : k < 4
    · have hd : decide ((k : Int) < 4) = true := by simp; omega
      have hE := Lib.hid (load_leaf hX k hlt)
      have hLM := Lib.hid (load_mix hX HZ.out hl1.out k hlt)
      go_wp2_with (go_at_call 36; refine (tleaf_at HXk.out hX k hlt).mono ?_; rintro e w6 ⟨v6, rfl, hr6, hu6, hn6⟩)
      obtain ⟨A6, c6, rfl, hc6, hb6⟩ := row_bytes hr6
      have hlo := tload_at (htk.out.upd0 hu6) k hlt A6 c6 (leafB X k 128) (leafB_bytes hX k 128) (by rw [leafB_length]; omega) hc6 hb6
      rw [hE.out, hLM.out] at hlo
      have HLO := Lib.hid hlo
      clear hlo hr6 hn6 hc6 hb6 hE hLM
      go_wp2_with (go_at_call 40; refine HLO.out.mono ?_; rintro e w7 ⟨rfl, ht7, hu7⟩)
      go_roundw
      case rel => exact ⟨k + 1, by go_num, by omega, ht7, (huk.out.then0 hu6).then hu7⟩
      case measure => simp [intOf]; omega
    · have hd : decide ((k : Int) < 4) = false := by simp; omega
      obtain rfl : k = 4 := by omega
      have htk2 := htk.out
      rw [mix_4 HZ.out hl1.out] at htk2
      have HRk := Lib.hid htk2
      clear htk2 htk huk HZ HR5 HU5 HX5 HY5
      have HC1 := Lib.hid (chg_none (differ_self X) 4)
      have HC0 := Lib.hid (fun (W : World) (h : TabAt W r X) (h' : TabAt W p X) => tchanged_at h h')
      have HC2 := Lib.hid (fun (W : World) (h : TabAt W p X) (h' : TabAt W r X) => tchanged_at h h')
      go_wp2_with fail
      refine (HC0.out _ HRk.out HXk.out).mono ?_
      rintro e w6 ⟨v6, rfl, hr6, hu6, hn6⟩
      rw [HC1.out] at hr6
      obtain ⟨A6, c6, rfl, -⟩ := hr6.form
      have HR6 := Lib.hid (HRk.out.upd0 hu6)
      have HX6 := Lib.hid (HXk.out.upd0 hu6)
      have HY6 := Lib.hid (HYk.out.upd0 hu6)
      have HU6 := Lib.hid (HUk.out.then0 hu6)
      simp only [List.length_nil]
      clear hr6 hn6 hu6 HRk HXk HYk HUk
      go_wp2_with fail
      refine (HC2.out _ HX6.out HR6.out).mono ?_
      rintro e w7 ⟨v7, rfl, hr7, hu7, hn7⟩
      rw [HC1.out] at hr7
      obtain ⟨A7, c7, rfl, -⟩ := hr7.form
      have HR7 := Lib.hid (HR6.out.upd0 hu7)
      have HX7 := Lib.hid (HX6.out.upd0 hu7)
      have HY7 := Lib.hid (HY6.out.upd0 hu7)
      have HU7 := Lib.hid (HU6.out.then0 hu7)
      simp only [List.length_nil]
      clear hr7 hn7 hu7 HR6 HX6 HY6 HU6
      go_wp2_with fail
      refine (tlen_at HR7.out hX).mono ?_
      rintro e w8 ⟨rfl, hu8⟩
      have HX8 := Lib.hid (HX7.out.upd0 hu8)
      go_wp2_with fail
      refine (tlen_at HX8.out hX).mono ?_
      rintro e w9 ⟨rfl, hu9⟩
      have HR9 := Lib.hid ((HR7.out.upd0 hu8).upd0 hu9)
      have HX9 := Lib.hid (HX8.out.upd0 hu9)
      have HY9 := Lib.hid ((HY7.out.upd0 hu8).upd0 hu9)
      have HU9 := Lib.hid ((HU7.out.then0 hu8).then0 hu9)
      clear hu8 hu9 HR7 HX7 HY7 HU7 HX8
      go_wp2_with fail
      refine (tchanged_at HX9.out HY9.out).mono ?_
      rintro e w10 ⟨vc, rfl, hrc, hu10, hnc⟩
      have HR10 := Lib.hid (HR9.out.upd0 hu10)
      have HX10 := Lib.hid (HX9.out.upd0 hu10)
      have HY10 := Lib.hid (HY9.out.upd0 hu10)
      have HU10 := Lib.hid (HU9.out.then0 hu10)
      have hrlt := HR9.out.plt
      have HRC := Lib.hid hrc
      have HNC := Lib.hid (fun (k : Nat) (hk : vc.ownBlock = some k) => (show ¬ oneB r k by intro hh; have := hnc k hk; unfold oneB at hh; omega))
      obtain ⟨Ac, cc, rfl, hlc, hmc, hcc⟩ := hrc.form
      obtain ⟨n4, hn4⟩ : ∃ n, (chg (differ X Y) 4).length = n := ⟨_, rfl⟩
      rw [hn4] at hlc
      simp only [hn4]
      have HN4 := Lib.hid hn4
      have HLC := Lib.hid hlc
      have HMC := Lib.hid hmc
      have HCC := Lib.hid hcc
      clear hrc hu10 hnc hn4 hlc hmc hcc HR9 HX9 HY9 HU9 HC0 HC1 HC2 hk hlt hd
      go_wp2
      go_loopw [14, 15] (fun nn t wr => ∃ k : Nat, t = .int .i64 (k : Int) ∧ k ≤ 4 ∧ nn = .int .i64 ((chg (differ X Y) k).length : Int) ∧ Hid (TabAt wr r (mix X Y k)) ∧ Hid (Upd (oneB r) w10 wr)) (fun _ t _ => 4 - (intOf t).toNat)
      case atStart => exact ⟨0, rfl, by omega, rfl, by rw [mix_0]; exact HR10.out, Upd.refl _ _⟩
      case round =>
        obtain ⟨k, rfl, hk, rfl, htk, huk⟩ := hrel
        have HXk := Lib.hid (HX10.out.upd huk.out hpr)
        have HYk := Lib.hid (HY10.out.upd huk.out hqr)
        have HUk := Lib.hid (HU10.out.trans huk.out (fun i e => by cases e; exact .inr hwr))
        by_cases hlt : k < 4
        · have hd : decide ((k : Int) < 4) = true := by simp; omega
          have hls := leaf_strs hX hY hl1.out hl3.out k hlt
          have hdf : differ X Y k = !decide (leafN X k = leafN Y k) := rfl
          have hsk := mix_skip hl1.out hl3.out k hlt
          have HLF := Lib.hid (fun (W : World) (h : TabAt W p X) => tleaf_at h hX k hlt)
          have HLG := Lib.hid (fun (W : World) (h : TabAt W q Y) => tleaf_at h hY k hlt)
          obtain ⟨d, hdd⟩ : ∃ d, decide (leafN X k = leafN Y k) = d := ⟨_, rfl⟩
          rw [hdd] at hls hdf
          have HSK := Lib.hid (fun (h : d = true) => hsk (by rw [← hdd] at h; simpa using h))
          have HDF := Lib.hid hdf
          clear hdf hsk hdd
          go_upto_region 16 with fail
          go_cut [74] (fun v W => v = .bool d ∧ Hid (Upd noB wr W))
          case first =>
            refine wp_region_held_drew (S := (fun w' => Upd noB wr w')) (by kernel_rfl) ((Upd.refl _ _).drew) (fun hHeld => ?_)
            refine wpAnyH_take (i := 0) (v := ?_) rfl (by kernel_rfl) (by kernel_rfl) (by kernel_rfl) (fun _ _ _ h => h) (Or.inl ⟨by rfl, ?_⟩) hHeld ?_
            rotate_left
            · intro w hSw; (try dsimp only at hSw); (try go_simp); (try with_reducible rfl)
            try simp only [List.getElem_toArray, List.getElem_cons_succ, List.getElem_cons_zero, Act.put, List.setIfInBounds_toArray, List.set_cons_zero, List.set_cons_succ]
            refine wpAnyH_take (i := 1) (v := ?_) rfl (by kernel_rfl) (by kernel_rfl) (by kernel_rfl) (fun _ _ _ h => h) (Or.inl ⟨by rfl, ?_⟩) hHeld ?_
            rotate_left
            · intro w hSw; (try dsimp only at hSw); (try go_simp); (try with_reducible rfl)
            try simp only [List.getElem_toArray, List.getElem_cons_succ, List.getElem_cons_zero, Act.put, List.setIfInBounds_toArray, List.set_cons_zero, List.set_cons_succ]
            refine wpAnyH_take (i := 4) (v := ?_) rfl (by kernel_rfl) (by kernel_rfl) (by kernel_rfl) (fun _ _ _ h => h) (Or.inl ⟨by rfl, ?_⟩) hHeld ?_
            rotate_left
            · intro w hSw; (try dsimp only at hSw); (try go_simp); (try with_reducible rfl)
            try simp only [List.getElem_toArray, List.getElem_cons_succ, List.getElem_cons_zero, Act.put, List.setIfInBounds_toArray, List.set_cons_zero, List.set_cons_succ]
            refine wpAnyH_take (i := 5) (v := ?_) rfl (by kernel_rfl) (by kernel_rfl) (by kernel_rfl) (fun _ _ _ h => h) (Or.inl ⟨by rfl, ?_⟩) hHeld ?_
            rotate_left
            · intro w hSw; (try dsimp only at hSw); (try go_simp); (try with_reducible rfl)
            try simp only [List.getElem_toArray, List.getElem_cons_succ, List.getElem_cons_zero, Act.put, List.setIfInBounds_toArray, List.set_cons_zero, List.set_cons_succ]
            refine wpAnyH_ready (rs := [2]) (by kernel_rfl) (by simp) ?_
            refine AllReadyH.cons rfl (fun K hK => ?_) AllReadyH.nil
            rw [if_pos (by rfl)]
            try simp only [List.getElem_toArray, List.getElem_cons_succ, List.getElem_cons_zero, Act.put, List.setIfInBounds_toArray, List.set_cons_zero, List.set_cons_succ]
            go_wp2_with fail
            refine (HLF.out _ (HXk.out.upd0 hHeld)).mono ?_
            rintro e w12 ⟨v12, rfl, hr12, hu12, hn12⟩
            have hc1 := Lib.hid (conv_of hr12 (by rw [leafB_length]; omega))
            clear hr12 hn12
            try simp only [List.getElem_toArray, List.getElem_cons_succ, List.getElem_cons_zero, Act.put, List.setIfInBounds_toArray, List.set_cons_zero, List.set_cons_succ]
            refine hK.out _ _ (hHeld.then0 hu12) (fun hHeld => ?_)
            clear hK K
            try simp only [List.getElem_toArray, List.getElem_cons_succ, List.getElem_cons_zero, Act.put, List.setIfInBounds_toArray, List.set_cons_zero, List.set_cons_succ]
            refine wpAnyH_ready (rs := [3, 6]) (by kernel_rfl) (by simp) ?_
            refine AllReadyH.cons rfl (fun K hK => ?_) (AllReadyH.cons rfl (fun K hK => ?_) AllReadyH.nil)
            · rw [if_pos (by rfl)]
              try simp only [List.getElem_toArray, List.getElem_cons_succ, List.getElem_cons_zero, Act.put, List.setIfInBounds_toArray, List.set_cons_zero, List.set_cons_succ]
              have h1 := hc1.out.run
              go_wp2_with fail
              try simp only [List.getElem_toArray, List.getElem_cons_succ, List.getElem_cons_zero, Act.put, List.setIfInBounds_toArray, List.set_cons_zero, List.set_cons_succ]
              refine hK.out _ _ (hHeld) (fun hHeld => ?_)
              clear hK K
              try simp only [List.getElem_toArray, List.getElem_cons_succ, List.getElem_cons_zero, Act.put, List.setIfInBounds_toArray, List.set_cons_zero, List.set_cons_succ]
              refine wpAnyH_ready (rs := [6]) (by kernel_rfl) (by simp) ?_
              refine AllReadyH.cons rfl (fun K hK => ?_) AllReadyH.nil
              rw [if_pos (by rfl)]
              try simp only [List.getElem_toArray, List.getElem_cons_succ, List.getElem_cons_zero, Act.put, List.setIfInBounds_toArray, List.set_cons_zero, List.set_cons_succ]
              go_wp2_with fail
              refine (HLG.out _ (HYk.out.upd0 hHeld)).mono ?_
              rintro e w13 ⟨v13, rfl, hr13, hu13, hn13⟩
              have hc2 := Lib.hid (conv_of hr13 (by rw [leafB_length]; omega))
              have hc1 := Lib.hid (hc1.out.upd hu13)
              clear hr13 hn13
              try simp only [List.getElem_toArray, List.getElem_cons_succ, List.getElem_cons_zero, Act.put, List.setIfInBounds_toArray, List.set_cons_zero, List.set_cons_succ]
              refine hK.out _ _ (hHeld.then0 hu13) (fun hHeld => ?_)
              clear hK K
              try simp only [List.getElem_toArray, List.getElem_cons_succ, List.getElem_cons_zero, Act.put, List.setIfInBounds_toArray, List.set_cons_zero, List.set_cons_succ]
              refine wpAnyH_ready (rs := [7]) (by kernel_rfl) (by simp) ?_
              refine AllReadyH.cons rfl (fun K hK => ?_) AllReadyH.nil
              rw [if_pos (by rfl)]
              try simp only [List.getElem_toArray, List.getElem_cons_succ, List.getElem_cons_zero, Act.put, List.setIfInBounds_toArray, List.set_cons_zero, List.set_cons_succ]
              have h2 := hc2.out.run
              go_wp2_with fail
              try simp only [List.getElem_toArray, List.getElem_cons_succ, List.getElem_cons_zero, Act.put, List.setIfInBounds_toArray, List.set_cons_zero, List.set_cons_succ]
              refine hK.out _ _ (hHeld) (fun hHeld => ?_)
              clear hK K
              try simp only [List.getElem_toArray, List.getElem_cons_succ, List.getElem_cons_zero, Act.put, List.setIfInBounds_toArray, List.set_cons_zero, List.set_cons_succ]
              refine wpAnyH_take (i := 8) (v := ?_) rfl (by kernel_rfl) (by kernel_rfl) (by kernel_rfl) (fun _ _ _ h => h) (Or.inl ⟨by rfl, ?_⟩) hHeld ?_
              rotate_left
              · intro w hSw; (try dsimp only at hSw); (try go_simp); (try with_reducible rfl)
              try simp only [List.getElem_toArray, List.getElem_cons_succ, List.getElem_cons_zero, Act.put, List.setIfInBounds_toArray, List.set_cons_zero, List.set_cons_succ]
              refine wpAnyH_done (by kernel_rfl) ?_ _
              try simp only [List.getElem_toArray, List.getElem_cons_succ, List.getElem_cons_zero, Act.put, List.setIfInBounds_toArray, List.set_cons_zero, List.set_cons_succ]
              go_wp2_with fail
              go_meet
              exact ⟨rfl, hHeld⟩
            · rw [if_pos (by rfl)]
              try simp only [List.getElem_toArray, List.getElem_cons_succ, List.getElem_cons_zero, Act.put, List.setIfInBounds_toArray, List.set_cons_zero, List.set_cons_succ]
              go_wp2_with fail
              refine (HLG.out _ (HYk.out.upd0 hHeld)).mono ?_
              rintro e w13 ⟨v13, rfl, hr13, hu13, hn13⟩
              have hc2 := Lib.hid (conv_of hr13 (by rw [leafB_length]; omega))
              have hc1 := Lib.hid (hc1.out.upd hu13)
              clear hr13 hn13
              try simp only [List.getElem_toArray, List.getElem_cons_succ, List.getElem_cons_zero, Act.put, List.setIfInBounds_toArray, List.set_cons_zero, List.set_cons_succ]
              refine hK.out _ _ (hHeld.then0 hu13) (fun hHeld => ?_)
              clear hK K
              try simp only [List.getElem_toArray, List.getElem_cons_succ, List.getElem_cons_zero, Act.put, List.setIfInBounds_toArray, List.set_cons_zero, List.set_cons_succ]
              refine wpAnyH_ready (rs := [3, 7]) (by kernel_rfl) (by simp) ?_
              refine AllReadyH.cons rfl (fun K hK => ?_) (AllReadyH.cons rfl (fun K hK => ?_) AllReadyH.nil)
              · rw [if_pos (by rfl)]
                try simp only [List.getElem_toArray, List.getElem_cons_succ, List.getElem_cons_zero, Act.put, List.setIfInBounds_toArray, List.set_cons_zero, List.set_cons_succ]
                have h1 := hc1.out.run
                go_wp2_with fail
                try simp only [List.getElem_toArray, List.getElem_cons_succ, List.getElem_cons_zero, Act.put, List.setIfInBounds_toArray, List.set_cons_zero, List.set_cons_succ]
                refine hK.out _ _ (hHeld) (fun hHeld => ?_)
                clear hK K
                try simp only [List.getElem_toArray, List.getElem_cons_succ, List.getElem_cons_zero, Act.put, List.setIfInBounds_toArray, List.set_cons_zero, List.set_cons_succ]
                refine wpAnyH_ready (rs := [7]) (by kernel_rfl) (by simp) ?_
                refine AllReadyH.cons rfl (fun K hK => ?_) AllReadyH.nil
                rw [if_pos (by rfl)]
                try simp only [List.getElem_toArray, List.getElem_cons_succ, List.getElem_cons_zero, Act.put, List.setIfInBounds_toArray, List.set_cons_zero, List.set_cons_succ]
                have h2 := hc2.out.run
                go_wp2_with fail
                try simp only [List.getElem_toArray, List.getElem_cons_succ, List.getElem_cons_zero, Act.put, List.setIfInBounds_toArray, List.set_cons_zero, List.set_cons_succ]
                refine hK.out _ _ (hHeld) (fun hHeld => ?_)
                clear hK K
                try simp only [List.getElem_toArray, List.getElem_cons_succ, List.getElem_cons_zero, Act.put, List.setIfInBounds_toArray, List.set_cons_zero, List.set_cons_succ]
                refine wpAnyH_take (i := 8) (v := ?_) rfl (by kernel_rfl) (by kernel_rfl) (by kernel_rfl) (fun _ _ _ h => h) (Or.inl ⟨by rfl, ?_⟩) hHeld ?_
                rotate_left
                · intro w hSw; (try dsimp only at hSw); (try go_simp); (try with_reducible rfl)
                try simp only [List.getElem_toArray, List.getElem_cons_succ, List.getElem_cons_zero, Act.put, List.setIfInBounds_toArray, List.set_cons_zero, List.set_cons_succ]
                refine wpAnyH_done (by kernel_rfl) ?_ _
                try simp only [List.getElem_toArray, List.getElem_cons_succ, List.getElem_cons_zero, Act.put, List.setIfInBounds_toArray, List.set_cons_zero, List.set_cons_succ]
                go_wp2_with fail
                go_meet
                exact ⟨rfl, hHeld⟩
              · rw [if_pos (by rfl)]
                try simp only [List.getElem_toArray, List.getElem_cons_succ, List.getElem_cons_zero, Act.put, List.setIfInBounds_toArray, List.set_cons_zero, List.set_cons_succ]
                have h2 := hc2.out.run
                go_wp2_with fail
                try simp only [List.getElem_toArray, List.getElem_cons_succ, List.getElem_cons_zero, Act.put, List.setIfInBounds_toArray, List.set_cons_zero, List.set_cons_succ]
                refine hK.out _ _ (hHeld) (fun hHeld => ?_)
                clear hK K
                try simp only [List.getElem_toArray, List.getElem_cons_succ, List.getElem_cons_zero, Act.put, List.setIfInBounds_toArray, List.set_cons_zero, List.set_cons_succ]
                refine wpAnyH_ready (rs := [3]) (by kernel_rfl) (by simp) ?_
                refine AllReadyH.cons rfl (fun K hK => ?_) AllReadyH.nil
                rw [if_pos (by rfl)]
                try simp only [List.getElem_toArray, List.getElem_cons_succ, List.getElem_cons_zero, Act.put, List.setIfInBounds_toArray, List.set_cons_zero, List.set_cons_succ]
                have h1 := hc1.out.run
                go_wp2_with fail
                try simp only [List.getElem_toArray, List.getElem_cons_succ, List.getElem_cons_zero, Act.put, List.setIfInBounds_toArray, List.set_cons_zero, List.set_cons_succ]
                refine hK.out _ _ (hHeld) (fun hHeld => ?_)
                clear hK K
                try simp only [List.getElem_toArray, List.getElem_cons_succ, List.getElem_cons_zero, Act.put, List.setIfInBounds_toArray, List.set_cons_zero, List.set_cons_succ]
                refine wpAnyH_take (i := 8) (v := ?_) rfl (by kernel_rfl) (by kernel_rfl) (by kernel_rfl) (fun _ _ _ h => h) (Or.inl ⟨by rfl, ?_⟩) hHeld ?_
                rotate_left
                · intro w hSw; (try dsimp only at hSw); (try go_simp); (try with_reducible rfl)
                try simp only [List.getElem_toArray, List.getElem_cons_succ, List.getElem_cons_zero, Act.put, List.setIfInBounds_toArray, List.set_cons_zero, List.set_cons_succ]
                refine wpAnyH_done (by kernel_rfl) ?_ _
                try simp only [List.getElem_toArray, List.getElem_cons_succ, List.getElem_cons_zero, Act.put, List.setIfInBounds_toArray, List.set_cons_zero, List.set_cons_succ]
                go_wp2_with fail
                go_meet
                exact ⟨rfl, hHeld⟩
          obtain ⟨rfl, hu58⟩ := hcut
          have HX58 := Lib.hid (HXk.out.upd0 hu58.out)
          have HY58 := Lib.hid (HYk.out.upd0 hu58.out)
          have HT58 := Lib.hid (htk.out.upd0 hu58.out)
          have HU58 := Lib.hid (huk.out.then0 hu58.out)
          clear HXk HYk htk huk hu58 HUk HLF hls
          cases d
          · have hdk : differ X Y k = true := by rw [HDF.out]; rfl
            have hlt4 := chg_lt (n := 4) hlt hdk
            have hat4 := chg_at (n := 4) hlt hdk
            have hcl : (chg (differ X Y) (k + 1)).length = (chg (differ X Y) k).length + 1 := by rw [chg_hit _ k hdk]; simp
            have hcle := chg_length (differ X Y) 4
            have hn4 := HN4.out
            obtain ⟨g, rfl, hg, hfg, hcg⟩ := HCC.out (by have := HLC.out; omega)
            have hce := hcg (chg (differ X Y) k).length hlt4
            rw [List.getElem?_eq_getElem hlt4] at hat4
            rw [Option.some.inj hat4] at hce
            have hcell := HU58.out.cell hce (HNC.out g rfl)
            have HCL := Lib.hid hcl
            clear hat4 hce hcg hfg hdk hcl
            have hE := Lib.hid (load_leaf hY k hlt)
            have hLM := Lib.hid (load_mix (X := X) hY hl1.out hl3.out k hlt)
            obtain ⟨nk, hnk⟩ : ∃ n, (chg (differ X Y) k).length = n := ⟨_, rfl⟩
            rw [hn4] at hlt4 hcle
            rw [hnk] at hlt4 hcell HCL ⊢
            have hdg : decide ((n4 : Int) ≤ nk) = false := by simp; omega
            have hi1 : (nk : Int) < n4 := by omega
            clear hn4 hnk
            go_wp2_with fail
            refine (HLG.out _ HY58.out).mono ?_
            rintro e w16 ⟨v16, rfl, hr16, hu16, hn16⟩
            obtain ⟨A16, c16, rfl, hc16, hb16⟩ := row_bytes hr16
            have hlo := tload_at (HT58.out.upd0 hu16) k hlt A16 c16 (leafB Y k 128) (leafB_bytes hY k 128) (by rw [leafB_length]; omega) hc16 hb16
            rw [hE.out, hLM.out] at hlo
            have HLO := Lib.hid hlo
            clear hlo hr16 hn16 hc16 hb16 hE hLM
            go_wp2_with (go_at_call 40; refine HLO.out.mono ?_; rintro e w17 ⟨rfl, ht17, hu17⟩)
            go_roundw
            case rel => exact ⟨k + 1, by go_num, by omega, by rw [HCL.out]; go_num, ht17, (HU58.out.then0 hu16).then hu17⟩
            case measure => simp [intOf]; omega
          · go_wp2
            go_roundw
            case rel => exact ⟨k + 1, by go_num, by omega, by rw [chg_miss _ k (by rw [HDF.out]; rfl)], by rw [HSK.out rfl]; exact HT58.out, HU58.out⟩
            case measure => simp [intOf]; omega
        · have hd : decide ((k : Int) < 4) = false := by simp; omega
          obtain rfl : k = 4 := by omega
          have htk2 := htk.out
          rw [mix_4 hl1.out hl3.out] at htk2
          have HRk := Lib.hid htk2
          have hn4 := HN4.out
          rw [hn4]
          have HC1 := Lib.hid (chg_none (differ_self Y) 4)
          have HCH := Lib.hid (fun (W : World) (h : TabAt W r Y) (h' : TabAt W q Y) => tchanged_at h h')
          clear hn4 htk2 htk huk HX10 HY10 HU10 HR10
          go_wp2_with fail
          refine (HCH.out _ HRk.out HYk.out).mono ?_
          rintro e w18 ⟨v18, rfl, hr18, hu18, hn18⟩
          rw [HC1.out] at hr18
          obtain ⟨A18, c18, rfl, -⟩ := hr18.form
          simp only [List.length_nil]
          have HU18 := Lib.hid (HUk.out.then0 hu18)
          clear hr18 hn18 hu18
          go_wp2_with (go_at_call 30; refine (lives07_true _).mono ?_; rintro e w19 ⟨rfl, hu19⟩)
          go_ret
          exact ⟨rfl, HU18.out.then0 hu19⟩
end Go.Proofs.Ytejpcgoblgaieaa.TableBack
