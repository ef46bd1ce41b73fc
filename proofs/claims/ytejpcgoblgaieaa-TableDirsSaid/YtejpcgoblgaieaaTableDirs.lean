/-
  hibernaclelaw07.TableDirs: walked once: for all leaves, all rows of numbers and all bytes it returns true.
-/
import Derived.Test.YtejpcgoblgaieaaLives07
import Derived.Test.YtejpcgoblgaieaaDec
import Derived.Test.YtejpcgoblgaieaaDecRef
import Derived.Test.YtejpcgoblgaieaaEncRef
import Derived.Test.YtejpcgoblgaieaaDirPlain2
import Derived.Test.YtejpcgoblgaieaaRowAid
set_option linter.unusedVariables false
set_option linter.unusedSimpArgs false
namespace Go.Proofs.Ytejpcgoblgaieaa.TableDirs
open Go.RowKit Go.Proofs.Ytejpcgoblgaieaa Go.Proofs.Ytejpcgoblgaieaa.Law07 Go.Proofs.Ytejpcgoblgaieaa.Ref06
theorem bytesIn_upd0 {w w' : World} {A : Option Addr} {n : Nat} {xs : List Int} (h : Lib.BytesIn w A n xs) (hu : Upd noB w w') : Lib.BytesIn w' A n xs := fun h0 => by
  obtain ⟨b, o, h1, h2⟩ := h h0
  exact ⟨b, o, h1, fun i hi => hu.cell (h2 i hi) (fun x => x)⟩
/-- An argument of type []int. -/
def IntsIn (w : World) (A : Option Addr) (zs : List Int) : Prop :=
  0 < zs.length → ∃ b o, A = some ⟨b, o, none⟩ ∧ b < w.heap.size ∧ ∀ i, i < zs.length → w.cell? ⟨b, o + i, none⟩ = some (.int .i64 (zs.getD i 0))
/-- A row of truths lives on where a set is written. -/
theorem row_past {w w' : World} {v : Value} {M : List Bool} {p g c : Nat} {S : List Bool} (h : BRow w v M) (hs : Table.SetAt w p g c S) (hu : Upd (oneB g) w w') : BRow w' v M := by
  obtain ⟨cs, hc⟩ := hs.gtyped
  exact h.upd hu (fun k hk hk2 => h.ne hc (by decide) hk hk2)
/-- The loop. -/
def PRel (w : World) (p g c len : Nat) (t i : Value) (wr : World) : Prop :=
  ∃ (k : Nat) (S : List Bool), i = .int .i64 (k : Int) ∧ k ≤ len ∧ S.length = 512 ∧ Table.SetAt wr p g c S ∧ BRow wr t S ∧ Upd noB w wr
theorem sized_ne {n : Nat} (h : n ≠ 512) : sizedE n ≠ 0 := by
  unfold sizedE
  by_cases h1 : n < 512
  · rw [if_pos h1]; decide
  · rw [if_neg h1, if_pos (by omega)]; decide
/-- What both Decodes give. -/
theorem dec_both {w w' : World} {xs : List Int} {e : Ending} (hp : DecPost w xs e w') : ∃ (m0 m1 m2 m3 : Int) (pd : Option Addr) (g0 : Int), e = .returned (.tuple #[.agg #[.int .i64 m0, .int .i64 m1, .int .i64 m2, .int .i64 m3, .pointer pd], .int .i64 g0]) ∧
    (∀ w2 e2 w2', DecRefPost w2 xs e2 w2' → ∃ yv, e2 = .returned (.tuple #[.agg #[.int .i64 m0, .int .i64 m1, .int .i64 m2, .int .i64 m3], yv, .int .i64 g0]) ∧ Upd noB w2 w2' ∧ (g0 = 0 → BRow w2' yv (truths 512 (dirY xs)))) ∧
    ((g0 ≠ 0 ∧ pd = none) ∨ (g0 = 0 ∧ ∃ p g c, pd = some ⟨p, 0, none⟩ ∧ Table.SetAt w' p g c (truths 512 (dirY xs)))) := by
  obtain ⟨hu, ⟨h1, h2⟩ | ⟨h1, h2, h3⟩ | ⟨h1, h2, p, g, c, h3, h4⟩⟩ := hp
  · refine ⟨0, 0, 0, 0, none, sizedE xs.length, h2, ?_, .inl ⟨sized_ne h1, rfl⟩⟩
    rintro w2 e2 w2' ⟨ku, ⟨k1, k2⟩ | ⟨k1, k2, k3⟩ | ⟨k1, k2, v, k3, k4⟩⟩
    · exact ⟨_, k2, ku, fun h => absurd h (sized_ne h1)⟩
    · exact absurd k1 h1
    · exact absurd k1 h1
  · refine ⟨0, 0, 0, 0, none, 4, h3, ?_, .inl ⟨by decide, rfl⟩⟩
    rintro w2 e2 w2' ⟨ku, ⟨k1, k2⟩ | ⟨k1, k2, k3⟩ | ⟨k1, k2, v, k3, k4⟩⟩
    · exact absurd h1 k1
    · exact ⟨_, k3, ku, fun h => by cases h⟩
    · rw [h2] at k2; cases k2
  · refine ⟨val4 xs 0, val4 xs 4, val4 xs 8, val4 xs 12, some ⟨p, 0, none⟩, 0, h3, ?_, .inr ⟨rfl, p, g, c, rfl, h4⟩⟩
    rintro w2 e2 w2' ⟨ku, ⟨k1, k2⟩ | ⟨k1, k2, k3⟩ | ⟨k1, k2, v, k3, k4⟩⟩
    · exact absurd h1 k1
    · rw [h2] at k2; cases k2
    · exact ⟨v, k3, ku, fun _ => k4⟩
set_option maxRecDepth 100000 in
set_option maxHeartbeats 8000000 in
theorem walk (x0 x1 x2 x3 : Int) (B : Option Addr) (cb : Nat) (zs : List Int) (A : Option Addr) (ca : Nat) (xs : List Int) (w : World) (hB : IntsIn w B zs) (hx : Bytes xs) (hcap : xs.length ≤ ca) (hA : Lib.BytesIn w A xs.length xs) :
    Calls Try.prog 10 #[.agg #[.int .i64 x0, .int .i64 x1, .int .i64 x2, .int .i64 x3], .slice B zs.length cb, .slice A xs.length ca] w fun e w' => e = .returned (.bool true) ∧ Upd noB w w' := by
  have HBI := Lib.hid hB
  have HAI := Lib.hid hA
  have HX := Lib.hid hx
  have HCAP := Lib.hid hcap
  have HLV := Lib.hid lives07_true
  clear hB hA hx hcap
  by_cases hbig : 1500 < xs.length ∨ 100 < zs.length
  · rcases Nat.lt_or_ge 1500 xs.length with hb | hb
    · have hd : decide ((1500 : Int) < xs.length) = true := by simp; omega
      clear hbig hb
      go_enter Try.func10, Try.ntmps10
      go_wp2_with (go_at_call 30; refine (HLV.out _).mono ?_; rintro e w' ⟨rfl, hu⟩)
      go_ret
      exact ⟨rfl, ((Upd.refl _ _).alloc _).then0 hu⟩
    · have hd : decide ((1500 : Int) < xs.length) = false := by simp; omega
      have hd2 : decide ((100 : Int) < zs.length) = true := by simp; omega
      clear hbig hb
      go_enter Try.func10, Try.ntmps10
      go_wp2_with (go_at_call 30; refine (HLV.out _).mono ?_; rintro e w' ⟨rfl, hu⟩)
      go_ret
      exact ⟨rfl, ((Upd.refl _ _).alloc _).then0 hu⟩
  have hd : decide ((1500 : Int) < xs.length) = false := by simp; omega
  have hd2 : decide ((100 : Int) < zs.length) = false := by simp; omega
  have hz100 : zs.length ≤ 100 := by omega
  have HBIG := Lib.hid (show xs.length ≤ 1000000 by omega)
  clear hbig
  have hmk := make_run (P := Try.prog) 31 4 (.bool false) 1 Try.underlying31 info_bool rfl (512 : Int) 512 rfl (by omega) (by omega)
  go_enter Try.func10, Try.ntmps10
  go_upto_region 1 with fail
  obtain ⟨a, ha⟩ : ∃ a, a = w.heap.size := ⟨_, rfl⟩
  obtain ⟨W, hW⟩ : ∃ W, W = w.alloc (.cells #[.int .i64 x0, .int .i64 x1, .int .i64 x2, .int .i64 x3] 79) := ⟨_, rfl⟩
  have har : Arr4 W a [x0, x1, x2, x3] := by rw [hW, ha]; exact ⟨heap_alloc_new _ _, rfl⟩
  have hu : Upd noB w W := by rw [hW]; exact (Upd.refl _ _).alloc _
  rw [← hW, ← ha]
  have HA4 := Lib.hid har
  have HU := Lib.hid hu
  clear hW ha har hu
  go_upto_region 4 with (go_at_call 43; refine (Table.new_ok 512 (by omega)).mono ?_; rintro e w3 ⟨p, g, c, rfl, hs3, hu3, hp3, hg3⟩)
  have HS3 := Lib.hid hs3
  have HA3 := Lib.hid (HA4.out.upd0 hu3)
  have HU3 := Lib.hid (HU.out.then0 hu3)
  have hapg : a ≠ p ∧ a ≠ g ∧ w.heap.size ≤ g ∧ w.heap.size ≤ p := by have := HA4.out.plt; have := HU.out.size; exact ⟨by omega, by omega, by omega, by omega⟩
  have HPG := Lib.hid hapg
  clear hs3 hu3 hp3 hg3 hapg HA4 HU
  go_upto_region 5 with fail
  obtain ⟨W5, hW5⟩ : ∃ W, W = w3.alloc (.cells (madeCells #[.bool false] 512) 4) := ⟨_, rfl⟩
  have hr0 : BRow W5 (.slice (some ⟨w3.heap.size, 0, none⟩) 512 512) (List.replicate 512 false) := by
    have := ownsRow_made w3 4 (.bool false) 512 (by omega)
    unfold BRow Row bools
    rw [List.map_replicate, List.length_replicate, hW5]
    exact this
  have hu5 : Upd noB w3 W5 := by rw [hW5]; exact (Upd.refl _ _).alloc _
  obtain ⟨q, hq⟩ : ∃ q, q = w3.heap.size := ⟨_, rfl⟩
  rw [← hq] at hr0 ⊢
  rw [← hW5]
  have HR5 := Lib.hid hr0
  have HS5 := Lib.hid (HS3.out.upd0 hu5)
  have HA5 := Lib.hid (HA3.out.upd0 hu5)
  have HU5 := Lib.hid (HU3.out.then0 hu5)
  clear hW5 hq hr0 hu5 hmk HS3 HA3 HU3
  go_wp2
  go_loopw [9, 10] (fun v t wr => PRel w p g c zs.length v t wr ∧ Hid (Arr4 wr a [x0, x1, x2, x3])) (fun _ t _ => zs.length - (intOf t).toNat)
  case atStart => exact ⟨⟨0, List.replicate 512 false, rfl, Nat.zero_le _, List.length_replicate, HS5.out, HR5.out, HU5.out⟩, HA5.out⟩
  case round =>
    obtain ⟨⟨k, S, rfl, hk, hSl, hS, hR, hU⟩, hA4⟩ := hrel
    have HS := Lib.hid hS
    have HR := Lib.hid hR
    have HU := Lib.hid hU
    have HSL := Lib.hid hSl
    clear hS hR hU hSl
    by_cases hlt : k < zs.length
    · obtain ⟨b, o, rfl, hb, hc⟩ := HBI.out (by omega)
      have hcell := HU.out.cell (hc k hlt) (fun x => x)
      have hlt2 : (k : Int) < zs.length := by omega
      obtain ⟨z, hz⟩ : ∃ z, zs.getD k 0 = z := ⟨_, rfl⟩
      rw [hz] at hcell
      have HC := Lib.hid hc
      have HZ := Lib.hid hz
      clear hz hc
      go_wp2_with fail
      refine (Table.put_at HS.out z).mono ?_
      rintro e w6 ⟨rfl, hs6, hu6⟩
      have HR6 := Lib.hid (row_past HR.out HS.out hu6)
      have HU6 := Lib.hid (HU.out.trans hu6 (fun k e => by cases e; exact .inr HPG.out.2.2.1))
      have HA6 := Lib.hid (hA4.out.upd hu6 HPG.out.2.1)
      have HS6 := Lib.hid hs6
      have hcell6 := HU6.out.cell (HC.out k hlt) (fun x => x)
      rw [HZ.out] at hcell6
      clear hs6 hu6 hcell
      go_wp2_with fail
      refine (with_ref HR6.out (by rw [HSL.out]; omega) z true).mono ?_
      rintro e w7 ⟨v7, rfl, hr7, hu7⟩
      have HS7 := Lib.hid (HS6.out.upd0 hu7)
      have HR7 := Lib.hid hr7
      have HU7 := Lib.hid (HU6.out.then0 hu7)
      have HA7 := Lib.hid (HA6.out.upd0 hu7)
      clear hr7 hu7 hcell6
      go_wp2
      go_roundw
      case rel => exact ⟨⟨k + 1, putI S z true, by go_num, by omega, by rw [putI_length]; exact HSL.out, HS7.out, HR7.out, HU7.out⟩, HA7.out⟩
      case measure => simp [intOf]; omega
    · have hd3 : decide ((k : Int) < zs.length) = false := by simp; omega
      have HAK := hA4
      clear hA4 HS5 HR5 HU5 HA5 hd hd2 hz100
      obtain ⟨L, hL⟩ : ∃ L : List Int, L = [x0, x1, x2, x3] := ⟨_, rfl⟩
      have hLl : L.length = 4 := by rw [hL]; rfl
      have henc := fun (W : World) (h : Table.SetAt W p g c S) => enc_at (w := W) hLl h HSL.out
      have henr := fun (W : World) (h : BRow W u9 S) => enc_ref (w := W) (v := u9) hLl h HSL.out
      have henn := fun (W : World) => enc_none (w := W) hLl
      rw [hL] at henc henr henn
      have HEN := Lib.hid henc
      have HER := Lib.hid henr
      have HNN := Lib.hid henn
      have HI4 := Lib.hid (show (Try.prog.info? 79).map (·.size) = some (numL [x0, x1, x2, x3]).length from info79')
      clear henc henr henn hLl hL
      go_wp2_with (refine wpList_load_mid rfl 79 _ rfl a 0 rfl [.int .i64 x0, .int .i64 x1, .int .i64 x2, .int .i64 x3] _ HAK.out.range Try.underlying79 rfl HI4.out ?_)
      refine (HEN.out _ HS.out).mono ?_
      rintro e w10 ⟨hu10, hc10⟩
      have HS10 := Lib.hid (HS.out.upd0 hu10)
      have HR10 := Lib.hid (HR.out.upd0 hu10)
      have HA10 := Lib.hid (HAK.out.upd0 hu10)
      have HU10 := Lib.hid (HU.out.then0 hu10)
      have hgot : ∃ (gv : Value) (e0 : Int), e = .returned (.tuple #[gv, .int .i64 e0]) ∧ ((okL [x0, x1, x2, x3] = false ∧ gv = .slice none 0 0 ∧ e0 = 1) ∨ (okL [x0, x1, x2, x3] = true ∧ e0 = 0 ∧ Row w10 5 gv (u8s (dirB [x0, x1, x2, x3] S)))) := by
        rcases hc10 with ⟨h1, h2⟩ | ⟨h1, v, h2, h3⟩
        · exact ⟨_, _, h2, .inl ⟨by simpa using h1, rfl, rfl⟩⟩
        · exact ⟨_, _, h2, .inr ⟨by simpa using h1, rfl, h3⟩⟩
      obtain ⟨gv, e0, rfl, hgv⟩ := hgot
      have HGV := Lib.hid hgv
      clear hu10 hc10 hgv HS HR HAK HU HEN
      go_wp2_with (refine wpList_load_mid rfl 79 _ rfl a 0 rfl [.int .i64 x0, .int .i64 x1, .int .i64 x2, .int .i64 x3] _ HA10.out.range Try.underlying79 rfl HI4.out ?_)
      refine (HER.out _ HR10.out).mono ?_
      rintro e w11 ⟨hu11, hc11⟩
      have HS11 := Lib.hid (HS10.out.upd0 hu11)
      have HR11 := Lib.hid (HR10.out.upd0 hu11)
      have HA11 := Lib.hid (HA10.out.upd0 hu11)
      have HU11 := Lib.hid (HU10.out.then0 hu11)
      have hwant : ∃ (ws : ByteArray), e = .returned (.tuple #[.string ws, .int .i64 e0]) ∧ ((okL [x0, x1, x2, x3] = false ∧ ws = ByteArray.empty) ∨ (okL [x0, x1, x2, x3] = true ∧ ws = strOfNums (dirB [x0, x1, x2, x3] S))) := by
        rcases hc11 with ⟨h1, h2⟩ | ⟨h1, h2⟩
        · rcases HGV.out with ⟨_, _, rfl⟩ | ⟨h3, _⟩
          · exact ⟨_, h2, .inl ⟨h1, rfl⟩⟩
          · rw [h1] at h3; cases h3
        · rcases HGV.out with ⟨h3, _⟩ | ⟨_, rfl, _⟩
          · rw [h1] at h3; cases h3
          · exact ⟨_, h2, .inr ⟨h1, rfl⟩⟩
      obtain ⟨ws, rfl, hws⟩ := hwant
      have hgv11 : (okL [x0, x1, x2, x3] = false ∧ gv = .slice none 0 0 ∧ e0 = 1) ∨ (okL [x0, x1, x2, x3] = true ∧ e0 = 0 ∧ Row w11 5 gv (u8s (dirB [x0, x1, x2, x3] S))) := HGV.out.imp id (fun h => ⟨h.1, h.2.1, h.2.2.upd0 hu11⟩)
      have HWS := Lib.hid hws
      have HGV11 := Lib.hid hgv11
      clear hu11 hc11 hws hgv11 HGV HS10 HR10 HA10 HU10 HER
      go_wp2_with (refine wpList_load_mid rfl 79 _ rfl a 0 rfl [.int .i64 x0, .int .i64 x1, .int .i64 x2, .int .i64 x3] _ HA11.out.range Try.underlying79 rfl HI4.out ?_)
      refine (HNN.out _).mono ?_
      rintro e w12 ⟨rfl, hu12⟩
      have HS12 := Lib.hid (HS11.out.upd0 hu12)
      have HA12 := Lib.hid (HA11.out.upd0 hu12)
      have HU12 := Lib.hid (HU11.out.then0 hu12)
      have hgv12 : (okL [x0, x1, x2, x3] = false ∧ gv = .slice none 0 0 ∧ e0 = 1) ∨ (okL [x0, x1, x2, x3] = true ∧ e0 = 0 ∧ Row w12 5 gv (u8s (dirB [x0, x1, x2, x3] S))) := HGV11.out.imp id (fun h => ⟨h.1, h.2.1, h.2.2.upd0 hu12⟩)
      have HGV12 := Lib.hid hgv12
      have hcv : (convert 48 9 gv).run Try.prog w12 = .ok (.string ws) w12 := by
        rcases hgv12 with ⟨h1, rfl, _⟩ | ⟨h1, _, h3⟩
        · rcases HWS.out with ⟨_, rfl⟩ | ⟨h4, _⟩
          · exact run_convert_bytes_zero w12 _ _ Try.underlying48 Try.underlying5 none 0 _ Try.underlying9
          · rw [h1] at h4; cases h4
        · rcases HWS.out with ⟨h4, _⟩ | ⟨_, rfl⟩
          · rw [h1] at h4; cases h4
          · exact (conv_of h3 (by rw [dirB_length rfl HSL.out]; omega)).run
      clear hu12 hgv12 HGV11 HS11 HR11 HA11 HU11 HNN
      go_upto_region 15 with fail
      have HB12 := Lib.hid (bytesIn_upd0 HAI.out HU12.out)
      clear hcv HAI
      go_wp2_with fail
      refine (dec_at A ca xs HX.out HBIG.out HCAP.out HB12.out).mono ?_
      rintro e w15 hd15
      have hu15 : Upd noB w12 w15 := hd15.1
      obtain ⟨m0, m1, m2, m3, pd, g0, rfl, href, hpd⟩ := dec_both hd15
      have HREF := Lib.hid href
      have HPD := Lib.hid hpd
      have HU15 := Lib.hid hu15
      clear href hpd hu15 hd15
      go_upto_region 16 with fail
      obtain ⟨d, hd⟩ : ∃ d, d = w15.heap.size := ⟨_, rfl⟩
      obtain ⟨W15, hW15⟩ : ∃ W, W = w15.alloc (.cells #[.int .i64 m0, .int .i64 m1, .int .i64 m2, .int .i64 m3, .pointer pd] 88) := ⟨_, rfl⟩
      have hda : DirAt W15 d [m0, m1, m2, m3] (.pointer pd) := by rw [hW15, hd]; exact ⟨heap_alloc_new _ _, rfl⟩
      have hu15b : Upd noB w15 W15 := by rw [hW15]; exact (Upd.refl _ _).alloc _
      rw [← hd, ← hW15]
      have HDA := Lib.hid hda
      have HU15B := Lib.hid hu15b
      have HB15 := Lib.hid (bytesIn_upd0 (bytesIn_upd0 HB12.out HU15.out) hu15b)
      clear hd hW15 hda hu15b
      go_wp2_with fail
      refine (dec_ref A ca xs HX.out HBIG.out HCAP.out HB15.out).mono ?_
      rintro e w16 hd16
      obtain ⟨yv, rfl, hu16, hyr⟩ := HREF.out _ _ _ hd16
      have HYR := Lib.hid hyr
      have HU16 := Lib.hid hu16
      clear hd16 hyr hu16
      go_upto_region 17 with fail
      obtain ⟨xb, hxb⟩ : ∃ d, d = w16.heap.size := ⟨_, rfl⟩
      obtain ⟨W17, hW17⟩ : ∃ W, W = w16.alloc (.cells #[.int .i64 m0, .int .i64 m1, .int .i64 m2, .int .i64 m3] 79) := ⟨_, rfl⟩
      have hxa : Arr4 W17 xb [m0, m1, m2, m3] := by rw [hW17, hxb]; exact ⟨heap_alloc_new _ _, rfl⟩
      have hu17 : Upd noB w16 W17 := by rw [hW17]; exact (Upd.refl _ _).alloc _
      rw [← hxb, ← hW17]
      have HXA := Lib.hid hxa
      have HDA17 := Lib.hid ((HDA.out.upd0 HU16.out).upd0 hu17)
      have hu1517 : Upd noB w15 W17 := (HU15B.out.then0 HU16.out).then0 hu17
      have hu1217 : Upd noB w12 W17 := HU15.out.then0 hu1517
      have hpd17 : (g0 ≠ 0 ∧ pd = none) ∨ (g0 = 0 ∧ ∃ p g c, pd = some ⟨p, 0, none⟩ ∧ Table.SetAt W17 p g c (truths 512 (dirY xs))) := HPD.out.imp id (fun ⟨h, p, g, c, h1, h2⟩ => ⟨h, p, g, c, h1, h2.upd0 hu1517⟩)
      have HYR17 := Lib.hid (fun h => (HYR.out h).upd0 hu17)
      have HS17 := Lib.hid (HS12.out.upd0 hu1217)
      have HA17 := Lib.hid (HA12.out.upd0 hu1217)
      have HU17 := Lib.hid (HU12.out.then0 hu1217)
      have hgv17 : (okL [x0, x1, x2, x3] = false ∧ gv = .slice none 0 0 ∧ e0 = 1) ∨ (okL [x0, x1, x2, x3] = true ∧ e0 = 0 ∧ Row W17 5 gv (u8s (dirB [x0, x1, x2, x3] S))) := HGV12.out.imp id (fun h => ⟨h.1, h.2.1, h.2.2.upd0 hu1217⟩)
      have HGV17 := Lib.hid hgv17
      clear hW17 hxb hxa hu17 hu1517 hu1217 hgv17 HDA HU15B HU16 HU15 HPD HYR HS12 HA12 HU12 HGV12 HREF HB12 HB15
      have hne := neq_arr4 W17 [m0, m1, m2, m3] [m0, m1, m2, m3] rfl rfl
      have HNE := Lib.hid (fun W : World => (show (binOp .neq 79 (.agg (nums [m0, m1, m2, m3])) (.agg (nums [m0, m1, m2, m3]))).run Try.prog W = .ok (.bool false) W by rw [neq_arr4 W _ _ rfl rfl]; simp))
      have HIM := Lib.hid (show (Try.prog.info? 79).map (·.size) = some (numL [m0, m1, m2, m3]).length from info79')
      clear hne
      go_cut [131] (fun v W => v = .bool false ∧ Hid (Upd noB W17 W))
      case first =>
        rcases hpd17 with ⟨hg0, rfl⟩ | ⟨rfl, p2, g2, c2, rfl, hs2⟩
        · have hd5 : (g0 == 0) = false := by simpa using hg0
          clear hg0
          refine wp_region_held_drew (S := (fun w' => Upd noB W17 w')) (by kernel_rfl) ((Upd.refl _ _).drew) (fun hHeld => ?_)
          refine wpAnyH_take (i := 0) (v := ?_) rfl (by kernel_rfl) (by kernel_rfl) (by kernel_rfl) (fun _ _ _ h => h) (Or.inl ⟨by rfl, ?_⟩) hHeld ?_
          rotate_left
          · intro w hSw; (try dsimp only at hSw); (try go_simp); (try with_reducible rfl)
          try simp only [List.getElem_toArray, List.getElem_cons_succ, List.getElem_cons_zero, Act.put, List.setIfInBounds_toArray, List.set_cons_zero, List.set_cons_succ]
          refine wpAnyH_take (i := 1) (v := .agg (List.toArray (numL [m0, m1, m2, m3]))) rfl (by kernel_rfl) (by kernel_rfl) (by kernel_rfl) (fun _ _ _ h => h) (yieldsIf_load_mid (by rfl) _ _ rfl (d) (0) rfl (numL [m0, m1, m2, m3]) _ (fun w hSw => range_upd (dir_range HDA17.out.hp) hSw (fun x => x)) Try.underlying79 rfl HIM.out) hHeld ?_
          try simp only [List.getElem_toArray, List.getElem_cons_succ, List.getElem_cons_zero, Act.put, List.setIfInBounds_toArray, List.set_cons_zero, List.set_cons_succ]
          refine wpAnyH_take (i := 2) (v := .agg (List.toArray (numL [m0, m1, m2, m3]))) rfl (by kernel_rfl) (by kernel_rfl) (by kernel_rfl) (fun _ _ _ h => h) (yieldsIf_load_mid (by rfl) _ _ rfl (xb) (0) rfl (numL [m0, m1, m2, m3]) _ (fun w hSw => range_upd HXA.out.range hSw (fun x => x)) Try.underlying79 rfl HIM.out) hHeld ?_
          try simp only [List.getElem_toArray, List.getElem_cons_succ, List.getElem_cons_zero, Act.put, List.setIfInBounds_toArray, List.set_cons_zero, List.set_cons_succ]
          refine wpAnyH_take (i := 3) (v := .bool false) rfl (by kernel_rfl) (by kernel_rfl) (by kernel_rfl) (fun _ _ _ h => h) (Or.inl ⟨by rfl, fun w hSw => exec_neq 79 _ _ _ rfl _ _ rfl rfl guard79 _ (HNE.out w)⟩) hHeld ?_
          try simp only [List.getElem_toArray, List.getElem_cons_succ, List.getElem_cons_zero, Act.put, List.setIfInBounds_toArray, List.set_cons_zero, List.set_cons_succ]
          refine wpAnyH_take (i := 4) (v := ?_) rfl (by kernel_rfl) (by kernel_rfl) (by kernel_rfl) (fun _ _ _ h => h) (Or.inl ⟨by rfl, ?_⟩) hHeld ?_
          rotate_left
          · intro w hSw; (try dsimp only at hSw); (try go_simp); (try with_reducible rfl)
          try simp only [List.getElem_toArray, List.getElem_cons_succ, List.getElem_cons_zero, Act.put, List.setIfInBounds_toArray, List.set_cons_zero, List.set_cons_succ]
          refine wpAnyH_take (i := 5) (v := ?_) rfl (by kernel_rfl) (by kernel_rfl) (by kernel_rfl) (fun _ _ _ h => h) (Or.inl ⟨by rfl, ?_⟩) hHeld ?_
          rotate_left
          · intro w hSw; (try dsimp only at hSw); (try go_simp); (try with_reducible rfl)
          try simp only [List.getElem_toArray, List.getElem_cons_succ, List.getElem_cons_zero, Act.put, List.setIfInBounds_toArray, List.set_cons_zero, List.set_cons_succ]
          refine wpAnyH_take (i := 6) (v := ?_) rfl (by kernel_rfl) (by kernel_rfl) (by kernel_rfl) (fun _ _ _ h => h) (Or.inl ⟨by rfl, ?_⟩) hHeld ?_
          rotate_left
          · intro w hSw; (try dsimp only at hSw); (try go_simp); (try with_reducible rfl)
          try simp only [List.getElem_toArray, List.getElem_cons_succ, List.getElem_cons_zero, Act.put, List.setIfInBounds_toArray, List.set_cons_zero, List.set_cons_succ]
          refine wpAnyH_take (i := 7) (v := ?_) rfl (by kernel_rfl) (by kernel_rfl) (by kernel_rfl) (fun _ _ _ h => h) (Or.inl ⟨by rfl, ?_⟩) hHeld ?_
          rotate_left
          · intro w hSw; (try dsimp only at hSw); (try go_simp); (try with_reducible rfl)
          try simp only [List.getElem_toArray, List.getElem_cons_succ, List.getElem_cons_zero, Act.put, List.setIfInBounds_toArray, List.set_cons_zero, List.set_cons_succ]
          refine wpAnyH_take (i := 8) (v := ?_) rfl (by kernel_rfl) (by kernel_rfl) (by kernel_rfl) (fun _ _ _ h => h) (Or.inl ⟨by rfl, ?_⟩) hHeld ?_
          rotate_left
          · intro w hSw; (try dsimp only at hSw); (try go_simp); (try with_reducible rfl)
          try simp only [List.getElem_toArray, List.getElem_cons_succ, List.getElem_cons_zero, Act.put, List.setIfInBounds_toArray, List.set_cons_zero, List.set_cons_succ]
          refine wpAnyH_take (i := 9) (v := ?_) rfl (by kernel_rfl) (by kernel_rfl) (by kernel_rfl) (fun _ _ _ h => h) (Or.inl ⟨by rfl, ?_⟩) hHeld ?_
          rotate_left
          · intro w hSw; (try dsimp only at hSw); (try go_simp); (try with_reducible rfl)
          try simp only [List.getElem_toArray, List.getElem_cons_succ, List.getElem_cons_zero, Act.put, List.setIfInBounds_toArray, List.set_cons_zero, List.set_cons_succ]
          refine wpAnyH_take (i := 10) (v := ?_) rfl (by kernel_rfl) (by kernel_rfl) (by kernel_rfl) (fun _ _ _ h => h) (Or.inl ⟨by rfl, ?_⟩) hHeld ?_
          rotate_left
          · intro w hSw; (try dsimp only at hSw); (try go_simp); (try with_reducible rfl)
          try simp only [List.getElem_toArray, List.getElem_cons_succ, List.getElem_cons_zero, Act.put, List.setIfInBounds_toArray, List.set_cons_zero, List.set_cons_succ]
          refine wpAnyH_take (i := 11) (v := ?_) rfl (by kernel_rfl) (by kernel_rfl) (by kernel_rfl) (fun _ _ _ h => h) (Or.inl ⟨by rfl, ?_⟩) hHeld ?_
          rotate_left
          · intro w hSw; (try dsimp only at hSw); (try go_simp); (try with_reducible rfl)
          try simp only [List.getElem_toArray, List.getElem_cons_succ, List.getElem_cons_zero, Act.put, List.setIfInBounds_toArray, List.set_cons_zero, List.set_cons_succ]
          refine wpAnyH_take (i := 12) (v := ?_) rfl (by kernel_rfl) (by kernel_rfl) (by kernel_rfl) (fun _ _ _ h => h) (Or.inl ⟨by rfl, ?_⟩) hHeld ?_
          rotate_left
          · intro w hSw; (try dsimp only at hSw); (try go_simp); (try with_reducible rfl)
          try simp only [List.getElem_toArray, List.getElem_cons_succ, List.getElem_cons_zero, Act.put, List.setIfInBounds_toArray, List.set_cons_zero, List.set_cons_succ]
          refine wpAnyH_take (i := 13) (v := .pointer none) rfl (by kernel_rfl) (by kernel_rfl) (by kernel_rfl) (fun _ _ _ h => h) (Or.inl ⟨by rfl, fun w hSw => by have h1 := hSw.cell HDA17.out.used (fun x => x); go_simp⟩) hHeld ?_
          try simp only [List.getElem_toArray, List.getElem_cons_succ, List.getElem_cons_zero, Act.put, List.setIfInBounds_toArray, List.set_cons_zero, List.set_cons_succ]
          refine wpAnyH_take (i := 14) (v := ?_) rfl (by kernel_rfl) (by kernel_rfl) (by kernel_rfl) (fun _ _ _ h => h) (Or.inl ⟨by rfl, ?_⟩) hHeld ?_
          rotate_left
          · intro w hSw; (try dsimp only at hSw); (try go_simp); (try with_reducible rfl)
          try simp only [List.getElem_toArray, List.getElem_cons_succ, List.getElem_cons_zero, Act.put, List.setIfInBounds_toArray, List.set_cons_zero, List.set_cons_succ]
          refine wpAnyH_take (i := 15) (v := ?_) rfl (by kernel_rfl) (by kernel_rfl) (by kernel_rfl) (fun _ _ _ h => h) (Or.inl ⟨by rfl, ?_⟩) hHeld ?_
          rotate_left
          · intro w hSw; (try dsimp only at hSw); (try go_simp); (try with_reducible rfl)
          try simp only [List.getElem_toArray, List.getElem_cons_succ, List.getElem_cons_zero, Act.put, List.setIfInBounds_toArray, List.set_cons_zero, List.set_cons_succ]
          refine wpAnyH_take (i := 16) (v := ?_) rfl (by kernel_rfl) (by kernel_rfl) (by kernel_rfl) (fun _ _ _ h => h) (Or.inl ⟨by rfl, ?_⟩) hHeld ?_
          rotate_left
          · intro w hSw; (try dsimp only at hSw); (try go_simp); (try with_reducible rfl)
          try simp only [List.getElem_toArray, List.getElem_cons_succ, List.getElem_cons_zero, Act.put, List.setIfInBounds_toArray, List.set_cons_zero, List.set_cons_succ]
          refine wpAnyH_take (i := 17) (v := ?_) rfl (by kernel_rfl) (by kernel_rfl) (by kernel_rfl) (fun _ _ _ h => h) (Or.inl ⟨by rfl, ?_⟩) hHeld ?_
          rotate_left
          · intro w hSw; (try dsimp only at hSw); (try go_simp); (try with_reducible rfl)
          try simp only [List.getElem_toArray, List.getElem_cons_succ, List.getElem_cons_zero, Act.put, List.setIfInBounds_toArray, List.set_cons_zero, List.set_cons_succ]
          refine wpAnyH_take (i := 18) (v := ?_) rfl (by kernel_rfl) (by kernel_rfl) (by kernel_rfl) (fun _ _ _ h => h) (Or.inl ⟨by rfl, ?_⟩) hHeld ?_
          rotate_left
          · intro w hSw; (try dsimp only at hSw); (try go_simp); (try with_reducible rfl)
          try simp only [List.getElem_toArray, List.getElem_cons_succ, List.getElem_cons_zero, Act.put, List.setIfInBounds_toArray, List.set_cons_zero, List.set_cons_succ]
          refine wpAnyH_take (i := 19) (v := ?_) rfl (by kernel_rfl) (by kernel_rfl) (by kernel_rfl) (fun _ _ _ h => h) (Or.inl ⟨by rfl, ?_⟩) hHeld ?_
          rotate_left
          · intro w hSw; (try dsimp only at hSw); (try go_simp); (try with_reducible rfl)
          try simp only [List.getElem_toArray, List.getElem_cons_succ, List.getElem_cons_zero, Act.put, List.setIfInBounds_toArray, List.set_cons_zero, List.set_cons_succ]
          refine wpAnyH_take (i := 20) (v := ?_) rfl (by kernel_rfl) (by kernel_rfl) (by kernel_rfl) (fun _ _ _ h => h) (Or.inl ⟨by rfl, ?_⟩) hHeld ?_
          rotate_left
          · intro w hSw; (try dsimp only at hSw); (try go_simp); (try with_reducible rfl)
          try simp only [List.getElem_toArray, List.getElem_cons_succ, List.getElem_cons_zero, Act.put, List.setIfInBounds_toArray, List.set_cons_zero, List.set_cons_succ]
          refine wpAnyH_take (i := 21) (v := undef) rfl (by kernel_rfl) (by kernel_rfl) (by kernel_rfl) (fun _ _ _ h => h) (Or.inr ⟨by rfl, rfl⟩) hHeld ?_
          try simp only [List.getElem_toArray, List.getElem_cons_succ, List.getElem_cons_zero, Act.put, List.setIfInBounds_toArray, List.set_cons_zero, List.set_cons_succ]
          refine wpAnyH_take (i := 22) (v := undef) rfl (by kernel_rfl) (by kernel_rfl) (by kernel_rfl) (fun _ _ _ h => h) (Or.inr ⟨by rfl, rfl⟩) hHeld ?_
          try simp only [List.getElem_toArray, List.getElem_cons_succ, List.getElem_cons_zero, Act.put, List.setIfInBounds_toArray, List.set_cons_zero, List.set_cons_succ]
          refine wpAnyH_take (i := 23) (v := undef) rfl (by kernel_rfl) (by kernel_rfl) (by kernel_rfl) (fun _ _ _ h => h) (Or.inr ⟨by rfl, rfl⟩) hHeld ?_
          try simp only [List.getElem_toArray, List.getElem_cons_succ, List.getElem_cons_zero, Act.put, List.setIfInBounds_toArray, List.set_cons_zero, List.set_cons_succ]
          refine wpAnyH_take (i := 24) (v := undef) rfl (by kernel_rfl) (by kernel_rfl) (by kernel_rfl) (fun _ _ _ h => h) (Or.inr ⟨by rfl, rfl⟩) hHeld ?_
          try simp only [List.getElem_toArray, List.getElem_cons_succ, List.getElem_cons_zero, Act.put, List.setIfInBounds_toArray, List.set_cons_zero, List.set_cons_succ]
          refine wpAnyH_take (i := 25) (v := undef) rfl (by kernel_rfl) (by kernel_rfl) (by kernel_rfl) (fun _ _ _ h => h) (Or.inr ⟨by rfl, rfl⟩) hHeld ?_
          try simp only [List.getElem_toArray, List.getElem_cons_succ, List.getElem_cons_zero, Act.put, List.setIfInBounds_toArray, List.set_cons_zero, List.set_cons_succ]
          refine wpAnyH_take (i := 26) (v := undef) rfl (by kernel_rfl) (by kernel_rfl) (by kernel_rfl) (fun _ _ _ h => h) (Or.inr ⟨by rfl, rfl⟩) hHeld ?_
          try simp only [List.getElem_toArray, List.getElem_cons_succ, List.getElem_cons_zero, Act.put, List.setIfInBounds_toArray, List.set_cons_zero, List.set_cons_succ]
          refine wpAnyH_take (i := 27) (v := undef) rfl (by kernel_rfl) (by kernel_rfl) (by kernel_rfl) (fun _ _ _ h => h) (Or.inr ⟨by rfl, rfl⟩) hHeld ?_
          try simp only [List.getElem_toArray, List.getElem_cons_succ, List.getElem_cons_zero, Act.put, List.setIfInBounds_toArray, List.set_cons_zero, List.set_cons_succ]
          refine wpAnyH_take (i := 28) (v := ?_) rfl (by kernel_rfl) (by kernel_rfl) (by kernel_rfl) (fun _ _ _ h => h) (Or.inl ⟨by rfl, ?_⟩) hHeld ?_
          rotate_left
          · intro w hSw; (try dsimp only at hSw); (try go_simp); (try with_reducible rfl)
          try simp only [List.getElem_toArray, List.getElem_cons_succ, List.getElem_cons_zero, Act.put, List.setIfInBounds_toArray, List.set_cons_zero, List.set_cons_succ]
          refine wpAnyH_take (i := 29) (v := ?_) rfl (by kernel_rfl) (by kernel_rfl) (by kernel_rfl) (fun _ _ _ h => h) (Or.inl ⟨by rfl, ?_⟩) hHeld ?_
          rotate_left
          · intro w hSw; (try dsimp only at hSw); (try go_simp); (try with_reducible rfl)
          try simp only [List.getElem_toArray, List.getElem_cons_succ, List.getElem_cons_zero, Act.put, List.setIfInBounds_toArray, List.set_cons_zero, List.set_cons_succ]
          refine wpAnyH_done (by kernel_rfl) ?_ _
          try simp only [List.getElem_toArray, List.getElem_cons_succ, List.getElem_cons_zero, Act.put, List.setIfInBounds_toArray, List.set_cons_zero, List.set_cons_succ]
          go_wp2_with fail
          go_meet
          exact ⟨rfl, hHeld⟩
        · have HS2 := Lib.hid hs2
          clear hs2
          refine wp_region_held_drew (S := (fun w' => Upd noB W17 w')) (by kernel_rfl) ((Upd.refl _ _).drew) (fun hHeld => ?_)
          refine wpAnyH_take (i := 0) (v := ?_) rfl (by kernel_rfl) (by kernel_rfl) (by kernel_rfl) (fun _ _ _ h => h) (Or.inl ⟨by rfl, ?_⟩) hHeld ?_
          rotate_left
          · intro w hSw; (try dsimp only at hSw); (try go_simp); (try with_reducible rfl)
          try simp only [List.getElem_toArray, List.getElem_cons_succ, List.getElem_cons_zero, Act.put, List.setIfInBounds_toArray, List.set_cons_zero, List.set_cons_succ]
          refine wpAnyH_take (i := 1) (v := .agg (List.toArray (numL [m0, m1, m2, m3]))) rfl (by kernel_rfl) (by kernel_rfl) (by kernel_rfl) (fun _ _ _ h => h) (yieldsIf_load_mid (by rfl) _ _ rfl (d) (0) rfl (numL [m0, m1, m2, m3]) _ (fun w hSw => range_upd (dir_range HDA17.out.hp) hSw (fun x => x)) Try.underlying79 rfl HIM.out) hHeld ?_
          try simp only [List.getElem_toArray, List.getElem_cons_succ, List.getElem_cons_zero, Act.put, List.setIfInBounds_toArray, List.set_cons_zero, List.set_cons_succ]
          refine wpAnyH_take (i := 2) (v := .agg (List.toArray (numL [m0, m1, m2, m3]))) rfl (by kernel_rfl) (by kernel_rfl) (by kernel_rfl) (fun _ _ _ h => h) (yieldsIf_load_mid (by rfl) _ _ rfl (xb) (0) rfl (numL [m0, m1, m2, m3]) _ (fun w hSw => range_upd HXA.out.range hSw (fun x => x)) Try.underlying79 rfl HIM.out) hHeld ?_
          try simp only [List.getElem_toArray, List.getElem_cons_succ, List.getElem_cons_zero, Act.put, List.setIfInBounds_toArray, List.set_cons_zero, List.set_cons_succ]
          refine wpAnyH_take (i := 3) (v := .bool false) rfl (by kernel_rfl) (by kernel_rfl) (by kernel_rfl) (fun _ _ _ h => h) (Or.inl ⟨by rfl, fun w hSw => exec_neq 79 _ _ _ rfl _ _ rfl rfl guard79 _ (HNE.out w)⟩) hHeld ?_
          try simp only [List.getElem_toArray, List.getElem_cons_succ, List.getElem_cons_zero, Act.put, List.setIfInBounds_toArray, List.set_cons_zero, List.set_cons_succ]
          refine wpAnyH_take (i := 4) (v := ?_) rfl (by kernel_rfl) (by kernel_rfl) (by kernel_rfl) (fun _ _ _ h => h) (Or.inl ⟨by rfl, ?_⟩) hHeld ?_
          rotate_left
          · intro w hSw; (try dsimp only at hSw); (try go_simp); (try with_reducible rfl)
          try simp only [List.getElem_toArray, List.getElem_cons_succ, List.getElem_cons_zero, Act.put, List.setIfInBounds_toArray, List.set_cons_zero, List.set_cons_succ]
          refine wpAnyH_take (i := 5) (v := ?_) rfl (by kernel_rfl) (by kernel_rfl) (by kernel_rfl) (fun _ _ _ h => h) (Or.inl ⟨by rfl, ?_⟩) hHeld ?_
          rotate_left
          · intro w hSw; (try dsimp only at hSw); (try go_simp); (try with_reducible rfl)
          try simp only [List.getElem_toArray, List.getElem_cons_succ, List.getElem_cons_zero, Act.put, List.setIfInBounds_toArray, List.set_cons_zero, List.set_cons_succ]
          refine wpAnyH_take (i := 6) (v := ?_) rfl (by kernel_rfl) (by kernel_rfl) (by kernel_rfl) (fun _ _ _ h => h) (Or.inl ⟨by rfl, ?_⟩) hHeld ?_
          rotate_left
          · intro w hSw; (try dsimp only at hSw); (try go_simp); (try with_reducible rfl)
          try simp only [List.getElem_toArray, List.getElem_cons_succ, List.getElem_cons_zero, Act.put, List.setIfInBounds_toArray, List.set_cons_zero, List.set_cons_succ]
          refine wpAnyH_take (i := 7) (v := ?_) rfl (by kernel_rfl) (by kernel_rfl) (by kernel_rfl) (fun _ _ _ h => h) (Or.inl ⟨by rfl, ?_⟩) hHeld ?_
          rotate_left
          · intro w hSw; (try dsimp only at hSw); (try go_simp); (try with_reducible rfl)
          try simp only [List.getElem_toArray, List.getElem_cons_succ, List.getElem_cons_zero, Act.put, List.setIfInBounds_toArray, List.set_cons_zero, List.set_cons_succ]
          refine wpAnyH_take (i := 8) (v := ?_) rfl (by kernel_rfl) (by kernel_rfl) (by kernel_rfl) (fun _ _ _ h => h) (Or.inl ⟨by rfl, ?_⟩) hHeld ?_
          rotate_left
          · intro w hSw; (try dsimp only at hSw); (try go_simp); (try with_reducible rfl)
          try simp only [List.getElem_toArray, List.getElem_cons_succ, List.getElem_cons_zero, Act.put, List.setIfInBounds_toArray, List.set_cons_zero, List.set_cons_succ]
          refine wpAnyH_take (i := 9) (v := ?_) rfl (by kernel_rfl) (by kernel_rfl) (by kernel_rfl) (fun _ _ _ h => h) (Or.inl ⟨by rfl, ?_⟩) hHeld ?_
          rotate_left
          · intro w hSw; (try dsimp only at hSw); (try go_simp); (try with_reducible rfl)
          try simp only [List.getElem_toArray, List.getElem_cons_succ, List.getElem_cons_zero, Act.put, List.setIfInBounds_toArray, List.set_cons_zero, List.set_cons_succ]
          refine wpAnyH_take (i := 10) (v := ?_) rfl (by kernel_rfl) (by kernel_rfl) (by kernel_rfl) (fun _ _ _ h => h) (Or.inl ⟨by rfl, ?_⟩) hHeld ?_
          rotate_left
          · intro w hSw; (try dsimp only at hSw); (try go_simp); (try with_reducible rfl)
          try simp only [List.getElem_toArray, List.getElem_cons_succ, List.getElem_cons_zero, Act.put, List.setIfInBounds_toArray, List.set_cons_zero, List.set_cons_succ]
          refine wpAnyH_take (i := 11) (v := ?_) rfl (by kernel_rfl) (by kernel_rfl) (by kernel_rfl) (fun _ _ _ h => h) (Or.inl ⟨by rfl, ?_⟩) hHeld ?_
          rotate_left
          · intro w hSw; (try dsimp only at hSw); (try go_simp); (try with_reducible rfl)
          try simp only [List.getElem_toArray, List.getElem_cons_succ, List.getElem_cons_zero, Act.put, List.setIfInBounds_toArray, List.set_cons_zero, List.set_cons_succ]
          refine wpAnyH_take (i := 12) (v := ?_) rfl (by kernel_rfl) (by kernel_rfl) (by kernel_rfl) (fun _ _ _ h => h) (Or.inl ⟨by rfl, ?_⟩) hHeld ?_
          rotate_left
          · intro w hSw; (try dsimp only at hSw); (try go_simp); (try with_reducible rfl)
          try simp only [List.getElem_toArray, List.getElem_cons_succ, List.getElem_cons_zero, Act.put, List.setIfInBounds_toArray, List.set_cons_zero, List.set_cons_succ]
          refine wpAnyH_take (i := 13) (v := .pointer (some ⟨p2, 0, none⟩)) rfl (by kernel_rfl) (by kernel_rfl) (by kernel_rfl) (fun _ _ _ h => h) (Or.inl ⟨by rfl, fun w hSw => by have h1 := hSw.cell HDA17.out.used (fun x => x); go_simp⟩) hHeld ?_
          try simp only [List.getElem_toArray, List.getElem_cons_succ, List.getElem_cons_zero, Act.put, List.setIfInBounds_toArray, List.set_cons_zero, List.set_cons_succ]
          refine wpAnyH_take (i := 14) (v := ?_) rfl (by kernel_rfl) (by kernel_rfl) (by kernel_rfl) (fun _ _ _ h => h) (Or.inl ⟨by rfl, ?_⟩) hHeld ?_
          rotate_left
          · intro w hSw; (try dsimp only at hSw); (try go_simp); (try with_reducible rfl)
          try simp only [List.getElem_toArray, List.getElem_cons_succ, List.getElem_cons_zero, Act.put, List.setIfInBounds_toArray, List.set_cons_zero, List.set_cons_succ]
          refine wpAnyH_take (i := 15) (v := ?_) rfl (by kernel_rfl) (by kernel_rfl) (by kernel_rfl) (fun _ _ _ h => h) (Or.inl ⟨by rfl, ?_⟩) hHeld ?_
          rotate_left
          · intro w hSw; (try dsimp only at hSw); (try go_simp); (try with_reducible rfl)
          try simp only [List.getElem_toArray, List.getElem_cons_succ, List.getElem_cons_zero, Act.put, List.setIfInBounds_toArray, List.set_cons_zero, List.set_cons_succ]
          refine wpAnyH_take (i := 16) (v := ?_) rfl (by kernel_rfl) (by kernel_rfl) (by kernel_rfl) (fun _ _ _ h => h) (Or.inl ⟨by rfl, ?_⟩) hHeld ?_
          rotate_left
          · intro w hSw; (try dsimp only at hSw); (try go_simp); (try with_reducible rfl)
          try simp only [List.getElem_toArray, List.getElem_cons_succ, List.getElem_cons_zero, Act.put, List.setIfInBounds_toArray, List.set_cons_zero, List.set_cons_succ]
          refine wpAnyH_take (i := 17) (v := ?_) rfl (by kernel_rfl) (by kernel_rfl) (by kernel_rfl) (fun _ _ _ h => h) (Or.inl ⟨by rfl, ?_⟩) hHeld ?_
          rotate_left
          · intro w hSw; (try dsimp only at hSw); (try go_simp); (try with_reducible rfl)
          try simp only [List.getElem_toArray, List.getElem_cons_succ, List.getElem_cons_zero, Act.put, List.setIfInBounds_toArray, List.set_cons_zero, List.set_cons_succ]
          refine wpAnyH_take (i := 18) (v := ?_) rfl (by kernel_rfl) (by kernel_rfl) (by kernel_rfl) (fun _ _ _ h => h) (Or.inl ⟨by rfl, ?_⟩) hHeld ?_
          rotate_left
          · intro w hSw; (try dsimp only at hSw); (try go_simp); (try with_reducible rfl)
          try simp only [List.getElem_toArray, List.getElem_cons_succ, List.getElem_cons_zero, Act.put, List.setIfInBounds_toArray, List.set_cons_zero, List.set_cons_succ]
          refine wpAnyH_take (i := 19) (v := ?_) rfl (by kernel_rfl) (by kernel_rfl) (by kernel_rfl) (fun _ _ _ h => h) (Or.inl ⟨by rfl, ?_⟩) hHeld ?_
          rotate_left
          · intro w hSw; (try dsimp only at hSw); (try go_simp); (try with_reducible rfl)
          try simp only [List.getElem_toArray, List.getElem_cons_succ, List.getElem_cons_zero, Act.put, List.setIfInBounds_toArray, List.set_cons_zero, List.set_cons_succ]
          refine wpAnyH_take (i := 20) (v := ?_) rfl (by kernel_rfl) (by kernel_rfl) (by kernel_rfl) (fun _ _ _ h => h) (Or.inl ⟨by rfl, ?_⟩) hHeld ?_
          rotate_left
          · intro w hSw; (try dsimp only at hSw); (try go_simp); (try with_reducible rfl)
          try simp only [List.getElem_toArray, List.getElem_cons_succ, List.getElem_cons_zero, Act.put, List.setIfInBounds_toArray, List.set_cons_zero, List.set_cons_succ]
          refine wpAnyH_take (i := 21) (v := ?_) rfl (by kernel_rfl) (by kernel_rfl) (by kernel_rfl) (fun _ _ _ h => h) (Or.inl ⟨by rfl, ?_⟩) hHeld ?_
          rotate_left
          · intro w hSw; (try dsimp only at hSw); (try go_simp); (try with_reducible rfl)
          try simp only [List.getElem_toArray, List.getElem_cons_succ, List.getElem_cons_zero, Act.put, List.setIfInBounds_toArray, List.set_cons_zero, List.set_cons_succ]
          refine wpAnyH_take (i := 22) (v := .pointer (some ⟨p2, 0, none⟩)) rfl (by kernel_rfl) (by kernel_rfl) (by kernel_rfl) (fun _ _ _ h => h) (Or.inl ⟨by rfl, fun w hSw => by have h1 := hSw.cell HDA17.out.used (fun x => x); go_simp⟩) hHeld ?_
          try simp only [List.getElem_toArray, List.getElem_cons_succ, List.getElem_cons_zero, Act.put, List.setIfInBounds_toArray, List.set_cons_zero, List.set_cons_succ]
          refine wpAnyH_take (i := 25) (v := ?_) rfl (by kernel_rfl) (by kernel_rfl) (by kernel_rfl) (fun _ _ _ h => h) (Or.inl ⟨by rfl, ?_⟩) hHeld ?_
          rotate_left
          · intro w hSw; (try dsimp only at hSw); (try go_simp); (try with_reducible rfl)
          try simp only [List.getElem_toArray, List.getElem_cons_succ, List.getElem_cons_zero, Act.put, List.setIfInBounds_toArray, List.set_cons_zero, List.set_cons_succ]
          refine wpAnyH_ready (rs := [23]) (by kernel_rfl) (by simp) ?_
          refine AllReadyH.cons rfl (fun K hK => ?_) AllReadyH.nil
          rw [if_pos (by rfl)]
          try simp only [List.getElem_toArray, List.getElem_cons_succ, List.getElem_cons_zero, Act.put, List.setIfInBounds_toArray, List.set_cons_zero, List.set_cons_succ]
          go_wp2_with fail
          refine (Table.bytes_at (HS2.out.upd0 hHeld)).mono ?_
          rintro e w20 ⟨vb, rfl, hrb, -, hub⟩
          have hc1 := Lib.hid (conv_of (row_of_owns (cs := u8s (bytesOf (truths 512 (dirY xs)))) (by unfold u8s; rw [List.length_map, bytesOf_length]) hrb) (by rw [bytesOf_length, truths_length]; decide))
          clear hrb
          try simp only [List.getElem_toArray, List.getElem_cons_succ, List.getElem_cons_zero, Act.put, List.setIfInBounds_toArray, List.set_cons_zero, List.set_cons_succ]
          refine hK.out _ _ (hHeld.then0 hub) (fun hHeld => ?_)
          clear hK K
          try simp only [List.getElem_toArray, List.getElem_cons_succ, List.getElem_cons_zero, Act.put, List.setIfInBounds_toArray, List.set_cons_zero, List.set_cons_succ]
          refine wpAnyH_ready (rs := [24, 26]) (by kernel_rfl) (by simp) ?_
          refine AllReadyH.cons rfl (fun K hK => ?_) (AllReadyH.cons rfl (fun K hK => ?_) AllReadyH.nil)
          · rw [if_pos (by rfl)]
            try simp only [List.getElem_toArray, List.getElem_cons_succ, List.getElem_cons_zero, Act.put, List.setIfInBounds_toArray, List.set_cons_zero, List.set_cons_succ]
            have h1 := hc1.out.run
            go_wp2_with fail
            try simp only [List.getElem_toArray, List.getElem_cons_succ, List.getElem_cons_zero, Act.put, List.setIfInBounds_toArray, List.set_cons_zero, List.set_cons_succ]
            refine hK.out _ _ (hHeld) (fun hHeld => ?_)
            clear hK K
            try simp only [List.getElem_toArray, List.getElem_cons_succ, List.getElem_cons_zero, Act.put, List.setIfInBounds_toArray, List.set_cons_zero, List.set_cons_succ]
            refine wpAnyH_ready (rs := [26]) (by kernel_rfl) (by simp) ?_
            refine AllReadyH.cons rfl (fun K hK => ?_) AllReadyH.nil
            rw [if_pos (by rfl)]
            try simp only [List.getElem_toArray, List.getElem_cons_succ, List.getElem_cons_zero, Act.put, List.setIfInBounds_toArray, List.set_cons_zero, List.set_cons_succ]
            go_wp2_with fail
            refine (bytes_ref ((HYR17.out (by trivial)).upd0 hHeld) (by rw [truths_length]; omega)).mono ?_
            rintro e w21 ⟨rfl, hu21⟩
            have hc1 := Lib.hid (hc1.out.upd hu21)
            try simp only [List.getElem_toArray, List.getElem_cons_succ, List.getElem_cons_zero, Act.put, List.setIfInBounds_toArray, List.set_cons_zero, List.set_cons_succ]
            refine hK.out _ _ (hHeld.then0 hu21) (fun hHeld => ?_)
            clear hK K
            try simp only [List.getElem_toArray, List.getElem_cons_succ, List.getElem_cons_zero, Act.put, List.setIfInBounds_toArray, List.set_cons_zero, List.set_cons_succ]
            refine wpAnyH_take (i := 27) (v := ?_) rfl (by kernel_rfl) (by kernel_rfl) (by kernel_rfl) (fun _ _ _ h => h) (Or.inl ⟨by rfl, ?_⟩) hHeld ?_
            rotate_left
            · intro w hSw; (try dsimp only at hSw); (try go_simp); (try with_reducible rfl)
            try simp only [List.getElem_toArray, List.getElem_cons_succ, List.getElem_cons_zero, Act.put, List.setIfInBounds_toArray, List.set_cons_zero, List.set_cons_succ]
            refine wpAnyH_take (i := 28) (v := ?_) rfl (by kernel_rfl) (by kernel_rfl) (by kernel_rfl) (fun _ _ _ h => h) (Or.inl ⟨by rfl, ?_⟩) hHeld ?_
            rotate_left
            · intro w hSw; (try dsimp only at hSw); (try go_simp); (try with_reducible rfl)
            try simp only [List.getElem_toArray, List.getElem_cons_succ, List.getElem_cons_zero, Act.put, List.setIfInBounds_toArray, List.set_cons_zero, List.set_cons_succ]
            refine wpAnyH_take (i := 29) (v := ?_) rfl (by kernel_rfl) (by kernel_rfl) (by kernel_rfl) (fun _ _ _ h => h) (Or.inl ⟨by rfl, ?_⟩) hHeld ?_
            rotate_left
            · intro w hSw; (try dsimp only at hSw); (try go_simp); (try with_reducible rfl)
            try simp only [List.getElem_toArray, List.getElem_cons_succ, List.getElem_cons_zero, Act.put, List.setIfInBounds_toArray, List.set_cons_zero, List.set_cons_succ]
            refine wpAnyH_done (by kernel_rfl) ?_ _
            try simp only [List.getElem_toArray, List.getElem_cons_succ, List.getElem_cons_zero, Act.put, List.setIfInBounds_toArray, List.set_cons_zero, List.set_cons_succ]
            go_wp2_with fail
            go_meet
            exact ⟨rfl, hHeld⟩
          · rw [if_pos (by rfl)]
            try simp only [List.getElem_toArray, List.getElem_cons_succ, List.getElem_cons_zero, Act.put, List.setIfInBounds_toArray, List.set_cons_zero, List.set_cons_succ]
            go_wp2_with fail
            refine (bytes_ref ((HYR17.out (by trivial)).upd0 hHeld) (by rw [truths_length]; omega)).mono ?_
            rintro e w21 ⟨rfl, hu21⟩
            have hc1 := Lib.hid (hc1.out.upd hu21)
            try simp only [List.getElem_toArray, List.getElem_cons_succ, List.getElem_cons_zero, Act.put, List.setIfInBounds_toArray, List.set_cons_zero, List.set_cons_succ]
            refine hK.out _ _ (hHeld.then0 hu21) (fun hHeld => ?_)
            clear hK K
            try simp only [List.getElem_toArray, List.getElem_cons_succ, List.getElem_cons_zero, Act.put, List.setIfInBounds_toArray, List.set_cons_zero, List.set_cons_succ]
            refine wpAnyH_ready (rs := [24]) (by kernel_rfl) (by simp) ?_
            refine AllReadyH.cons rfl (fun K hK => ?_) AllReadyH.nil
            rw [if_pos (by rfl)]
            try simp only [List.getElem_toArray, List.getElem_cons_succ, List.getElem_cons_zero, Act.put, List.setIfInBounds_toArray, List.set_cons_zero, List.set_cons_succ]
            have h1 := hc1.out.run
            go_wp2_with fail
            try simp only [List.getElem_toArray, List.getElem_cons_succ, List.getElem_cons_zero, Act.put, List.setIfInBounds_toArray, List.set_cons_zero, List.set_cons_succ]
            refine hK.out _ _ (hHeld) (fun hHeld => ?_)
            clear hK K
            try simp only [List.getElem_toArray, List.getElem_cons_succ, List.getElem_cons_zero, Act.put, List.setIfInBounds_toArray, List.set_cons_zero, List.set_cons_succ]
            refine wpAnyH_take (i := 27) (v := ?_) rfl (by kernel_rfl) (by kernel_rfl) (by kernel_rfl) (fun _ _ _ h => h) (Or.inl ⟨by rfl, ?_⟩) hHeld ?_
            rotate_left
            · intro w hSw; (try dsimp only at hSw); (try go_simp); (try with_reducible rfl)
            try simp only [List.getElem_toArray, List.getElem_cons_succ, List.getElem_cons_zero, Act.put, List.setIfInBounds_toArray, List.set_cons_zero, List.set_cons_succ]
            refine wpAnyH_take (i := 28) (v := ?_) rfl (by kernel_rfl) (by kernel_rfl) (by kernel_rfl) (fun _ _ _ h => h) (Or.inl ⟨by rfl, ?_⟩) hHeld ?_
            rotate_left
            · intro w hSw; (try dsimp only at hSw); (try go_simp); (try with_reducible rfl)
            try simp only [List.getElem_toArray, List.getElem_cons_succ, List.getElem_cons_zero, Act.put, List.setIfInBounds_toArray, List.set_cons_zero, List.set_cons_succ]
            refine wpAnyH_take (i := 29) (v := ?_) rfl (by kernel_rfl) (by kernel_rfl) (by kernel_rfl) (fun _ _ _ h => h) (Or.inl ⟨by rfl, ?_⟩) hHeld ?_
            rotate_left
            · intro w hSw; (try dsimp only at hSw); (try go_simp); (try with_reducible rfl)
            try simp only [List.getElem_toArray, List.getElem_cons_succ, List.getElem_cons_zero, Act.put, List.setIfInBounds_toArray, List.set_cons_zero, List.set_cons_succ]
            refine wpAnyH_done (by kernel_rfl) ?_ _
            try simp only [List.getElem_toArray, List.getElem_cons_succ, List.getElem_cons_zero, Act.put, List.setIfInBounds_toArray, List.set_cons_zero, List.set_cons_succ]
            go_wp2_with fail
            go_meet
            exact ⟨rfl, hHeld⟩
      obtain ⟨rfl, hu18⟩ := hcut
      have HS18 := Lib.hid (HS17.out.upd0 hu18.out)
      have HA18 := Lib.hid (HA17.out.upd0 hu18.out)
      have HU18 := Lib.hid (HU17.out.then0 hu18.out)
      have hgv18 := HGV17.out
      clear HS17 HA17 HU17 HNE HIM HYR17 HDA17 HXA hpd17
      rcases hgv18 with ⟨_, rfl, rfl⟩ | ⟨hok, rfl, hrg⟩
      · clear hu18
        go_wp2_with (go_at_call 30; refine (HLV.out _).mono ?_; rintro e w' ⟨rfl, hu⟩)
        go_ret
        exact ⟨rfl, HU18.out.then0 hu⟩
      · have hrg2 := hrg.upd0 hu18.out
        obtain ⟨Ag, cg, rfl, hcg, hbg⟩ := row_bytes hrg2
        have hdl := dirB_length (L := [x0, x1, x2, x3]) (S := S) rfl HSL.out
        have hdec := dec_at (w := wc) Ag cg (dirB [x0, x1, x2, x3] S) (dirB_bytes hok) (by rw [hdl]; omega) hcg hbg
        have hdec2 : Calls Try.prog 47 #[.slice Ag (dirB [x0, x1, x2, x3] S).length cg] wc fun e w' => Upd noB wc w' ∧ ∃ p g c, e = .returned (.tuple #[.agg #[.int .i64 x0, .int .i64 x1, .int .i64 x2, .int .i64 x3, .pointer (some ⟨p, 0, none⟩)], .int .i64 0]) ∧ Table.SetAt w' p g c S := by
          refine hdec.mono ?_
          rintro e w' ⟨hu, ⟨h1, h2⟩ | ⟨h1, h2, h3⟩ | ⟨h1, h2, p, g, c, h3, h4⟩⟩
          · exact absurd hdl h1
          · rw [dirOK_dirB hok HSL.out] at h2; cases h2
          · refine ⟨hu, p, g, c, ?_, ?_⟩
            · rw [h3, dirL_dirB hok]; rfl
            · rwa [truths_dirB rfl HSL.out] at h4
        rw [hdl] at hdec2 ⊢
        have HDE := Lib.hid hdec2
        clear hdec hdec2 hdl hrg hrg2 hcg hbg hok hu18
        go_wp2_with fail
        refine HDE.out.mono ?_
        rintro e w20 ⟨hu20, p2, g2, c2, rfl, hs2⟩
        have HS2 := Lib.hid hs2
        have HS20 := Lib.hid (HS18.out.upd0 hu20)
        have HA20 := Lib.hid (HA18.out.upd0 hu20)
        have HU20 := Lib.hid (HU18.out.then0 hu20)
        clear hs2 hu20 HDE HS18 HA18 HU18
        go_upto_region 22 with fail
        obtain ⟨d2, hd2⟩ : ∃ d, d = w20.heap.size := ⟨_, rfl⟩
        obtain ⟨W21, hW21⟩ : ∃ W, W = w20.alloc (.cells #[.int .i64 x0, .int .i64 x1, .int .i64 x2, .int .i64 x3, .pointer (some ⟨p2, 0, none⟩)] 88) := ⟨_, rfl⟩
        have hda : DirAt W21 d2 [x0, x1, x2, x3] (.pointer (some ⟨p2, 0, none⟩)) := by rw [hW21, hd2]; exact ⟨heap_alloc_new _ _, rfl⟩
        have hu21 : Upd noB w20 W21 := by rw [hW21]; exact (Upd.refl _ _).alloc _
        rw [← hd2, ← hW21]
        have HDR := Lib.hid (dir_range hda.hp)
        have hcd := hda.used
        have HS21 := Lib.hid (HS20.out.upd0 hu21)
        have HS22 := Lib.hid (HS2.out.upd0 hu21)
        have HA21 := Lib.hid (HA20.out.upd0 hu21)
        have HU21 := Lib.hid (HU20.out.then0 hu21)
        have HIX := Lib.hid (show (Try.prog.info? 79).map (·.size) = some (numL [x0, x1, x2, x3]).length from info79')
        have HEQ := Lib.hid (show (binOp .eql 79 (.agg (nums [x0, x1, x2, x3])) (.agg (nums [x0, x1, x2, x3]))).run Try.prog W21 = .ok (.bool true) W21 by
          have he := equal_arr4 W21 [x0, x1, x2, x3] [x0, x1, x2, x3] rfl rfl
          simp only [binOp]
          simp [Op.equal, Op.maxDepth, he])
        have HSM := Lib.hid (Table.same_at HS22.out HS21.out)
        clear hd2 hW21 hda hu21 HS2 HS20 HA20 HU20
        go_wp2_with (first | (refine wpList_load_wanted rfl 79 _ rfl d2 0 rfl (numL [x0, x1, x2, x3]) _ HDR.out Try.underlying79 rfl HIX.out ?_) | (refine wpList_load_wanted rfl 79 _ rfl a 0 rfl (numL [x0, x1, x2, x3]) _ HA21.out.range Try.underlying79 rfl HIX.out ?_) | (refine wpList_eql_wanted rfl 79 _ _ _ rfl (nums [x0, x1, x2, x3]) (nums [x0, x1, x2, x3]) rfl rfl guard79 _ HEQ.out ?_) | (go_at_call 50; refine HSM.out.mono ?_; rintro e w22 ⟨rfl, n22, rfl⟩) | (go_at_call 30; refine (HLV.out _).mono ?_; rintro e w23 ⟨rfl, hu23⟩))
        go_ret
        exact ⟨rfl, (HU21.out.drewN n22).then0 hu23⟩
end Go.Proofs.Ytejpcgoblgaieaa.TableDirs
