/-
  What step of hibernaclelaw07 does, dropping and asking.
-/
import Derived.Test.YtejpcgoblgaieaaLaw07
set_option linter.unusedVariables false
set_option linter.unusedSimpArgs false
namespace Go.Proofs.Ytejpcgoblgaieaa.Law07
open Go.RowKit Go.Proofs.Ytejpcgoblgaieaa
section
variable {w : World} {p : Nat} {X : List Int}

theorem cell_past {w : World} {b c o : Nat} {v : Value} (vs : List Value) (h : w.cell? ⟨b, o, none⟩ = some v) (hne : b ≠ c) : (w.setCells c 0 vs).cell? ⟨b, o, none⟩ = some v := by
  rw [World.cell?_setCells_out c vs 0 w ⟨b, o, none⟩ (fun hb _ => absurd hb hne)]; exact h
/-- What region 13 reads and writes. -/
def S13 (a b c : Nat) (Y : List Int) (l : Int) (w' : World) : Prop := w'.rangeAt a 0 (numL Y) ∧ w'.there c 0 512 ∧ w'.cell? ⟨b, 1, none⟩ = some (.int .i64 l)
theorem S13.mk {V : World} {a b c : Nat} {Y Z : List Int} {k l q : Int} (ha : ArrAt V a Y) (hc : ArrAt V c Z) (ho : V.heap[b]? = some (.cells #[.int .i64 k, .int .i64 l, .int .i64 q] 107 (0, 0))) : S13 a b c Y l V :=
  ⟨ha.range, hc.there, cell_at ho 1⟩
theorem S13.drew {V : World} {a b c : Nat} {Y : List Int} {l : Int} (h : S13 a b c Y l V) : S13 a b c Y l V.drew := ⟨(World.rangeAt_drew _ _ _ _).2 h.1, (World.there_drew _ _ _ _).2 h.2.1, by simpa using h.2.2⟩
theorem S13.setCells {V : World} {a b c : Nat} {Y : List Int} {l : Int} (h : S13 a b c Y l V) (vs : List Value) (h1 : a ≠ c) (h2 : b ≠ c) : S13 a b c Y l (V.setCells c 0 vs) :=
  ⟨World.rangeAt_setCells_apart h.1 _ _ _ (.inl h1), World.there_setCells h.2.1 _ _ _, cell_past vs h.2.2 h2⟩

set_option maxRecDepth 100000 in
set_option maxHeartbeats 8000000 in
/-- **step**, dropping. -/
theorem step_1 (h : TabAt w p X) (hX : Told X) (l q : Int) :
    Calls Try.prog 60 #[.pointer (some ⟨p, 0, none⟩), .agg (nums X), .agg #[.int .i64 1, .int .i64 l, .int .i64 q]] w fun e w' =>
      e = .returned (.tuple #[.agg (nums (stepX X 1 l q)), .bool true]) ∧ TabAt w' p (stepX X 1 l q) ∧ Upd (oneB p) w w' := by
  have hl := h.len
  obtain ⟨W, a, b, c, hW, hwa, hwb, hwc, ha, ho, hc, ht, hu, h1, h2, h3, h4⟩ := step_start h 1 l q
  have hge : w.heap.size ≤ c := by omega
  go_enter Try.func60, Try.ntmps60
  go_upto_region 1 with fail
  clear hW hwa hwb hwc h
  have ho0 := cell_at ho 0
  have ho1 := cell_at ho 1
  have ho2 := cell_at ho 2
  simp only [List.getElem?_toArray, List.getElem?_cons_zero, List.getElem?_cons_succ] at ho0 ho1 ho2
  have HA := Lib.hid ha
  have HO := Lib.hid ho
  have HC := Lib.hid hc
  have HT := Lib.hid ht
  have HU := Lib.hid (hu.mono (S' := oneB p) (fun _ x => x.elim))
  have HL := Lib.hid hl
  clear ha ho hc ht hu hl
  have hnac : ¬ oneB p a ∧ ¬ oneB p b ∧ ¬ oneB p c := by refine ⟨?_, ?_, ?_⟩ <;> (show ¬ _ = _; omega)
  have hu57 := Try.underlying57
  by_cases hin : inT l = true
  · obtain ⟨n, rfl, hn⟩ : ∃ n : Nat, l = n ∧ n < 512 := by
      rcases place_cases l with hh | hh
      · rw [inT_out l hh] at hin; cases hin
      · exact hh
    have hd1 : decide (0 ≤ (n : Int)) = true := by simp
    have hd2 : decide ((n : Int) < 512) = true := by simp; omega
    have hst : stepX X 1 n q = X.set n 0 := by unfold stepX; rw [if_neg (by decide), if_pos rfl, setX_nat X n 0 hn]
    have HST := Lib.hid hst
    have hl3 : (X.set n 0).length = 512 := by rw [List.length_set]; exact HL.out
    have HL3 := Lib.hid hl3
    have hi57 : (Try.prog.info? 57).map (·.size) = some (numL (X.set n 0)).length := by rw [numL_length, hl3]; exact info57
    have hcell := HA.out.cell n hn
    have hfree := HA.out.free n
    have hu3 : Upd (oneB a) W (W.setCell ⟨a, n, none⟩ (.int .i64 0)) := by
      refine Upd.setCell (Upd.refl _ _) ?_ _; exact .inl rfl
    have ha3 := HA.out.store n 0
    have hc3 := HC.out.upd hu3 (show ¬ c = a by omega)
    have ht3 := HT.out.upd hu3 (show ¬ p = a by omega)
    have ho3 := hu3.at HO.out (show ¬ b = a by omega)
    have HU3 := Lib.hid (HU.out.trans hu3 (fun k e => .inr (by cases e; exact h4)))
    have hto := hX.at n
    have hdr : ∀ W, TabAt W p X → Calls Try.prog 79 #[.pointer (some ⟨p, 0, none⟩), .int .i64 (n : Int)] W fun e w' =>
        e = .returned (.bool (decide (0 < X.getD n 0))) ∧ TabAt w' p (X.set n 0) ∧ Upd (oneB p) W w' := fun W h => by
      have := tdrop_at h hX (n : Int)
      rwa [atI_nat X n hn, setX_nat X n 0 hn] at this
    obtain ⟨x, hx⟩ : ∃ x, X.getD n 0 = x := ⟨_, rfl⟩
    rw [hx] at hcell hto hdr
    clear hx hst
    have hdd : decide (0 < x) = !(x == 0) := by
      rcases hto with rfl | hto
      · rfl
      · have h0 : (x == 0) = false := by simp; omega
        rw [h0]; simp; omega
    by_cases hx0 : x = 0
    · have hd3 : (x == 0) = true := by simpa using hx0
      rw [hdd, hd3] at hdr
      have Hdr := Lib.hid hdr
      clear hdr hdd hto hx0 hi57 hl3
      go_upto_region 13 with fail
      obtain ⟨V, hV⟩ : ∃ V, W.setCell ⟨a, n, none⟩ (.int .i64 0) = V := ⟨_, rfl⟩
      rw [hV] at ha3 hc3 ht3 ho3 HU3 ⊢
      clear hV hu3
      have hS : S13 a b c (X.set n 0) n V := S13.mk ha3 hc3 ho3
      have HA3 := Lib.hid ha3
      have HC3 := Lib.hid hc3
      have HO3 := Lib.hid ho3
      have HT3 := Lib.hid ht3
      clear ha3 hc3 ho3 ht3
      have hi57 : (Try.prog.info? 57).map (·.size) = some (numL (X.set n 0)).length := by rw [numL_length, HL3.out]; exact info57
      have hlen57 : (numL (X.set n 0)).length = 512 := by rw [numL_length, HL3.out]
      have hone57 := numL_one (X.set n 0)
      go_region_held3 (fun w' => w'.rangeAt a 0 (numL (X.set n 0)) ∧ w'.there c 0 512 ∧ w'.cell? ⟨b, 1, none⟩ = some (.int .i64 (n : Int)))
        (first | exact S13.drew hS | exact hS5 | exact S13.setCells hS5 _ (by omega) (by omega))
        (first | (go_at_call 79; refine (Hdr.out _ (HT3.out.upd0 ((Upd.refl _ _).drew))).mono ?_; rintro e w3 ⟨rfl, ht5, hu5⟩
                  have hc5 := (HC3.out.upd0 ((Upd.refl _ _).drew)).upd hu5 hnac.2.2
                  have hS5 : S13 a b c (X.set n 0) (n : Int) w3 := S13.mk ((HA3.out.upd0 ((Upd.refl _ _).drew)).upd hu5 hnac.1) hc5 ((((Upd.refl noB _).drew).at HO3.out (fun x => x) |> hu5.at) hnac.2.1)))
      all_goals (go_wp2_with fail; refine step_fin HL3.out hc5 ht5 (HU3.out.drew.then hu5) hge (by omega) rfl ?_ HST.out; refine congrArg Value.bool ?_; simp only [bne, hd3]; rfl)
    · have hd3 : (x == 0) = false := by simpa using hx0
      rw [hdd, hd3] at hdr
      have Hdr := Lib.hid hdr
      clear hdr hdd hto hx0 hi57 hl3
      go_upto_region 13 with fail
      obtain ⟨V, hV⟩ : ∃ V, W.setCell ⟨a, n, none⟩ (.int .i64 0) = V := ⟨_, rfl⟩
      rw [hV] at ha3 hc3 ht3 ho3 HU3 ⊢
      clear hV hu3
      have hS : S13 a b c (X.set n 0) n V := S13.mk ha3 hc3 ho3
      have HA3 := Lib.hid ha3
      have HC3 := Lib.hid hc3
      have HO3 := Lib.hid ho3
      have HT3 := Lib.hid ht3
      clear ha3 hc3 ho3 ht3
      have hi57 : (Try.prog.info? 57).map (·.size) = some (numL (X.set n 0)).length := by rw [numL_length, HL3.out]; exact info57
      have hlen57 : (numL (X.set n 0)).length = 512 := by rw [numL_length, HL3.out]
      have hone57 := numL_one (X.set n 0)
      go_region_held3 (fun w' => w'.rangeAt a 0 (numL (X.set n 0)) ∧ w'.there c 0 512 ∧ w'.cell? ⟨b, 1, none⟩ = some (.int .i64 (n : Int)))
        (first | exact S13.drew hS | exact hS5 | exact S13.setCells hS5 _ (by omega) (by omega))
        (first | (go_at_call 79; refine (Hdr.out _ (HT3.out.upd0 ((Upd.refl _ _).drew))).mono ?_; rintro e w3 ⟨rfl, ht5, hu5⟩
                  have hc5 := (HC3.out.upd0 ((Upd.refl _ _).drew)).upd hu5 hnac.2.2
                  have hS5 : S13 a b c (X.set n 0) (n : Int) w3 := S13.mk ((HA3.out.upd0 ((Upd.refl _ _).drew)).upd hu5 hnac.1) hc5 ((((Upd.refl noB _).drew).at HO3.out (fun x => x) |> hu5.at) hnac.2.1)))
      all_goals (go_wp2_with fail; refine step_fin HL3.out hc5 ht5 (HU3.out.drew.then hu5) hge (by omega) rfl ?_ HST.out; refine congrArg Value.bool ?_; simp only [bne, hd3]; rfl)
  · have hin : inT l = false := by simpa using hin
    have hst : stepX X 1 l q = X := by
      unfold stepX; rw [if_neg (by decide), if_pos rfl]
      rcases place_cases l with hh | ⟨n, rfl, hn⟩
      · exact setX_out X l 0 hh
      · rw [inT_nat n hn] at hin; cases hin
    have HST := Lib.hid hst
    have hl2 : l < 0 ∨ 512 ≤ l := by
      rcases place_cases l with hh | ⟨n, rfl, hn⟩
      · exact hh
      · rw [inT_nat n hn] at hin; cases hin
    have hdr : ∀ W, TabAt W p X → Calls Try.prog 79 #[.pointer (some ⟨p, 0, none⟩), .int .i64 l] W fun e w' =>
        e = .returned (.bool false) ∧ TabAt w' p X ∧ Upd (oneB p) W w' := fun W h => by
      have := tdrop_at h hX l
      rw [atI_out X l hl2, setX_out X l 0 hl2] at this
      exact this
    have Hdr := Lib.hid hdr
    clear hdr hst hin
    rcases hl2 with hneg | hbig
    · have hd1 : decide (0 ≤ l) = false := by simp; omega
      clear hneg
      go_upto_region 13 with fail
      have hS : S13 a b c X l W := S13.mk HA.out HC.out HO.out
      have HA3 := HA
      have HC3 := HC
      have HO3 := HO
      have HT3 := HT
      have HU3 := HU
      have hi57 : (Try.prog.info? 57).map (·.size) = some (numL X).length := by rw [numL_length, HL.out]; exact info57
      have hlen57 : (numL X).length = 512 := by rw [numL_length, HL.out]
      have hone57 := numL_one X
      go_region_held3 (fun w' => w'.rangeAt a 0 (numL X) ∧ w'.there c 0 512 ∧ w'.cell? ⟨b, 1, none⟩ = some (.int .i64 l))
        (first | exact S13.drew hS | exact hS5 | exact S13.setCells hS5 _ (by omega) (by omega))
        (first | (go_at_call 79; refine (Hdr.out _ (HT3.out.upd0 ((Upd.refl _ _).drew))).mono ?_; rintro e w3 ⟨rfl, ht5, hu5⟩
                  have hc5 := (HC3.out.upd0 ((Upd.refl _ _).drew)).upd hu5 hnac.2.2
                  have hS5 : S13 a b c X l w3 := S13.mk ((HA3.out.upd0 ((Upd.refl _ _).drew)).upd hu5 hnac.1) hc5 ((((Upd.refl noB _).drew).at HO3.out (fun x => x) |> hu5.at) hnac.2.1)))
      all_goals (go_wp2_with fail; exact step_fin HL.out hc5 ht5 (HU3.out.drew.then hu5) hge (by omega) rfl rfl HST.out)
    · have hd1 : decide (0 ≤ l) = true := by simp; omega
      have hd2 : decide (l < 512) = false := by simp; omega
      clear hbig
      go_upto_region 13 with fail
      have hS : S13 a b c X l W := S13.mk HA.out HC.out HO.out
      have HA3 := HA
      have HC3 := HC
      have HO3 := HO
      have HT3 := HT
      have HU3 := HU
      have hi57 : (Try.prog.info? 57).map (·.size) = some (numL X).length := by rw [numL_length, HL.out]; exact info57
      have hlen57 : (numL X).length = 512 := by rw [numL_length, HL.out]
      have hone57 := numL_one X
      go_region_held3 (fun w' => w'.rangeAt a 0 (numL X) ∧ w'.there c 0 512 ∧ w'.cell? ⟨b, 1, none⟩ = some (.int .i64 l))
        (first | exact S13.drew hS | exact hS5 | exact S13.setCells hS5 _ (by omega) (by omega))
        (first | (go_at_call 79; refine (Hdr.out _ (HT3.out.upd0 ((Upd.refl _ _).drew))).mono ?_; rintro e w3 ⟨rfl, ht5, hu5⟩
                  have hc5 := (HC3.out.upd0 ((Upd.refl _ _).drew)).upd hu5 hnac.2.2
                  have hS5 : S13 a b c X l w3 := S13.mk ((HA3.out.upd0 ((Upd.refl _ _).drew)).upd hu5 hnac.1) hc5 ((((Upd.refl noB _).drew).at HO3.out (fun x => x) |> hu5.at) hnac.2.1)))
      all_goals (go_wp2_with fail; exact step_fin HL.out hc5 ht5 (HU3.out.drew.then hu5) hge (by omega) rfl rfl HST.out)
end
end Go.Proofs.Ytejpcgoblgaieaa.Law07
