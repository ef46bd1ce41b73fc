/-
  Package table: Encode: walked once.
-/
import Derived.Test.YtejpcgoblgaieaaDirPlain
import Derived.Test.YtejpcgoblgaieaaBitsSameTable
import Derived.Test.YtejpcgoblgaieaaAppZeros
set_option linter.unusedVariables false
set_option linter.unusedSimpArgs false
namespace Go.Proofs.Ytejpcgoblgaieaa
open Go.RowKit
/-- A directory, as a value. -/
def dirV (L : List Int) (u : Value) : Array Value := (numL L ++ [u]).toArray
theorem info79 : (Try.prog.info? 79).map (·.size) = some 4 := by kernel_rfl
theorem info88 : (Try.prog.info? 88).map (·.size) = some 5 := by kernel_rfl
theorem index79 (w : World) (cs : List Value) (k : Nat) (hk : k < 4) (x : Int) (hx : cs[k]? = some (.int .i64 x)) :
    (Instr.index 79 (.agg cs.toArray) (.int .i64 (k : Int))).run Try.prog w = .ok (.int .i64 x) w := by
  have hu := run_underlying Try.underlying79
  have hu3 := run_underlying Try.underlying3
  have hs : (Try.prog.info? 3).map (·.size) = some 1 := by kernel_rfl
  cases hq : Try.prog.info? 3 with
  | none => simp [hq] at hs
  | some j =>
    have hj : j.size = 1 := by simpa [hq] using hs
    simp [Instr.index, asIntOf, Sem.run_bind, hu, Result.andThen, sizeOf, typeInfo, hq, hj, Go.part, isAgg, hu3, hx, hk]
theorem numL_get (X : List Int) (i : Nat) (h : i < X.length) : (numL X)[i]? = some (.int .i64 (X.getD i 0)) := by
  simp [numL, List.getElem?_eq_getElem h, List.getD_eq_getElem?_getD]
/-- A directory's cells in a block. -/
theorem dir_range {w : World} {b : Nat} {L : List Int} {u : Value} {t : TypeId} (h : w.heap[b]? = some (.cells (dirV L u) t (0, 0))) : w.rangeAt b 0 (numL L) := by
  intro j v hv
  rw [Nat.zero_add, cell_at h j]
  have hj : j < (numL L).length := (List.getElem?_eq_some_iff.1 hv).1
  simp only [dirV, List.getElem?_toArray]
  rw [List.getElem?_append_left hj]; exact hv
theorem dir_used {w : World} {b : Nat} {L : List Int} {u : Value} {t : TypeId} (hl : L.length = 4) (h : w.heap[b]? = some (.cells (dirV L u) t (0, 0))) : w.cell? ⟨b, 4, none⟩ = some u := by
  rw [cell_at h 4]
  have hj : (numL L).length = 4 := by rw [numL_length, hl]
  simp only [dirV, List.getElem?_toArray]
  rw [List.getElem?_append_right (by omega), hj]; rfl
/-- The loop. -/
def ERel (w : World) (L : List Int) (v t : Value) (wr : World) : Prop :=
  ∃ k : Nat, t = .int .i64 (k : Int) ∧ k ≤ 4 ∧ okL (L.take k) = true ∧ Row wr 5 v (u8s (leavesB (L.take k))) ∧ (∀ b, v.ownBlock = some b → w.heap.size ≤ b) ∧ Upd noB w wr
/-- What Encode gives. -/
def EncPost (w : World) (L : List Int) (m : Nat) (ys : List Int) (e : Ending) (w' : World) : Prop :=
  Upd noB w w' ∧ (((okL L && decide (m = 512)) = false ∧ e = .returned (.tuple #[.slice none 0 0, .int .i64 1])) ∨
    ((okL L && decide (m = 512)) = true ∧ ∃ v, e = .returned (.tuple #[v, .int .i64 0]) ∧ Row w' 5 v (u8s (leavesB L ++ ys ++ zeros 432))))
section
variable {w : World} {L : List Int}
set_option maxRecDepth 100000 in
set_option maxHeartbeats 8000000 in
theorem enc_gen (hl : L.length = 4) (u : Value) (m : Nat) (ys : List Int) (hm : m ≤ 4096) (hys : m = 512 → ys.length = 64)
    (hS : ∀ W, Upd noB w W → Calls Try.prog 76 #[u] W fun e w' => e = .returned (.int .i64 (m : Int)) ∧ W = w')
    (hB : m = 512 → ∀ W, Upd noB w W → Calls Try.prog 49 #[u] W fun e w' => ∃ v, e = .returned v ∧ Row w' 5 v (u8s ys) ∧ Upd noB W w') :
    Calls Try.prog 45 #[.agg (dirV L u)] w (EncPost w L m ys) := by
  have HL := Lib.hid hl
  have HS := Lib.hid hS
  have HBY := Lib.hid hB
  have HYS := Lib.hid hys
  clear hl hS hB hys
  go_enter Try.func45, Try.ntmps45
  go_upto_region 1 with fail
  obtain ⟨a, ha⟩ : ∃ a, a = w.heap.size := ⟨_, rfl⟩
  obtain ⟨W, hW⟩ : ∃ W, W = w.alloc (.cells (dirV L u) 88) := ⟨_, rfl⟩
  have hh : W.heap[a]? = some (.cells (dirV L u) 88 (0, 0)) := by rw [hW, ha]; exact heap_alloc_new _ _
  have hu : Upd noB w W := by rw [hW]; exact (Upd.refl _ _).alloc _
  rw [← hW, ← ha]
  have HR := Lib.hid (dir_range hh)
  have HC := Lib.hid (dir_used HL.out hh)
  have HU := Lib.hid hu
  have HI := Lib.hid (show (Try.prog.info? 79).map (·.size) = some (numL L).length by rw [numL_length, HL.out]; exact info79)
  have haw : w.heap.size ≤ a := by omega
  clear ha hW hh hu
  go_wp2_with (refine wpList_load_mid rfl 79 _ rfl a 0 rfl (numL L) _ HR.out Try.underlying79 rfl HI.out ?_)
  go_loopw [4, 9] (fun v t wr => ERel W L v t wr) (fun _ t _ => 4 - (intOf t).toNat)
  case atStart => exact ⟨0, rfl, by omega, rfl, Row.nil _ _, fun b hb => by simp [Value.ownBlock] at hb, Upd.refl _ _⟩
  case round =>
    obtain ⟨k, rfl, hk, hok, hr, hf, hu⟩ := hrel
    have HRW := Lib.hid hr
    have HF := Lib.hid hf
    have HU1 := Lib.hid hu
    have HOK := Lib.hid hok
    clear hr hf hu hok
    by_cases hlt : k < 4
    · have hd : decide ((k : Int) < 4) = true := by simp; omega
      have hget := numL_get L k (by rw [HL.out]; exact hlt)
      have hix := fun W : World => index79 W (numL L) k hlt _ hget
      have hsn := leavesB_snoc L k (by rw [HL.out]; exact hlt)
      have hot := okL_take (L := L) k (by rw [HL.out]; exact hlt)
      have hbad := okL_bad (L := L) (k := k) (by rw [HL.out]; exact hlt)
      have hlen : (u8s (leavesB (L.take k))).length ≤ 4096 := by simp [u8s, leavesB_length, HL.out]; omega
      obtain ⟨x, hx⟩ : ∃ x, L.getD k 0 = x := ⟨_, rfl⟩
      simp only [hx] at hix
      rw [hx] at hsn hot hbad
      have HSN := Lib.hid hsn
      have HOT := Lib.hid hot
      have HBAD := Lib.hid hbad
      clear hget hsn hot hbad hx
      by_cases hx0 : x = 0
      · have hd5 : (x != 0) = false := by simp [hx0]
        have HOK2 := Lib.hid (show okL (L.take (k + 1)) = true by rw [HOT.out, HOK.out]; simp [okV, hx0])
        obtain ⟨n, hn, hn5⟩ : ∃ n : Nat, x = n ∧ n < 512 := ⟨0, by simp [hx0], by omega⟩
        clear hx0
        subst hn
        have HN := Lib.hid hn5
        clear hn5
        go_wp2_with (go_at_call 67; refine (tput_at _ _ n HN.out HRW.out hlen).mono ?_; rintro e w2 ⟨v2, rfl, hr2, hu2, hat2⟩)
        refine ⟨⟨k + 1, by go_num, by omega, HOK2.out, ?_, ?_, ?_⟩, by simp [intOf]; omega⟩
        · rw [HSN.out, u8s_append]; exact hr2
        · intro b hb
          rcases hat2 with hat2 | ⟨b2, hb2, hb3⟩
          · exact HF.out b (hat2 ▸ hb)
          · rw [hb2] at hb; injection hb with hb; have := HU1.out.size; omega
        · exact HU1.out.trans hu2 (fun b hb => .inr (HF.out b hb))
      · have hd5 : (x != 0) = true := by simp [hx0]
        have hov : okV x = okP x := by simp [okV, hx0]
        rw [hov] at HOT HBAD
        obtain ⟨d, hdx⟩ : ∃ d, okP x = d := ⟨_, rfl⟩
        have hp : ∀ W : World, Calls Try.prog 73 #[.int .i64 x] W fun e w' => e = .returned (.bool d) ∧ W = w' := fun W => by have := tpage_at (w := W) x; rwa [show (decide (2 ≤ x) && decide (x < 512)) = d from hdx] at this
        have HP := Lib.hid hp
        rw [hdx] at HOT HBAD
        have hrange : d = true → ∃ n : Nat, x = n ∧ n < 512 := fun h => okV_nat (by rw [hov, hdx, h])
        clear hov hp hdx
        cases d
        · have HB2 := Lib.hid (HBAD.out rfl)
          clear hrange hx0
          go_wp2_with (go_at_call 73; refine (HP.out _).mono ?_; rintro e w' ⟨rfl, rfl⟩)
          go_ret2
          exact ⟨HU.out.then0 HU1.out, .inl ⟨by rw [HB2.out]; rfl, rfl⟩⟩
        · obtain ⟨n, rfl, hn5⟩ := hrange rfl
          have HN := Lib.hid hn5
          have HOK2 := Lib.hid (show okL (L.take (k + 1)) = true by rw [HOT.out, HOK.out]; rfl)
          clear hrange hn5 hx0
          go_wp2_with (first | (go_at_call 73; refine (HP.out _).mono ?_; rintro e w' ⟨rfl, rfl⟩) | (go_at_call 67; refine (tput_at _ _ n HN.out HRW.out hlen).mono ?_; rintro e w2 ⟨v2, rfl, hr2, hu2, hat2⟩))
          refine ⟨⟨k + 1, by go_num, by omega, HOK2.out, ?_, ?_, ?_⟩, by simp [intOf]; omega⟩
          · rw [HSN.out, u8s_append]; exact hr2
          · intro b hb
            rcases hat2 with hat2 | ⟨b2, hb2, hb3⟩
            · exact HF.out b (hat2 ▸ hb)
            · rw [hb2] at hb; injection hb with hb; have := HU1.out.size; omega
          · exact HU1.out.trans hu2 (fun b hb => .inr (HF.out b hb))
    · have hd : decide ((k : Int) < 4) = false := by simp; omega
      obtain rfl : k = 4 := by omega
      have htk : L.take 4 = L := List.take_of_length_le (by rw [HL.out]; omega)
      rw [htk] at HOK HRW
      have hcu := HU1.out.cell HC.out (fun x => x)
      clear htk
      by_cases h512 : m = 512
      · subst h512
        have hyl := HYS.out rfl
        have HZ := Lib.hid hyl
        have hl16 : (u8s (leavesB L)).length = 16 := by simp only [u8s, List.length_map]; rw [leavesB_length, HL.out]
        have hl64 : (u8s ys).length = 64 := by simp only [u8s, List.length_map]; exact hyl
        have H16 := Lib.hid hl16
        have H64 := Lib.hid hl64
        clear hyl hl16 hl64
        go_wp2_with (go_at_call 76; refine (HS.out _ (HU.out.then0 HU1.out)).mono ?_; rintro e w' ⟨rfl, rfl⟩)
        refine (HBY.out (by trivial) _ (HU.out.then0 HU1.out)).mono ?_
        rintro e w2 ⟨vb, rfl, hrb, hub⟩
        obtain ⟨Ab, cb, rfl, hcb, hmb, hcsb⟩ := hrb.form
        have HRW2 := Lib.hid (HRW.out.upd0 hub)
        have HU2 := Lib.hid ((HU.out.then0 HU1.out).then0 hub)
        have hsrc : 0 < 64 → ∃ ad : Addr, Ab = some ad ∧ ∀ j u, (u8s ys)[j]? = some u → w2.cell? (ad.add j) = some u := fun _ => by
          obtain ⟨g, rfl, _, _, hcc⟩ := hcsb (by have := H64.out; omega)
          refine ⟨_, rfl, fun j u hj => ?_⟩
          obtain ⟨hj1, hj2⟩ := List.getElem?_eq_some_iff.1 hj
          rw [add0, hcc j hj1, hj2]
        have HSRC := Lib.hid hsrc
        rw [H64.out]
        have hwu : ∀ b, Value.ownBlock u4 = some b → w.heap.size ≤ b := fun b hb => Nat.le_trans HU.out.size (HF.out b hb)
        have HWU := Lib.hid hwu
        clear hrb hub hcb hmb hcsb hsrc hwu
        go_wp2_with (at_builtin; refine append_row rfl (.tmp 27) (.tmp 30) 48 5 (.int .u8 0) 1 rfl Try.underlying48 info_u8t rfl _ (u8s (leavesB L)) (u8s ys) Ab 64 cb rfl rfl H64.out (u8s_one _) HRW2.out HSRC.out (by rw [H16.out]; omega) (by rw [H16.out]; omega) ?_)
        intro v3 w3 hr3 hu3 hat3
        have hl80 : (u8s (leavesB L) ++ u8s ys).length = 80 := by rw [List.length_append, H16.out, H64.out]
        obtain ⟨A3, c3, rfl, _⟩ := hr3.form
        have HR3 := Lib.hid hr3
        have HU3 := Lib.hid (HU2.out.trans hu3 (fun b hb => .inr (HWU.out b hb)))
        have hwv : ∀ b, Value.ownBlock (Value.slice A3 (u8s (leavesB L) ++ u8s ys).length c3) = some b → w.heap.size ≤ b := fun b hb => by
          rcases hat3 with hat3 | ⟨b2, hb2, hb3⟩
          · exact HWU.out b (hat3 ▸ hb)
          · rw [hb2] at hb; injection hb with hb; have := HU2.out.size; omega
        rw [hl80] at HR3 hwv ⊢
        have HWV := Lib.hid hwv
        have H80 := Lib.hid hl80
        clear hr3 hu3 hat3 hl80 hwv
        go_wp2_with (at_builtin; refine append_zeros_row rfl (.tmp 32) (.tmp 35) 48 3 9 5 rfl Try.underlying48 Try.underlying3 Try.underlying9 info_u8t _ (u8s (leavesB L) ++ u8s ys) 432 rfl rfl HR3.out (by rw [H80.out]; omega) (by omega) (u8s (zeros 432)) (by unfold u8s zeros; rw [List.map_replicate]) ?_)
        intro v4 w4 hr4 hu4
        have HR4 := Lib.hid hr4
        have HU4 := Lib.hid (HU3.out.trans hu4 (fun b hb => .inr (HWV.out b hb)))
        clear hr4 hu4
        go_wp2
        go_ret2
        refine ⟨HU4.out, .inr ⟨by rw [HOK.out]; rfl, v4, rfl, ?_⟩⟩
        rw [u8s_append, u8s_append, List.append_assoc]
        exact HR4.out
      · have hd2 : ((m : Int) != 512) = true := by simp; omega
        have HNE := Lib.hid h512
        clear h512
        go_wp2_with (go_at_call 76; refine (HS.out _ (HU.out.then0 HU1.out)).mono ?_; rintro e w' ⟨rfl, rfl⟩)
        go_ret2
        exact ⟨HU.out.then0 HU1.out, .inl ⟨by rw [HOK.out]; simpa using HNE.out, rfl⟩⟩

theorem row_of_owns {w : World} {B : Nat} {v : Value} {n : Nat} {cs : List Value} (hn : n = cs.length) (h : w.ownsRow B 5 1 v n cs) : Row w 5 v cs := by
  subst hn
  refine ⟨h.1, ?_⟩
  rcases h.2 with h2 | ⟨g, cap, cur, rfl, hb, rest⟩
  · exact .inl h2
  · exact .inr ⟨g, cap, cur, rfl, Nat.zero_le _, rest⟩
/-- Encode, of a directory with a set. -/
theorem enc_at (hl : L.length = 4) {p g c : Nat} {S : List Bool} (h : Table.SetAt w p g c S) (hS : S.length = 512) :
    Calls Try.prog 45 #[.agg (dirV L (.pointer (some ⟨p, 0, none⟩)))] w (EncPost w L 512 (bytesOf S)) := by
  refine enc_gen hl _ 512 (bytesOf S) (by omega) (fun _ => by rw [bytesOf_length, hS]; rfl) (fun W hu => ?_) (fun _ W hu => ?_)
  · have := Table.size_at (h.upd0 hu)
    rw [hS] at this
    exact this
  · refine (Table.bytes_at (h.upd0 hu)).mono ?_
    rintro e w' ⟨v, rfl, hr, _, hu2⟩
    exact ⟨v, rfl, row_of_owns (by unfold u8s; rw [List.length_map, bytesOf_length]) hr, hu2⟩
theorem size_nil (W : World) : Calls Try.prog 76 #[.pointer none] W fun e w' => e = .returned (.int .i64 0) ∧ W = w' := by
  go_enter Try.func76, Try.ntmps76
  go_wp2
  go_ret
  exact ⟨rfl, rfl⟩
/-- Encode, of a directory without a set. -/
theorem enc_none (hl : L.length = 4) :
    Calls Try.prog 45 #[.agg (dirV L (.pointer none))] w fun e w' => e = .returned (.tuple #[.slice none 0 0, .int .i64 1]) ∧ Upd noB w w' := by
  refine (enc_gen hl _ 0 [] (by omega) (fun h => by cases h) (fun W hu => size_nil W) (fun h => by cases h)).mono ?_
  rintro e w' ⟨hu, ⟨_, rfl⟩ | ⟨hh, _⟩⟩
  · exact ⟨rfl, hu⟩
  · simp at hh
end
end Go.Proofs.Ytejpcgoblgaieaa
