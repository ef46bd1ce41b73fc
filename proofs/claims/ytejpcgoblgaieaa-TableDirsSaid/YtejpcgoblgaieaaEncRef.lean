/-
  What Encode of the document's layer 7 gives: walked once.
-/
import Derived.Test.YtejpcgoblgaieaaDirPlain
import Derived.Test.YtejpcgoblgaieaaLeafRef
set_option linter.unusedVariables false
set_option linter.unusedSimpArgs false
namespace Go.Proofs.Ytejpcgoblgaieaa.Law07
open Go.RowKit Go.Proofs.Ytejpcgoblgaieaa
/-- What Encode gives. -/
def EncRefPost (w : World) (L : List Int) (S : List Bool) (e : Ending) (w' : World) : Prop :=
  Upd noB w w' ∧ ((okL L = false ∧ e = .returned (.tuple #[.string ByteArray.empty, .int .i64 1])) ∨ (okL L = true ∧ e = .returned (.tuple #[.string (strOfNums (dirB L S)), .int .i64 0])))
/-- 432 zeros in a block. -/
theorem made432 (W : World) : (convert 48 9 (.slice (some ⟨W.heap.size, 0, none⟩) 432 432)).run Try.prog (W.alloc (.cells (madeCells #[.int .u8 0] 432) 5)) = .ok (.string (strOfNums (zeros 432))) (W.alloc (.cells (madeCells #[.int .u8 0] 432) 5)) := by
  refine (conv_of (ys := zeros 432) ?_ (by rw [zeros_length]; omega)).run
  have := ownsRow_made W 5 (.int .u8 0) 432 (by omega)
  unfold Row u8s zeros
  rw [List.map_replicate, List.length_replicate]
  exact this
section
variable {w : World} {L : List Int} {v : Value} {S : List Bool}
set_option maxRecDepth 100000 in
set_option maxHeartbeats 8000000 in
theorem enc_ref (hl : L.length = 4) (hS : Ref06.BRow w v S) (hs : S.length = 512) :
    Calls Try.prog 46 #[.agg (nums L), v] w (EncRefPost w L S) := by
  have HL := Lib.hid hl
  have HSS := Lib.hid hs
  obtain ⟨Av, cv, rfl, hcv, -, -⟩ := hS.form
  rw [hs] at hS hcv ⊢
  have HB := Lib.hid hS
  clear hl hS hcv hs
  go_enter Try.func46, Try.ntmps46
  go_upto_region 1 with fail
  obtain ⟨a, ha⟩ : ∃ a, a = w.heap.size := ⟨_, rfl⟩
  obtain ⟨W, hW⟩ : ∃ W, W = w.alloc (.cells (nums L) 79) := ⟨_, rfl⟩
  have hh : W.heap[a]? = some (.cells (nums L) 79 (0, 0)) := by rw [hW, ha]; exact heap_alloc_new _ _
  have hu : Upd noB w W := by rw [hW]; exact (Upd.refl _ _).alloc _
  rw [← hW, ← ha]
  have HC := Lib.hid (fun (k : Nat) (hk : k < 4) => ((cell_at hh k).trans (nums_get L k (by rw [HL.out]; exact hk)) : W.cell? ⟨a, k, none⟩ = some (.int .i64 (L.getD k 0))))
  have HU := Lib.hid hu
  clear ha hW hh hu
  go_wp2
  go_loopw [6, 7] (fun s t wr => ∃ k : Nat, t = .int .i64 (k : Int) ∧ s = .string (strOfNums (leavesB (L.take k))) ∧ k ≤ 4 ∧ Hid (okL (L.take k) = true) ∧ Hid (Upd noB W wr)) (fun _ t _ => 4 - (intOf t).toNat)
  case atStart => exact ⟨0, rfl, rfl, by omega, rfl, Upd.refl _ _⟩
  case round =>
    obtain ⟨k, rfl, rfl, hk, hok, hup⟩ := hrel
    by_cases hlt : k < 4
    · have hd : decide ((k : Int) < 4) = true := by simp; omega
      have hcell := hup.out.cell (HC.out k hlt) (fun x => x)
      have hsn := leavesB_snoc L k (by rw [HL.out]; exact hlt)
      have hot := okL_take (L := L) k (by rw [HL.out]; exact hlt)
      have hbad := okL_bad (L := L) (k := k) (by rw [HL.out]; exact hlt)
      have hz1 : (strOfNums (leavesB (L.take k))).size ≤ 16 := by rw [strOfNums_size, leavesB_length, List.length_take, HL.out]; omega
      obtain ⟨x, hx⟩ : ∃ x, L.getD k 0 = x := ⟨_, rfl⟩
      rw [hx] at hsn hot hbad hcell
      have HOT := Lib.hid hot
      have HBAD := Lib.hid hbad
      by_cases hx0 : x = 0
      · have hd5 : (x != 0) = false := by simp [hx0]
        have HOK2 := Lib.hid (show okL (L.take (k + 1)) = true by rw [HOT.out, hok.out]; simp [okV, hx0])
        obtain ⟨n, hn, hn5⟩ : ∃ n : Nat, x = n ∧ n < 512 := ⟨0, by simp [hx0], by omega⟩
        clear hx0 hx hot hbad
        subst hn
        have HSN := Lib.hid (show strOfNums (leavesB (L.take k)) ++ strOfNums (four n) = strOfNums (leavesB (L.take (k + 1))) by rw [hsn, Ref06.strOfNums_append]; rfl)
        have HN := Lib.hid hn5
        have hz2 : (strOfNums (four n)).size ≤ 4 := by rw [strOfNums_size]; simp [four]
        clear hn5 hsn
        go_wp2_with (go_at_call 68; refine (four_ref n HN.out).mono ?_; rintro e w2 ⟨rfl, hu2⟩)
        go_roundw
        case rel => exact ⟨k + 1, by go_num, by rw [HSN.out], by omega, HOK2.out, hup.out.then0 hu2⟩
        case measure => simp [intOf]; omega
      · have hd5 : (x != 0) = true := by simp [hx0]
        have hov : okV x = okP x := by simp [okV, hx0]
        rw [hov] at HOT HBAD
        obtain ⟨d, hdx⟩ : ∃ d, okP x = d := ⟨_, rfl⟩
        have hp : ∀ W : World, Calls Try.prog 70 #[.int .i64 x] W fun e w' => e = .returned (.bool d) ∧ W = w' := fun W => by have := page_ref (w := W) x; rwa [hdx] at this
        have HP := Lib.hid hp
        rw [hdx] at HOT HBAD
        have hrange : d = true → ∃ n : Nat, x = n ∧ n < 512 := fun h => okV_nat (by rw [hov, hdx, h])
        clear hov hp hdx hx hot hbad
        cases d
        · have HB2 := Lib.hid (HBAD.out rfl)
          clear hrange hx0 hsn
          go_wp2_with (go_at_call 70; refine (HP.out _).mono ?_; rintro e w' ⟨rfl, rfl⟩)
          go_ret2
          exact ⟨HU.out.then0 hup.out, .inl ⟨HB2.out, rfl⟩⟩
        · obtain ⟨n, rfl, hn5⟩ := hrange rfl
          have HSN := Lib.hid (show strOfNums (leavesB (L.take k)) ++ strOfNums (four n) = strOfNums (leavesB (L.take (k + 1))) by rw [hsn, Ref06.strOfNums_append]; rfl)
          have HN := Lib.hid hn5
          have HOK2 := Lib.hid (show okL (L.take (k + 1)) = true by rw [HOT.out, hok.out]; rfl)
          have hz2 : (strOfNums (four n)).size ≤ 4 := by rw [strOfNums_size]; simp [four]
          clear hrange hn5 hx0 hsn
          go_wp2_with (first | (go_at_call 70; refine (HP.out _).mono ?_; rintro e w' ⟨rfl, rfl⟩) | (go_at_call 68; refine (four_ref n HN.out).mono ?_; rintro e w2 ⟨rfl, hu2⟩))
          go_roundw
          case rel => exact ⟨k + 1, by go_num, by rw [HSN.out], by omega, HOK2.out, hup.out.then0 hu2⟩
          case measure => simp [intOf]; omega
    · have hd : decide ((k : Int) < 4) = false := by simp; omega
      obtain rfl : k = 4 := by omega
      have htk : L.take 4 = L := List.take_of_length_le (by rw [HL.out]; omega)
      rw [htk] at hok ⊢
      have HB4 := Lib.hid (HB.out.upd0 (HU.out.then0 hup.out))
      have hz1 : (strOfNums (leavesB L)).size ≤ 16 := by rw [strOfNums_size, leavesB_length, HL.out]; omega
      have hz2 : (strOfNums (bytesOf S)).size ≤ 64 := by rw [strOfNums_size, bytesOf_length, HSS.out]; decide
      have hz4 : (strOfNums (zeros 432)).size ≤ 432 := by rw [strOfNums_size, zeros_length]; omega
      have hz3 : (strOfNums (leavesB L) ++ strOfNums (bytesOf S)).size ≤ 80 := by rw [Ref06.strOfNums_append, strOfNums_size, List.length_append, leavesB_length, HL.out, bytesOf_length, HSS.out]; decide
      have hmk := make_run (P := Try.prog) 48 5 (.int .u8 0) 1 Try.underlying48 info_u8t rfl (432 : Int) 432 rfl (by omega) (by omega)
      have hcv := fun W : World => made432 W
      clear htk hk hlt
      have HSZ := Lib.hid (show S.length ≤ 1000000 by rw [HSS.out]; omega)
      go_wp2_with (go_at_call 35; refine (Ref06.bytes_ref HB4.out HSZ.out).mono ?_; rintro e w2 ⟨rfl, hu2⟩)
      go_ret2
      refine ⟨((HU.out.then0 hup.out).then0 hu2).alloc _, .inr ⟨hok.out, ?_⟩⟩
      rw [Ref06.strOfNums_append, Ref06.strOfNums_append]
      rfl
end
end Go.Proofs.Ytejpcgoblgaieaa.Law07
