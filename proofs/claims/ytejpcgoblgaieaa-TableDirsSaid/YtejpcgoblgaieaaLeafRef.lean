/-
  What Four and Leaf of the document's layer 7 give: walked once.
-/
import Derived.Test.YtejpcgoblgaieaaTable4
import Derived.Test.YtejpcgoblgaieaaMade07
import Derived.Test.YtejpcgoblgaieaaRef06
import Derived.Shelf.Bytes.SlSmallAll
set_option linter.unusedVariables false
set_option linter.unusedSimpArgs false
namespace Go.Proofs.Ytejpcgoblgaieaa.Law07
open Go.RowKit Go.Proofs.Ytejpcgoblgaieaa
section
variable {w : World} {X : List Int}
set_option maxRecDepth 100000 in
theorem four_ref (n : Nat) (hn : n < 512) :
    Calls Try.prog 68 #[.int .i64 (n : Int)] w fun e w' => e = .returned (.string (strOfNums (four n))) ∧ Upd noB w w' := by
  have hf : u8s (four n) = [.int .u8 ((n : Int) / 16777216), .int .u8 ((n : Int) / 65536 % 256), .int .u8 ((n : Int) / 256 % 256), .int .u8 ((n : Int) % 256)] := by
    simp only [u8s, four, List.map_cons, List.map_nil]
    rw [show (n : Int) / 65536 % 256 = (n : Int) / 65536 by omega, show (n : Int) / 256 % 256 = (n : Int) / 256 by omega]
  have hcv : (convert 48 9 (.slice (some ⟨w.heap.size, 0, none⟩) 4 4)).run Try.prog (w.alloc (.cells #[.int .u8 ((n : Int) / 16777216), .int .u8 ((n : Int) / 65536 % 256), .int .u8 ((n : Int) / 256 % 256), .int .u8 ((n : Int) % 256)] 5)) = .ok (.string (strOfNums (four n))) (w.alloc (.cells #[.int .u8 ((n : Int) / 16777216), .int .u8 ((n : Int) / 65536 % 256), .int .u8 ((n : Int) / 256 % 256), .int .u8 ((n : Int) % 256)] 5)) := by
    refine run_convert_bytes_arg _ _ _ Try.underlying48 Try.underlying5 w.heap.size 0 4 4 (four n) rfl (fun j hj => ?_) _ Try.underlying9
    rw [Nat.zero_add, cell_at (heap_alloc_new w _) j]
    have hj2 : (u8s (four n))[j]? = some (.int .u8 ((four n).getD j 0)) := by
      have : j < (four n).length := hj
      simp [u8s, List.getElem?_eq_getElem this, List.getD_eq_getElem?_getD]
    rw [hf] at hj2
    simpa using hj2
  clear hf
  go_enter Try.func68, Try.ntmps68
  go_wp2
  go_ret
  exact ⟨rfl, (Upd.refl _ _).alloc _⟩
set_option maxRecDepth 100000 in
set_option maxHeartbeats 4000000 in
/-- **Leaf** of the reference. -/
theorem leaf_ref (hl : X.length = 512) (hX : Told X) (i : Nat) (hi : i < 4) :
    Calls Try.prog 38 #[.agg (nums X), .int .i64 (i : Int)] w fun e w' => e = .returned (.string (strOfNums (leafB X i 128))) ∧ Upd noB w w' := by
  have HL := Lib.hid hl
  clear hl
  go_enter Try.func38, Try.ntmps38
  go_upto_region 1 with fail
  have hb : ArrAt (w.alloc (.cells (nums X) 57)) w.heap.size X := ⟨heap_alloc_new _ _, HL.out⟩
  have hu : Upd noB w (w.alloc (.cells (nums X) 57)) := (Upd.refl _ _).alloc _
  obtain ⟨wc, hwc⟩ : ∃ W, W = w.alloc (.cells (nums X) 57) := ⟨_, rfl⟩
  obtain ⟨b, hbb⟩ : ∃ b, b = w.heap.size := ⟨_, rfl⟩
  rw [← hwc] at hb hu ⊢
  rw [← hbb] at hb ⊢
  have HB := Lib.hid hb
  have HU := Lib.hid hu
  clear hwc hbb hb hu
  go_wp2
  go_loopw [5, 6] (fun s t wr => ∃ k : Nat, t = .int .i64 (k : Int) ∧ s = .string (strOfNums (leafB X i k)) ∧ k ≤ 128 ∧ Hid (Upd noB wc wr)) (fun _ t _ => 128 - (intOf t).toNat)
  case atStart => exact ⟨0, rfl, rfl, by omega, Upd.refl _ _⟩
  case round =>
    obtain ⟨k, rfl, rfl, hk, hup⟩ := hrel
    by_cases hlt : k < 128
    · have hd : decide ((k : Int) < 128) = true := by simp; omega
      have hcell := (HB.out.upd0 hup.out).cell (i * 128 + k) (by omega)
      have hsucc := leafB_succ X i k
      have hto := hX.at (i * 128 + k)
      obtain ⟨n, hn⟩ : ∃ n : Nat, X.getD (i * 128 + k) 0 = n := ⟨(X.getD (i * 128 + k) 0).toNat, by omega⟩
      rw [hn] at hcell hto hsucc
      have HS := Lib.hid (show strOfNums (leafB X i k) ++ strOfNums (four n) = strOfNums (leafB X i (k + 1)) by rw [hsucc, Ref06.strOfNums_append]; rfl)
      have hn5 : n < 512 := by omega
      have hw5 : IntKind.i64.wrap (128 * (i : Int)) = 128 * (i : Int) := by rw [IntKind.wrap_i64]; omega
      have hw6 : IntKind.i64.wrap (128 * (i : Int) + k) = 128 * (i : Int) + k := by rw [IntKind.wrap_i64]; omega
      have hb1 : (0 : Int) ≤ 128 * (i : Int) + k := by omega
      have hb2 : 128 * (i : Int) + k < 512 := by omega
      have hb3 : (128 * (i : Int) + k).toNat = i * 128 + k := by omega
      have HN := Lib.hid hn5
      have hz1 : (strOfNums (leafB X i k)).size ≤ 512 := by rw [strOfNums_size, leafB_length]; omega
      have hz2 : (strOfNums (four n)).size ≤ 4 := by rw [strOfNums_size]; simp [four]
      clear hsucc hto hn hn5
      go_wp2_with (go_at_call 68; refine (four_ref n HN.out).mono ?_; rintro e w2 ⟨rfl, hu2⟩)
      go_roundw
      case rel => exact ⟨k + 1, by go_num, by rw [HS.out], by omega, hup.out.then0 hu2⟩
      case measure => simp [intOf]; omega
    · have hd : decide ((k : Int) < 128) = false := by simp; omega
      obtain rfl : k = 128 := by omega
      go_wp2
      go_ret
      exact ⟨rfl, HU.out.then0 hup.out⟩
end
end Go.Proofs.Ytejpcgoblgaieaa.Law07
