/-
  Package table: part and put: each walked once.
-/
import Derived.Test.YtejpcgoblgaieaaTable2
set_option linter.unusedVariables false
set_option linter.unusedSimpArgs false
namespace Go.Proofs.Ytejpcgoblgaieaa
open Go.RowKit
section
variable {w : World}
theorem tpart_at (l : Int) : Calls Try.prog 66 #[.int .i64 l] w fun e w' => e = .returned (.bool (decide (0 ≤ l) && decide (l < 4))) ∧ w = w' := by
  by_cases h : 0 ≤ l
  · have hd : decide (0 ≤ l) = true := by simpa using h
    go_enter Try.func66, Try.ntmps66
    go_wp2
    go_ret
    exact ⟨by simp [hd], rfl⟩
  · have hd : decide (0 ≤ l) = false := by simpa using h
    go_enter Try.func66, Try.ntmps66
    go_wp2
    go_ret
    exact ⟨by simp [hd], rfl⟩
/-- A number in four bytes. -/
def four (n : Nat) : List Int := [(n : Int) / 16777216, (n : Int) / 65536, (n : Int) / 256, (n : Int) % 256]
def u8s (xs : List Int) : List Value := xs.map (Value.int .u8)
theorem u8s_append (xs ys : List Int) : u8s (xs ++ ys) = u8s xs ++ u8s ys := by simp [u8s]
theorem u8s_one (xs : List Int) : ∀ u ∈ u8s xs, u.oneCell' = true := by
  intro v hv
  simp [u8s] at hv
  obtain ⟨a, _, rfl⟩ := hv
  rfl
theorem info_u8t : (Try.prog.info? 5).map (fun i => (i.zero, i.size, i.bytes)) = some (some (.int .u8 0), 1, 1) := by kernel_rfl
set_option maxRecDepth 100000 in
/-- **put**. -/
theorem tput_at (v : Value) (cs : List Value) (n : Nat) (hn : n < 512) (h : Row w 5 v cs) (hl : cs.length ≤ 4096) :
    Calls Try.prog 67 #[v, .int .i64 (n : Int)] w fun e w' =>
      ∃ v', e = .returned v' ∧ Row w' 5 v' (cs ++ u8s (four n)) ∧ Upd (ownB v) w w' ∧ (v'.ownBlock = v.ownBlock ∨ ∃ b, v'.ownBlock = some b ∧ w.heap.size ≤ b) := by
  have H := Lib.hid h
  clear h
  have HR : ∀ W : World, ∀ j u, (u8s (four n))[j]? = some u → (W.alloc (.cells (u8s (four n)).toArray 5)).cell? ((⟨W.heap.size, 0, none⟩ : Addr).add j) = some u := by
    intro W j u hu
    rw [add0, cell_at (heap_alloc_new _ _) j]
    simpa using hu
  have HRR := Lib.hid HR
  clear HR
  go_enter Try.func67, Try.ntmps67
  go_wp2_with (at_builtin; refine append_row rfl (.tmp 5) (.tmp 17) 48 5 (.int .u8 0) 1 rfl Try.underlying48 info_u8t rfl _ cs (u8s (four n)) (some ⟨w.heap.size, 0, none⟩) 4 4 rfl rfl rfl (u8s_one _) (H.out.upd0 ((Upd.refl _ _).alloc _)) (fun _ => ⟨_, rfl, HRR.out w⟩) (by omega) (by omega) ?_)
  intro v1 w1 hr1 hu1 hat
  have HR1 := Lib.hid hr1
  have hu2 : Upd (ownB v) w w1 := (((Upd.refl (ownB v) w).alloc _)).then hu1
  have HU2 := Lib.hid hu2
  have hat2 : v1.ownBlock = v.ownBlock ∨ ∃ b, v1.ownBlock = some b ∧ w.heap.size ≤ b := by
    rcases hat with hat | ⟨b, hb, hb2⟩
    · exact .inl hat
    · exact .inr ⟨b, hb, by first | exact hb2 | (rw [World.size_alloc] at hb2; omega) | omega⟩
  have HAT := Lib.hid hat2
  clear hr1 hu1 hat hu2 hat2
  go_wp2
  go_ret
  exact ⟨v1, rfl, HR1.out, HU2.out, HAT.out⟩
end
end Go.Proofs.Ytejpcgoblgaieaa
