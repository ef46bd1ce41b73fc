/-
  Package table: a table in memory, and what its functions do to it: each walked once.
-/
import Derived.Test.YtejpcgoblgaieaaSlices
import Derived.Test.YtejpcgoblgaieaaProg
import Derived.Deep.MidRow
import Derived.Deep.WholeRow
set_option linter.unusedVariables false
set_option linter.unusedSimpArgs false
namespace Go.Proofs.Ytejpcgoblgaieaa
open Go.RowKit

/-- Whole numbers as cells. -/
def nums (X : List Int) : Array Value := (X.map (Value.int .i64)).toArray
theorem nums_size (X : List Int) : (nums X).size = X.length := by simp [nums]
theorem nums_get (X : List Int) (i : Nat) (h : i < X.length) : (nums X)[i]? = some (.int .i64 (X.getD i 0)) := by
  simp [nums, List.getElem?_eq_getElem h, List.getD_eq_getElem?_getD]
theorem nums_set (X : List Int) (i : Nat) (x : Int) : (nums X).setIfInBounds i (.int .i64 x) = nums (X.set i x) := by
  simp [nums, List.map_set]
theorem nums_one (X : List Int) : (nums X).all (·.oneCell') = true := by
  refine Array.all_eq_true_iff_forall_mem.2 (fun v hv => ?_)
  simp [nums] at hv
  obtain ⟨a, _, rfl⟩ := hv
  rfl

/-- A table: where each page is. -/
structure TabAt (w : World) (p : Nat) (X : List Int) : Prop where
  hp : w.heap[p]? = some (.cells (nums X) 118 (0, 0))
  len : X.length = 512
/-- May be told: nothing, or a page. -/
def Told (X : List Int) : Prop := ∀ x ∈ X, x = 0 ∨ (2 ≤ x ∧ x < 512)
theorem TabAt.cell {w : World} {p : Nat} {X : List Int} (h : TabAt w p X) (i : Nat) (hi : i < 512) : w.cell? ⟨p, i, none⟩ = some (.int .i64 (X.getD i 0)) :=
  (cell_at h.hp i).trans (nums_get X i (by rw [h.len]; exact hi))
theorem TabAt.cell2 {w : World} {p : Nat} {X : List Int} (h : TabAt w p X) (i : Nat) (hi : i < 512) : w.cell? ⟨p, i / 128 * 128 + i % 128, none⟩ = some (.int .i64 (X.getD i 0)) := by
  rw [show i / 128 * 128 + i % 128 = i by omega]; exact h.cell i hi
theorem TabAt.free2 {w : World} {p : Nat} {X : List Int} (h : TabAt w p X) (i : Nat) : w.frozen? ⟨p, i / 128 * 128 + i % 128, none⟩ = false := frozen_at h.hp _
theorem TabAt.free {w : World} {p : Nat} {X : List Int} (h : TabAt w p X) (i : Nat) : w.frozen? ⟨p, i, none⟩ = false := frozen_at h.hp i
theorem TabAt.plt {w : World} {p : Nat} {X : List Int} (h : TabAt w p X) : p < w.heap.size := lt_of_block h.hp
theorem TabAt.upd {S : Nat → Prop} {w w' : World} {p : Nat} {X : List Int} (h : TabAt w p X) (hu : Upd S w w') (hn : ¬ S p) : TabAt w' p X := ⟨hu.at h.hp hn, h.len⟩
theorem TabAt.upd0 {w w' : World} {p : Nat} {X : List Int} (h : TabAt w p X) (hu : Upd noB w w') : TabAt w' p X := h.upd hu (fun x => x)
theorem TabAt.store {w : World} {p : Nat} {X : List Int} (h : TabAt w p X) (i : Nat) (x : Int) : TabAt (w.setCell ⟨p, i, none⟩ (.int .i64 x)) p (X.set i x) :=
  ⟨by rw [setCell_at h.hp, nums_set], by rw [List.length_set]; exact h.len⟩
theorem mem_getD (X : List Int) (i : Nat) (h : i < X.length) : X.getD i 0 ∈ X := by
  rw [List.getD_eq_getElem?_getD, List.getElem?_eq_getElem h]; exact List.getElem_mem _
theorem Told.at {X : List Int} (h : Told X) (i : Nat) : X.getD i 0 = 0 ∨ (2 ≤ X.getD i 0 ∧ X.getD i 0 < 512) := by
  by_cases hi : i < X.length
  · exact h _ (mem_getD X i hi)
  · left; rw [List.getD_eq_getElem?_getD, List.getElem?_eq_none (Nat.le_of_not_lt hi)]; rfl
theorem Told.set {X : List Int} (h : Told X) (i : Nat) (x : Int) (hx : x = 0 ∨ (2 ≤ x ∧ x < 512)) : Told (X.set i x) := by
  intro y hy
  rcases List.mem_or_eq_of_mem_set hy with hy | rfl
  · exact h y hy
  · exact hx
/-- Where a page is: 0: nothing is told. -/
def atI (X : List Int) (l : Int) : Int := if 0 ≤ l ∧ l < 512 then X.getD l.toNat 0 else 0
/-- What is told of one page. -/
def setX (X : List Int) (l x : Int) : List Int := if 0 ≤ l ∧ l < 512 then X.set l.toNat x else X
theorem atI_nat (X : List Int) (n : Nat) (h : n < 512) : atI X (n : Int) = X.getD n 0 := by
  unfold atI; rw [if_pos ⟨by omega, by omega⟩]; simp
theorem atI_out (X : List Int) (l : Int) (h : l < 0 ∨ 512 ≤ l) : atI X l = 0 := by
  unfold atI; rw [if_neg (by omega)]
theorem setX_nat (X : List Int) (n : Nat) (x : Int) (h : n < 512) : setX X (n : Int) x = X.set n x := by
  unfold setX; rw [if_pos ⟨by omega, by omega⟩]; simp
theorem setX_out (X : List Int) (l x : Int) (h : l < 0 ∨ 512 ≤ l) : setX X l x = X := by
  unfold setX; rw [if_neg (by omega)]
theorem place_cases (l : Int) : (l < 0 ∨ 512 ≤ l) ∨ ∃ n : Nat, l = n ∧ n < 512 := by
  by_cases h : l < 0 ∨ 512 ≤ l
  · exact .inl h
  · exact .inr ⟨l.toNat, by omega, by omega⟩
section
variable {w : World} {p : Nat} {X : List Int}

theorem tknown_at (l : Int) : Calls Try.prog 82 #[.int .i64 l] w fun e w' => e = .returned (.bool (decide (0 ≤ l) && decide (l < 512))) ∧ w = w' := by
  by_cases h : 0 ≤ l
  · have hd : decide (0 ≤ l) = true := by simpa using h
    go_enter Try.func82, Try.ntmps82
    go_wp2
    go_ret
    exact ⟨by simp [hd], rfl⟩
  · have hd : decide (0 ≤ l) = false := by simpa using h
    go_enter Try.func82, Try.ntmps82
    go_wp2
    go_ret
    exact ⟨by simp [hd], rfl⟩
theorem tpage_at (l : Int) : Calls Try.prog 73 #[.int .i64 l] w fun e w' => e = .returned (.bool (decide (2 ≤ l) && decide (l < 512))) ∧ w = w' := by
  by_cases h : 2 ≤ l
  · have hd : decide (2 ≤ l) = true := by simpa using h
    go_enter Try.func73, Try.ntmps73
    go_wp2
    go_ret
    exact ⟨by simp [hd], rfl⟩
  · have hd : decide (2 ≤ l) = false := by simpa using h
    go_enter Try.func73, Try.ntmps73
    go_wp2
    go_ret
    exact ⟨by simp [hd], rfl⟩

theorem zero_table : (Try.prog.info? 118).map (fun i => (i.zero, i.size)) = some (some (.agg (nums (List.replicate 512 0))), 512) := by kernel_rfl

theorem split128 (n : Nat) : 128 * (n / 128) + n % 128 = n := Nat.div_add_mod n 128

set_option maxRecDepth 100000 in
set_option maxHeartbeats 1000000 in
/-- **Get.** -/
theorem get_at (h : TabAt w p X) (hX : Told X) (l : Int) :
    Calls Try.prog 61 #[.pointer (some ⟨p, 0, none⟩), .int .i64 l] w fun e w' => e = .returned (.tuple #[.int .i64 (atI X l), .bool (decide (0 < atI X l))]) ∧ w = w' := by
  rcases place_cases l with hl | ⟨n, rfl, hn⟩
  · have hd : (decide (0 ≤ l) && decide (l < 512)) = false := by simp; omega
    rw [atI_out X l hl]
    go_enter Try.func61, Try.ntmps61
    go_wp2_with (go_at_call 82; refine (tknown_at l).mono ?_; rintro e w' ⟨rfl, rfl⟩)
    go_ret2
    exact ⟨rfl, rfl⟩
  · have hd : decide ((n : Int) < 512) = true := by simp; omega
    have hcell := h.cell2 n hn
    rw [atI_nat X n hn]
    go_enter Try.func61, Try.ntmps61
    go_wp2_with (go_at_call 82; refine (tknown_at _).mono ?_; rintro e w' ⟨rfl, rfl⟩)
    go_ret2
    exact ⟨rfl, rfl⟩
theorem get_nil (l : Int) :
    Calls Try.prog 61 #[.pointer none, .int .i64 l] w fun e w' => e = .returned (.tuple #[.int .i64 0, .bool false]) ∧ w = w' := by
  go_enter Try.func61, Try.ntmps61
  go_wp2
  go_ret2
  exact ⟨rfl, rfl⟩

/-- May a number be told? -/
def okP (x : Int) : Bool := decide (2 ≤ x) && decide (x < 512)
def inT (l : Int) : Bool := decide (0 ≤ l) && decide (l < 512)
theorem inT_nat (n : Nat) (h : n < 512) : inT (n : Int) = true := by unfold inT; simp; omega
theorem inT_out (l : Int) (h : l < 0 ∨ 512 ≤ l) : inT l = false := by unfold inT; simp; omega
set_option maxRecDepth 100000 in
set_option maxHeartbeats 1000000 in
/-- **Set.** -/
theorem set_at (h : TabAt w p X) (l x : Int) :
    Calls Try.prog 63 #[.pointer (some ⟨p, 0, none⟩), .int .i64 l, .int .i64 x] w fun e w' =>
      e = .returned (.int .i64 (if (inT l && okP x) = true then 0 else 7)) ∧ TabAt w' p (if (inT l && okP x) = true then setX X l x else X) ∧ Upd (oneB p) w w' := by
  rcases place_cases l with hl | ⟨n, rfl, hn⟩
  · have hd : (decide (0 ≤ l) && decide (l < 512)) = false := by simp; omega
    rw [inT_out l hl]
    have H := Lib.hid h
    go_enter Try.func63, Try.ntmps63
    go_wp2_with (first | (go_at_call 82; refine (tknown_at l).mono ?_; rintro e w' ⟨rfl, rfl⟩) | (go_at_call 73; refine (tpage_at x).mono ?_; rintro e w' ⟨rfl, rfl⟩))
    go_ret
    exact ⟨rfl, H.out, Upd.refl _ _⟩
  · have hd : decide ((n : Int) < 512) = true := by simp; omega
    rw [inT_nat n hn]
    by_cases hx : okP x = true
    · have hcell := h.cell2 n hn
      have hfree := h.free2 n
      have hd2 : (decide (2 ≤ x) && decide (x < 512)) = true := hx
      rw [hx, setX_nat X n x hn]
      clear hx
      have H := Lib.hid h
      go_enter Try.func63, Try.ntmps63
      go_wp2_with (first | (go_at_call 82; refine (tknown_at _).mono ?_; rintro e w' ⟨rfl, rfl⟩) | (go_at_call 73; refine (tpage_at x).mono ?_; rintro e w' ⟨rfl, rfl⟩))
      go_ret
      refine ⟨rfl, ?_, Upd.setCell (S := oneB p) (Upd.refl _ _) ?_ _⟩
      · rw [show n / 128 * 128 + n % 128 = n by omega]
        exact H.out.store n x
      · exact .inl rfl
    · have hd2 : (decide (2 ≤ x) && decide (x < 512)) = false := by simpa [okP] using hx
      have hx2 : okP x = false := by simpa using hx
      rw [hx2]
      clear hx hx2
      have H := Lib.hid h
      go_enter Try.func63, Try.ntmps63
      go_wp2_with (first | (go_at_call 82; refine (tknown_at _).mono ?_; rintro e w' ⟨rfl, rfl⟩) | (go_at_call 73; refine (tpage_at x).mono ?_; rintro e w' ⟨rfl, rfl⟩))
      go_ret
      exact ⟨rfl, H.out, Upd.refl _ _⟩

set_option maxRecDepth 100000 in
set_option maxHeartbeats 1000000 in
/-- **Drop.** -/
theorem tdrop_at (h : TabAt w p X) (hX : Told X) (l : Int) :
    Calls Try.prog 79 #[.pointer (some ⟨p, 0, none⟩), .int .i64 l] w fun e w' =>
      e = .returned (.bool (decide (0 < atI X l))) ∧ TabAt w' p (setX X l 0) ∧ Upd (oneB p) w w' := by
  have HG := Lib.hid (get_at h hX l)
  rcases place_cases l with hl | ⟨n, rfl, hn⟩
  · rw [setX_out X l 0 hl]
    have h0 : decide (0 < atI X l) = false := by rw [atI_out X l hl]; rfl
    rw [h0] at HG ⊢
    go_enter Try.func79, Try.ntmps79
    go_wp2_with (go_at_call 61; refine HG.out.mono ?_; rintro e w' ⟨rfl, rfl⟩)
    go_ret
    exact ⟨rfl, h, Upd.refl _ _⟩
  · have hcell := h.cell2 n hn
    have hfree := h.free2 n
    rw [setX_nat X n 0 hn]
    have H := Lib.hid h
    by_cases h0 : 0 < atI X (n : Int)
    · have hd : decide (0 < atI X (n : Int)) = true := by simpa using h0
      rw [hd] at HG ⊢
      clear hd h0
      go_enter Try.func79, Try.ntmps79
      go_wp2_with (go_at_call 61; refine HG.out.mono ?_; rintro e w' ⟨rfl, rfl⟩)
      go_ret
      refine ⟨rfl, ?_, Upd.setCell (S := oneB p) (Upd.refl _ _) ?_ _⟩
      · rw [show n / 128 * 128 + n % 128 = n by omega]
        exact H.out.store n 0
      · exact .inl rfl
    · have hd : decide (0 < atI X (n : Int)) = false := by simpa using h0
      have hself : X.set n 0 = X := by
        rw [atI_nat X n hn] at h0
        have h1 : X.getD n 0 = 0 := by rcases hX.at n with h1 | h1 <;> omega
        apply List.ext_getElem?
        intro i
        rw [List.getElem?_set]
        by_cases hi : n = i
        · subst hi
          rw [if_pos rfl, if_pos (by rw [h.len]; exact hn), List.getElem?_eq_getElem (by rw [h.len]; exact hn)]
          rw [List.getD_eq_getElem?_getD, List.getElem?_eq_getElem (by rw [h.len]; exact hn)] at h1
          exact congrArg some h1.symm
        · rw [if_neg hi]
      rw [hd] at HG ⊢
      rw [hself]
      clear hd h0
      go_enter Try.func79, Try.ntmps79
      go_wp2_with (go_at_call 61; refine HG.out.mono ?_; rintro e w' ⟨rfl, rfl⟩)
      go_ret
      exact ⟨rfl, h, Upd.refl _ _⟩

theorem zero118 : Try.zeroCells118 = nums (List.replicate 512 0) := by kernel_rfl
/-- **New.** -/
theorem tnew_at : Calls Try.prog 41 #[] w fun e w' => ∃ p, e = .returned (.pointer (some ⟨p, 0, none⟩)) ∧ TabAt w' p (List.replicate 512 0) ∧ Upd noB w w' ∧ w.heap.size ≤ p := by
  go_enter Try.func41, Try.ntmps41
  go_wp2
  go_ret
  refine ⟨w.heap.size, rfl, ⟨?_, List.length_replicate⟩, (Upd.refl _ _).alloc _, Nat.le_refl _⟩
  rw [← zero118]
  exact heap_alloc_new _ _
end
end Go.Proofs.Ytejpcgoblgaieaa
