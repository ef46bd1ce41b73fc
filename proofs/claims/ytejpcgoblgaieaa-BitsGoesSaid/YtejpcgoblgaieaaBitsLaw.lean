/-
  What the functions of package bits do, at the kind hibernacle/hibernaclelaw06.Page of numbers: each walked once.
-/
import Derived.Test.YtejpcgoblgaieaaProg
import Derived.Test.YtejpcgoblgaieaaBase
import Derived.Test.YtejpcgoblgaieaaBitsPlain
import Derived.Test.YtejpcgoblgaieaaShClone
import Derived.BigQuiet
import Derived.Deep.QuietTactic
set_option linter.unusedVariables false
set_option linter.unusedSimpArgs false
namespace Go.Proofs.Ytejpcgoblgaieaa.Law
open Go.RowKit Go.Proofs.Ytejpcgoblgaieaa
attribute [local go_sem] Oper.semAt_some

/-- A set in memory: at block p its size and its bytes' slice, whose row is block g. -/
structure SetAt (w : World) (p g c : Nat) (S : List Bool) : Prop where
  hp : w.heap[p]? = some (.cells #[.int .i64 (S.length : Int), .slice (some ⟨g, 0, none⟩) (need S.length) c] 98 (0, 0))
  row : w.ownsRow 0 5 1 (.slice (some ⟨g, 0, none⟩) (need S.length) c) (need S.length) ((bytesOf S).map (Value.int .u8))
  small : S.length ≤ 2048

theorem SetAt.cell0 {w : World} {p g c : Nat} {S : List Bool} (h : SetAt w p g c S) : w.cell? ⟨p, 0, none⟩ = some (.int .i64 (S.length : Int)) := cell_at h.hp 0
theorem SetAt.cell1 {w : World} {p g c : Nat} {S : List Bool} (h : SetAt w p g c S) : w.cell? ⟨p, 1, none⟩ = some (.slice (some ⟨g, 0, none⟩) (need S.length) c) := cell_at h.hp 1
theorem SetAt.byte {w : World} {p g c : Nat} {S : List Bool} (h : SetAt w p g c S) (j : Nat) (hj : j < need S.length) : w.cell? ⟨g, j, none⟩ = some (.int .u8 (byteOf S j : Int)) := by
  have := h.row.cells (g := g) rfl j (.int .u8 (byteOf S j)) (by simp [bytesOf, List.getElem?_range hj])
  rwa [add0] at this
theorem SetAt.free {w : World} {p g c : Nat} {S : List Bool} (h : SetAt w p g c S) (j : Nat) : w.frozen? ⟨g, j, none⟩ = false := by
  rcases h.row.2 with ⟨h1, _⟩ | ⟨g', cap, cur, h1, _, hh, _⟩
  · cases h1
  · injection h1 with h1; injection h1 with h1; injection h1 with h1
    subst h1
    exact frozen_at hh j
theorem SetAt.plt {w : World} {p g c : Nat} {S : List Bool} (h : SetAt w p g c S) : p < w.heap.size := lt_of_block h.hp
theorem SetAt.glt {w : World} {p g c : Nat} {S : List Bool} (h : SetAt w p g c S) : g < w.heap.size := ownsRow_lt h.row g rfl
theorem SetAt.ne {w : World} {p g c : Nat} {S : List Bool} (h : SetAt w p g c S) : p ≠ g := by
  rintro rfl
  rcases h.row.2 with ⟨h1, _⟩ | ⟨g', cap, cur, h1, _, hh, _⟩
  · cases h1
  · injection h1 with h1; injection h1 with h1; injection h1 with h1
    subst h1
    rw [h.hp] at hh
    injection hh with hh
    injection hh with _ ht
    revert ht; decide
theorem SetAt.upd {S0 : Nat → Prop} {w w' : World} {p g c : Nat} {S : List Bool} (h : SetAt w p g c S) (hu : Upd S0 w w') (hp : ¬ S0 p) (hg : ¬ S0 g) : SetAt w' p g c S :=
  ⟨hu.at h.hp hp, ownsRow_upd h.row hu (fun k e => by cases e; exact hg), h.small⟩
theorem SetAt.upd0 {w w' : World} {p g c : Nat} {S : List Bool} (h : SetAt w p g c S) (hu : Upd noB w w') : SetAt w' p g c S := h.upd hu (fun x => x) (fun x => x)
theorem SetAt.keepB {F : List Nat} {w w' : World} {p g c : Nat} {S : List Bool} (h : SetAt w p g c S) (hu : KeepB F w w') (hp : p ∈ F) (hg : g ∈ F) : SetAt w' p g c S :=
  ⟨hu p hp _ _ _ h.hp, ownsRow_keepB h.row hu (fun k e => by cases e; exact hg), h.small⟩
theorem SetAt.gcells {w : World} {p g c : Nat} {S : List Bool} (h : SetAt w p g c S) : ∃ cs t z, w.heap[g]? = some (.cells cs t z) := by
  rcases h.row.2 with ⟨h1, _⟩ | ⟨g', cap, cur, h1, _, hh, _⟩
  · cases h1
  · injection h1 with h1; injection h1 with h1; injection h1 with h1
    subst h1
    exact ⟨_, _, _, hh⟩
theorem SetAt.gtyped {w : World} {p g c : Nat} {S : List Bool} (h : SetAt w p g c S) : ∃ cs, w.heap[g]? = some (.cells cs 5 (0, 0)) := by
  rcases h.row.2 with ⟨h1, _⟩ | ⟨g', cap, cur, h1, _, hh, _⟩
  · cases h1
  · injection h1 with h1; injection h1 with h1; injection h1 with h1
    subst h1
    exact ⟨_, hh⟩
theorem SetAt.putObj {w : World} {p g c : Nat} {S : List Bool} (h : SetAt w p g c S) {D : Nat} {o : Obj} (o' : Obj) (hD : w.heap[D]? = some o) (hc : o.isCells = false) (hw : o.isWalk = false) : SetAt (w.putObj D o') p g c S :=
  h.keepB (KeepB.putObj (F := [p, g]) 0 w D o o' (Nat.zero_le _) hD hc hw) (by simp) (by simp)
/-- A set by itself, of bytes that have been made. -/
theorem SetAt.mk' {w : World} {g c : Nat} {S : List Bool} (hs : S.length ≤ 2048) (hr : w.ownsRow 0 5 1 (.slice (some ⟨g, 0, none⟩) (need S.length) c) (need S.length) ((bytesOf S).map (Value.int .u8))) :
    SetAt (w.alloc (.cells #[.int .i64 (S.length : Int), .slice (some ⟨g, 0, none⟩) (need S.length) c] 98)) w.heap.size g c S :=
  ⟨heap_alloc_new w _, hr.alloc _, hs⟩
/-- A byte is written. -/
theorem SetAt.store {w : World} {p g c : Nat} {S : List Bool} (h : SetAt w p g c S) (i : Nat) (x : Bool) (hi : i < S.length) :
    SetAt (w.setCell ⟨g, i / 8, none⟩ (.int .u8 (byteOf (S.set i x) (i / 8) : Int))) p g c (S.set i x) := by
  have hr := h.row.stored (i / 8) (.int .u8 (byteOf (S.set i x) (i / 8) : Int))
  refine ⟨?_, ?_, by simpa using h.small⟩
  · rw [List.length_set, Below.heap_setCell _ _ _ _ h.ne]; exact h.hp
  · rw [List.length_set, bytesOf_set S i x hi, List.map_set]; exact hr.1

section
variable {p g c : Nat} {S : List Bool} {w : World}

theorem size_at (h : SetAt w p g c S) : Calls Try.prog 14 #[.pointer (some ⟨p, 0, none⟩)] w fun e w' => e = .returned (.int .i64 S.length) ∧ w = w' := by
  have hn := h.cell0
  clear h
  go_enter Try.func14, Try.ntmps14
  go_wp2
  go_ret
  exact ⟨rfl, rfl⟩
theorem size_nil : Calls Try.prog 14 #[.pointer none] w fun e w' => e = .returned (.int .i64 0) ∧ w = w' := by
  go_enter Try.func14, Try.ntmps14
  go_wp2
  go_ret
  exact ⟨rfl, rfl⟩

theorem known_at (h : SetAt w p g c S) (i : Int) :
    Calls Try.prog 52 #[.pointer (some ⟨p, 0, none⟩), .int .i64 i] w fun e w' => e = .returned (.bool (inI S i)) ∧ w = w' := by
  by_cases h0 : 0 ≤ i
  · go_enter Try.func52, Try.ntmps52
    go_wp2_with (go_at_call 14; refine (size_at h).mono ?_; rintro e w' ⟨rfl, rfl⟩)
    go_ret
    exact ⟨ret_bool (by simp [inI, h0]), rfl⟩
  · have hd : decide (0 ≤ i) = false := by simpa using h0
    go_enter Try.func52, Try.ntmps52
    go_wp2
    go_ret
    exact ⟨ret_bool (by rw [inI_out S i (.inl (by omega))]), rfl⟩
theorem known_yes (h : SetAt w p g c S) (i : Nat) (hi : i < S.length) :
    Calls Try.prog 52 #[.pointer (some ⟨p, 0, none⟩), .int .i64 i] w fun e w' => e = .returned (.bool true) ∧ w = w' :=
  (known_at h i).mono fun e w' hh => ⟨by rw [hh.1, inI_nat S i hi], hh.2⟩
theorem known_no (h : SetAt w p g c S) (i : Int) (hi : i < 0 ∨ S.length ≤ i) :
    Calls Try.prog 52 #[.pointer (some ⟨p, 0, none⟩), .int .i64 i] w fun e w' => e = .returned (.bool false) ∧ w = w' :=
  (known_at h i).mono fun e w' hh => ⟨by rw [hh.1, inI_out S i hi], hh.2⟩
theorem known_nil (i : Int) :
    Calls Try.prog 52 #[.pointer none, .int .i64 i] w fun e w' => e = .returned (.bool false) ∧ w = w' := by
  by_cases h0 : 0 ≤ i
  · have hd : decide (i < 0) = false := by simpa using h0
    go_enter Try.func52, Try.ntmps52
    go_wp2_with (go_at_call 14; refine size_nil.mono ?_; rintro e w' ⟨rfl, rfl⟩)
    go_ret
    exact ⟨rfl, rfl⟩
  · have hd : decide (0 ≤ i) = false := by simpa using h0
    go_enter Try.func52, Try.ntmps52
    go_wp2
    go_ret
    exact ⟨rfl, rfl⟩

set_option maxHeartbeats 400000 in
theorem has_in (h : SetAt w p g c S) (i : Nat) (hi : i < S.length) :
    Calls Try.prog 22 #[.pointer (some ⟨p, 0, none⟩), .int .i64 i] w fun e w' => e = .returned (.bool (tr S i)) ∧ w = w' := by
  have H := Lib.hid (known_yes h i hi)
  have h1 := h.cell1
  have hb := h.byte (i / 8) (by unfold need; omega)
  have hs := h.small
  clear h
  have h8 : i / 8 < need S.length := by unfold need; omega
  go_enter Try.func22, Try.ntmps22
  go_wp2_with (go_at_call 52; refine H.out.mono ?_; rintro e w' ⟨rfl, rfl⟩)
  go_ret
  exact ⟨ret_bool (bits_has S i), rfl⟩
theorem has_out (h : SetAt w p g c S) (i : Int) (hi : i < 0 ∨ S.length ≤ i) :
    Calls Try.prog 22 #[.pointer (some ⟨p, 0, none⟩), .int .i64 i] w fun e w' => e = .returned (.bool false) ∧ w = w' := by
  have H := Lib.hid (known_no h i hi)
  clear h
  go_enter Try.func22, Try.ntmps22
  go_wp2_with (go_at_call 52; refine H.out.mono ?_; rintro e w' ⟨rfl, rfl⟩)
  go_ret
  exact ⟨rfl, rfl⟩
theorem has_at (h : SetAt w p g c S) (i : Int) :
    Calls Try.prog 22 #[.pointer (some ⟨p, 0, none⟩), .int .i64 i] w fun e w' => e = .returned (.bool (trI S i)) ∧ w = w' := by
  rcases int_cases S i with hi | ⟨n, rfl, hn⟩
  · exact (has_out h i hi).mono fun e w' hh => ⟨by rw [hh.1, trI_out S i hi], hh.2⟩
  · exact (has_in h n hn).mono fun e w' hh => ⟨by rw [hh.1, trI_nat], hh.2⟩
theorem has_nil (i : Int) :
    Calls Try.prog 22 #[.pointer none, .int .i64 i] w fun e w' => e = .returned (.bool false) ∧ w = w' := by
  go_enter Try.func22, Try.ntmps22
  go_wp2_with (go_at_call 52; refine (known_nil i).mono ?_; rintro e w' ⟨rfl, rfl⟩)
  go_ret
  exact ⟨rfl, rfl⟩

set_option maxHeartbeats 1000000 in
/-- Put of a number that isn't in. -/
theorem put_new (h : SetAt w p g c S) (i : Nat) (hi : i < S.length) (hx : tr S i = false) :
    Calls Try.prog 16 #[.pointer (some ⟨p, 0, none⟩), .int .i64 i] w fun e w' => e = .returned (.bool true) ∧ SetAt w' p g c (S.set i true) ∧ Upd (oneB g) w w' := by
  have H := Lib.hid (known_yes h i hi)
  have H2 := Lib.hid ((has_in h i hi).mono (R' := fun e w' => e = .returned (.bool false) ∧ w = w') (fun e w' hh => ⟨by rw [hh.1, hx], hh.2⟩))
  have h1 := h.cell1
  have hb := h.byte (i / 8) (by unfold need; omega)
  have hf := h.free (i / 8)
  have hs := h.small
  have H3 := Lib.hid h
  clear h hx
  have h8 : i / 8 < need S.length := by unfold need; omega
  go_enter Try.func16, Try.ntmps16
  go_wp2_with (first | (go_at_call 52; refine H.out.mono ?_; rintro e w' ⟨rfl, rfl⟩) | (go_at_call 22; refine H2.out.mono ?_; rintro e w' ⟨rfl, rfl⟩))
  go_region
  go_wp2
  go_ret
  refine ⟨rfl, ?_, ?_⟩
  · have := H3.out.store i true hi
    rw [bits_put' S i hi]
    exact this.upd0 ((Upd.refl _ _).drew)
  · refine Upd.drew (Upd.setCell (Upd.refl _ _) ?_ _); exact .inl rfl
/-- Put of a number that is in. -/
theorem put_old (h : SetAt w p g c S) (i : Nat) (hi : i < S.length) (hx : tr S i = true) :
    Calls Try.prog 16 #[.pointer (some ⟨p, 0, none⟩), .int .i64 i] w fun e w' => e = .returned (.bool false) ∧ w = w' := by
  have H := Lib.hid (known_yes h i hi)
  have H2 := Lib.hid ((has_in h i hi).mono (R' := fun e w' => e = .returned (.bool true) ∧ w = w') (fun e w' hh => ⟨by rw [hh.1, hx], hh.2⟩))
  clear h hx
  go_enter Try.func16, Try.ntmps16
  go_wp2_with (first | (go_at_call 52; refine H.out.mono ?_; rintro e w' ⟨rfl, rfl⟩) | (go_at_call 22; refine H2.out.mono ?_; rintro e w' ⟨rfl, rfl⟩))
  go_ret
  exact ⟨rfl, rfl⟩
theorem put_out (h : SetAt w p g c S) (i : Int) (hi : i < 0 ∨ S.length ≤ i) :
    Calls Try.prog 16 #[.pointer (some ⟨p, 0, none⟩), .int .i64 i] w fun e w' => e = .returned (.bool false) ∧ w = w' := by
  have H := Lib.hid (known_no h i hi)
  clear h
  go_enter Try.func16, Try.ntmps16
  go_wp2_with (go_at_call 52; refine H.out.mono ?_; rintro e w' ⟨rfl, rfl⟩)
  go_ret
  exact ⟨rfl, rfl⟩
theorem put_nil (i : Int) :
    Calls Try.prog 16 #[.pointer none, .int .i64 i] w fun e w' => e = .returned (.bool false) ∧ w = w' := by
  go_enter Try.func16, Try.ntmps16
  go_wp2_with (go_at_call 52; refine (known_nil i).mono ?_; rintro e w' ⟨rfl, rfl⟩)
  go_ret
  exact ⟨rfl, rfl⟩
/-- **Put.** -/
theorem put_at (h : SetAt w p g c S) (i : Int) :
    Calls Try.prog 16 #[.pointer (some ⟨p, 0, none⟩), .int .i64 i] w fun e w' => e = .returned (.bool (inI S i && !trI S i)) ∧ SetAt w' p g c (putI S i true) ∧ Upd (oneB g) w w' := by
  rcases int_cases S i with hi | ⟨n, rfl, hn⟩
  · refine (put_out h i hi).mono fun e w' ⟨h1, h2⟩ => ?_
    subst h2
    exact ⟨by rw [h1, inI_out S i hi]; rfl, by rw [putI_out S i _ hi]; exact h, Upd.refl _ _⟩
  · rw [inI_nat S n hn, trI_nat, putI_nat S n _ hn]
    cases hx : tr S n with
    | false => exact put_new h n hn hx
    | true =>
      refine (put_old h n hn hx).mono fun e w' ⟨h1, h2⟩ => ?_
      subst h2
      exact ⟨h1, by rw [set_tr_self S n true hx hn]; exact h, Upd.refl _ _⟩

theorem new_bad (n : Int) (hn : n < 0 ∨ 2048 < n) :
    Calls Try.prog 11 #[.int .i64 n] w fun e w' => e = .returned (.tuple #[.pointer none, .int .i64 1]) ∧ w = w' := by
  rcases hn with hn | hn
  · go_enter Try.func11, Try.ntmps11
    go_wp2
    go_ret2
    exact ⟨rfl, rfl⟩
  · have h0 : decide (n < 0) = false := by simp; omega
    go_enter Try.func11, Try.ntmps11
    go_wp2
    go_ret2
    exact ⟨rfl, rfl⟩
theorem info_u8 : (Try.prog.info? 5).map (fun i => (i.zero, i.size, i.bytes)) = some (some (.int .u8 0), 1, 1) := by kernel_rfl
set_option maxHeartbeats 1000000 in
theorem new_ok (n : Nat) (hn : n ≤ 2048) :
    Calls Try.prog 11 #[.int .i64 n] w fun e w' => ∃ p g c, e = .returned (.tuple #[.pointer (some ⟨p, 0, none⟩), .int .i64 0]) ∧ SetAt w' p g c (List.replicate n false) ∧ Upd noB w w' ∧ w.heap.size ≤ p ∧ w.heap.size ≤ g := by
  have h0 : decide ((n : Int) < 0) = false := by simp
  have h1 : decide ((2048 : Int) < n) = false := by simp; omega
  have e1 : (((n : Int) + 8 - 1) / 8) = (need n : Int) := by unfold need; omega
  have hnd : need n ≤ 257 := by unfold need; omega
  have hmk := make_run (P := Try.prog) 48 5 (.int .u8 0) 1 Try.underlying48 info_u8 rfl (((n : Int) + 8 - 1) / 8) (need n) e1 (by omega) (by omega)
  clear e1
  go_enter Try.func11, Try.ntmps11
  go_wp2
  go_ret2
  have hr := ownsRow_made w 5 (.int .u8 0) (need n) (by omega)
  have hr2 : (w.alloc (.cells (madeCells #[.int .u8 0] (need n)) 5)).ownsRow 0 5 1 (.slice (some ⟨w.heap.size, 0, none⟩) (need (List.replicate n false).length) (need n)) (need (List.replicate n false).length) ((bytesOf (List.replicate n false)).map (Value.int .u8)) := by
    rw [bytesOf_replicate, List.length_replicate, List.map_replicate]; exact hr
  have hs := SetAt.mk' (by simpa using hn) hr2
  simp only [List.length_replicate, World.size_alloc] at hs
  exact ⟨_, _, _, rfl, hs, ((Upd.refl _ _).alloc _).alloc _, by omega, Nat.le_refl _⟩

/-- **Bytes.** -/
theorem bytes_at (h : SetAt w p g c S) :
    Calls Try.prog 25 #[.pointer (some ⟨p, 0, none⟩)] w fun e w' => ∃ v, e = .returned v ∧ w'.ownsRow w.heap.size 5 1 v (need S.length) ((bytesOf S).map (Value.int .u8)) ∧ v ≠ .slice none 0 0 ∧ Upd noB w w' := by
  have h1 := h.cell1
  have hn : need S.length ≤ 257 := by have := h.small; unfold need; omega
  have H := Lib.hid (bytes_Clone_at ⟨g, 0, none⟩ (need S.length) c (bytesOf S) w (bytesOf_length S) (by omega) (fun i hi => by
    rw [add0, h.byte i hi]; simp [bytesOf, List.getD_eq_getElem?_getD, List.getElem?_range hi]))
  clear h
  go_enter Try.func25, Try.ntmps25
  go_wp2_with (go_at_call 59; refine H.out.mono ?_; rintro e w' ⟨v, rfl, hr, hv, hb⟩)
  go_ret
  exact ⟨_, rfl, hr, hv, Upd.of_below hb⟩
theorem bytes_new (h : SetAt w p g c S) :
    Calls Try.prog 25 #[.pointer (some ⟨p, 0, none⟩)] w fun e w' => ∃ r d, e = .returned (.slice (some ⟨r, 0, none⟩) (need S.length) d) ∧ w'.ownsRow 0 5 1 (.slice (some ⟨r, 0, none⟩) (need S.length) d) (need S.length) ((bytesOf S).map (Value.int .u8)) ∧ w.heap.size ≤ r ∧ Upd noB w w' := by
  refine (bytes_at h).mono ?_
  rintro e w' ⟨v, rfl, hr, hv, hu⟩
  obtain ⟨h1, h2⟩ := hr
  rcases h2 with ⟨rfl, _⟩ | ⟨r, d, cur, rfl, hb, hh, rest⟩
  · exact absurd rfl hv
  · exact ⟨r, d, rfl, ⟨h1, .inr ⟨r, d, cur, rfl, Nat.zero_le _, hh, rest⟩⟩, hb, hu⟩
theorem bytes_nil :
    Calls Try.prog 25 #[.pointer none] w fun e w' => e = .returned (.slice none 0 0) ∧ w = w' := by
  go_enter Try.func25, Try.ntmps25
  go_wp2
  go_ret
  exact ⟨rfl, rfl⟩

end
end Go.Proofs.Ytejpcgoblgaieaa.Law
