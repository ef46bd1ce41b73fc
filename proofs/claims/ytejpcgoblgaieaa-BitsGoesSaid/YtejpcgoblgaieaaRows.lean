/-
  No cell of these rows narrows 'for every input' (looked for: loops, veiled, ifaces, maps, wideKeys, modest, calm, conditions, laid).
  DERIVED. THE GIVEN ROWS OF THIS SEAT. 8 by the template 'for every input the law returns true; each argument reads behind the call as it read before'; 0 by the template 'total and deterministic' (their statements: YtejpcgoblgaieaaTotals.lean).
  GIVEN WITH THE SEED: the statements are not yours to turn. If you find one false, say at which input.
  Laid BY PROGRAM, IN A SANDBOX (cutbox-rows.mjs): the forced cells as the released guide's own fill.sh prints them over the translation 8e9443d2cf76e681… (all of the seat's roots in one cut). By AI agents, Wed Nov 11 2026. No macro, syntax, notation, axiom, sorry.
-/
import Derived.Test.YtejpcgoblgaieaaChecked
import GoSem.Claim
import GoSem.ClaimJoined
import GoSem.ClaimMapViews
import Derived.JoinedTies
import Derived.KernelRfl
namespace Go.Proofs.Ytejpcgoblgaieaa
/- THE CELL 'sum', in the pinned program and in every row, IS THE sha256 OF THE DUMP (.gsa) THAT YtejpcgoblgaieaaProg.lean LOADS. Nothing in Lean hashes anything: it is a label: what it is worth is what the hold of that sum in a sandbox is worth. -/
noncomputable def Try.pinned : Pinned := { name := "ytejpcgoblgaieaa", sum := "8e9443d2cf76e681a2b2e193be18de1f598c42299406706f44f65cc9f6572d92", checked := Try.checked }
namespace Rows
def none {H : Type} : Left H := { results := [], args := [] }

/-- 'hibernaclelaw06.BitsPlays': WHATEVER THE INPUT: true; the input reads as it did. -/
def bitsPlaysSpec : ChangeSpec := { name := "bitsPlays", fn := fun _ => fun
  | [d1, d2] => { results := [.lit (.bool true)], args := [d1, d2] }
  | _ => none }
def bitsPlaysRow : OpenClaim := { program := "ytejpcgoblgaieaa", sum := "8e9443d2cf76e681a2b2e193be18de1f598c42299406706f44f65cc9f6572d92", func := "hibernacle/hibernaclelaw06.BitsPlays", spec := "bitsPlays", unfollowed := true, recurses := true, apart := false }
def BitsPlaysSaid : Prop := bitsPlaysRow.holds Try.pinned (OpenSpec.ofChange bitsPlaysSpec)

/-- ITS FALSE NEIGHBOUR: 'it returns false'. Refute it at one input. -/
def bitsPlaysWrong : ChangeSpec := { name := "bitsPlays", fn := fun _ => fun
  | [d1, d2] => { results := [.lit (.bool false)], args := [d1, d2] }
  | _ => none }
def BitsPlaysWrongFalsely : Prop := bitsPlaysRow.holds Try.pinned (OpenSpec.ofChange bitsPlaysWrong)

/-- 'hibernaclelaw06.BitsGoes': WHATEVER THE INPUT: true; the input reads as it did. -/
def bitsGoesSpec : ChangeSpec := { name := "bitsGoes", fn := fun _ => fun
  | [d1, d2, d3] => { results := [.lit (.bool true)], args := [d1, d2, d3] }
  | _ => none }
def bitsGoesRow : OpenClaim := { program := "ytejpcgoblgaieaa", sum := "8e9443d2cf76e681a2b2e193be18de1f598c42299406706f44f65cc9f6572d92", func := "hibernacle/hibernaclelaw06.BitsGoes", spec := "bitsGoes", unfollowed := true, recurses := true, apart := false }
def BitsGoesSaid : Prop := bitsGoesRow.holds Try.pinned (OpenSpec.ofChange bitsGoesSpec)

/-- ITS FALSE NEIGHBOUR: 'it returns false'. Refute it at one input. -/
def bitsGoesWrong : ChangeSpec := { name := "bitsGoes", fn := fun _ => fun
  | [d1, d2, d3] => { results := [.lit (.bool false)], args := [d1, d2, d3] }
  | _ => none }
def BitsGoesWrongFalsely : Prop := bitsGoesRow.holds Try.pinned (OpenSpec.ofChange bitsGoesWrong)

/-- 'hibernaclelaw06.BitsOf': WHATEVER THE INPUT: true; the input reads as it did. -/
def bitsOfSpec : ChangeSpec := { name := "bitsOf", fn := fun _ => fun
  | [d1, d2] => { results := [.lit (.bool true)], args := [d1, d2] }
  | _ => none }
def bitsOfRow : OpenClaim := { program := "ytejpcgoblgaieaa", sum := "8e9443d2cf76e681a2b2e193be18de1f598c42299406706f44f65cc9f6572d92", func := "hibernacle/hibernaclelaw06.BitsOf", spec := "bitsOf", unfollowed := true, recurses := true, apart := false }
def BitsOfSaid : Prop := bitsOfRow.holds Try.pinned (OpenSpec.ofChange bitsOfSpec)

/-- ITS FALSE NEIGHBOUR: 'it returns false'. Refute it at one input. -/
def bitsOfWrong : ChangeSpec := { name := "bitsOf", fn := fun _ => fun
  | [d1, d2] => { results := [.lit (.bool false)], args := [d1, d2] }
  | _ => none }
def BitsOfWrongFalsely : Prop := bitsOfRow.holds Try.pinned (OpenSpec.ofChange bitsOfWrong)

/-- 'hibernaclelaw07.TablePlays': WHATEVER THE INPUT: true; the input reads as it did. -/
def tablePlaysSpec : ChangeSpec := { name := "tablePlays", fn := fun _ => fun
  | [d] => { results := [.lit (.bool true)], args := [d] }
  | _ => none }
def tablePlaysRow : OpenClaim := { program := "ytejpcgoblgaieaa", sum := "8e9443d2cf76e681a2b2e193be18de1f598c42299406706f44f65cc9f6572d92", func := "hibernacle/hibernaclelaw07.TablePlays", spec := "tablePlays", unfollowed := true, recurses := true, apart := false }
def TablePlaysSaid : Prop := tablePlaysRow.holds Try.pinned (OpenSpec.ofChange tablePlaysSpec)

/-- ITS FALSE NEIGHBOUR: 'it returns false'. Refute it at one input. -/
def tablePlaysWrong : ChangeSpec := { name := "tablePlays", fn := fun _ => fun
  | [d] => { results := [.lit (.bool false)], args := [d] }
  | _ => none }
def TablePlaysWrongFalsely : Prop := tablePlaysRow.holds Try.pinned (OpenSpec.ofChange tablePlaysWrong)

/-- 'hibernaclelaw06.BitsBoth': WHATEVER THE INPUT: true; the input reads as it did. -/
def bitsBothSpec : ChangeSpec := { name := "bitsBoth", fn := fun _ => fun
  | [d1, d2, d3] => { results := [.lit (.bool true)], args := [d1, d2, d3] }
  | _ => none }
def bitsBothRow : OpenClaim := { program := "ytejpcgoblgaieaa", sum := "8e9443d2cf76e681a2b2e193be18de1f598c42299406706f44f65cc9f6572d92", func := "hibernacle/hibernaclelaw06.BitsBoth", spec := "bitsBoth", unfollowed := true, recurses := true, apart := false }
def BitsBothSaid : Prop := bitsBothRow.holds Try.pinned (OpenSpec.ofChange bitsBothSpec)

/-- ITS FALSE NEIGHBOUR: 'it returns false'. Refute it at one input. -/
def bitsBothWrong : ChangeSpec := { name := "bitsBoth", fn := fun _ => fun
  | [d1, d2, d3] => { results := [.lit (.bool false)], args := [d1, d2, d3] }
  | _ => none }
def BitsBothWrongFalsely : Prop := bitsBothRow.holds Try.pinned (OpenSpec.ofChange bitsBothWrong)

/-- 'hibernaclelaw07.TableLeaves': WHATEVER THE INPUT: true; the input reads as it did. -/
def tableLeavesSpec : ChangeSpec := { name := "tableLeaves", fn := fun _ => fun
  | [d1, d2, d3] => { results := [.lit (.bool true)], args := [d1, d2, d3] }
  | _ => none }
def tableLeavesRow : OpenClaim := { program := "ytejpcgoblgaieaa", sum := "8e9443d2cf76e681a2b2e193be18de1f598c42299406706f44f65cc9f6572d92", func := "hibernacle/hibernaclelaw07.TableLeaves", spec := "tableLeaves", unfollowed := true, recurses := true, apart := false }
def TableLeavesSaid : Prop := tableLeavesRow.holds Try.pinned (OpenSpec.ofChange tableLeavesSpec)

/-- ITS FALSE NEIGHBOUR: 'it returns false'. Refute it at one input. -/
def tableLeavesWrong : ChangeSpec := { name := "tableLeaves", fn := fun _ => fun
  | [d1, d2, d3] => { results := [.lit (.bool false)], args := [d1, d2, d3] }
  | _ => none }
def TableLeavesWrongFalsely : Prop := tableLeavesRow.holds Try.pinned (OpenSpec.ofChange tableLeavesWrong)

/-- 'hibernaclelaw07.TableBack': WHATEVER THE INPUT: true; the input reads as it did. -/
def tableBackSpec : ChangeSpec := { name := "tableBack", fn := fun _ => fun
  | [d1, d2] => { results := [.lit (.bool true)], args := [d1, d2] }
  | _ => none }
def tableBackRow : OpenClaim := { program := "ytejpcgoblgaieaa", sum := "8e9443d2cf76e681a2b2e193be18de1f598c42299406706f44f65cc9f6572d92", func := "hibernacle/hibernaclelaw07.TableBack", spec := "tableBack", unfollowed := true, recurses := true, apart := false }
def TableBackSaid : Prop := tableBackRow.holds Try.pinned (OpenSpec.ofChange tableBackSpec)

/-- ITS FALSE NEIGHBOUR: 'it returns false'. Refute it at one input. -/
def tableBackWrong : ChangeSpec := { name := "tableBack", fn := fun _ => fun
  | [d1, d2] => { results := [.lit (.bool false)], args := [d1, d2] }
  | _ => none }
def TableBackWrongFalsely : Prop := tableBackRow.holds Try.pinned (OpenSpec.ofChange tableBackWrong)

/-- 'hibernaclelaw07.TableDirs': WHATEVER THE INPUT: true; the input reads as it did. -/
def tableDirsSpec : ChangeSpec := { name := "tableDirs", fn := fun _ => fun
  | [d1, d2, d3] => { results := [.lit (.bool true)], args := [d1, d2, d3] }
  | _ => none }
def tableDirsRow : OpenClaim := { program := "ytejpcgoblgaieaa", sum := "8e9443d2cf76e681a2b2e193be18de1f598c42299406706f44f65cc9f6572d92", func := "hibernacle/hibernaclelaw07.TableDirs", spec := "tableDirs", apart := false }
def TableDirsSaid : Prop := tableDirsRow.holds Try.pinned (OpenSpec.ofChange tableDirsSpec)

/-- ITS FALSE NEIGHBOUR: 'it returns false'. Refute it at one input. -/
def tableDirsWrong : ChangeSpec := { name := "tableDirs", fn := fun _ => fun
  | [d1, d2, d3] => { results := [.lit (.bool false)], args := [d1, d2, d3] }
  | _ => none }
def TableDirsWrongFalsely : Prop := tableDirsRow.holds Try.pinned (OpenSpec.ofChange tableDirsWrong)

/- THE SECOND FORM. 'bulk': how many values and letters a reading holds, each counted each time it is reached (what is shared counts as often as it is met; a slice's spare places count too). A statement '..UptoSaid' is the law's where the arguments, and the package variables that the reading takes, are together of bulk at most 1048576: NARROWER than '..Said'. Prove '..Said' where nothing that the law and all that it calls make is longer than what came in: it says more and counts as full. Else prove '..UptoSaid'. A law counts once. -/
mutual
def uptoBulk {H : Type} : DataW H → Nat
  | .lit (.string bytes) => bytes.length + 1
  | .lit _ => 1
  | .nil => 1
  | .ptr d => uptoBulk d + 1
  | .slice elems spare => uptoBulkAll elems + uptoBulkAll spare + 1
  | .agg parts => uptoBulkAll parts + 1
  | .iface _ d => uptoBulk d + 1
  | .map entries => uptoBulkEntries entries + 1
  | .held _ => 1
def uptoBulkAll {H : Type} : List (DataW H) → Nat
  | [] => 0
  | d :: r => uptoBulk d + uptoBulkAll r
def uptoBulkEntries {H : Type} : List (Lit × DataW H) → Nat
  | [] => 0
  | x :: r => uptoBulkEntry x + uptoBulkEntries r
def uptoBulkEntry {H : Type} : Lit × DataW H → Nat
  | (.string bytes, d) => bytes.length + uptoBulk d + 1
  | (_, d) => uptoBulk d + 1
 end
def uptoSmall : (H : Type) → List (DataW H) → Bool := fun _ ds => decide (uptoBulkAll ds ≤ 1048576)
def OpenSpec.upto (s : _root_.Go.ChangeSpec) : _root_.Go.OpenSpec := { _root_.Go.OpenSpec.ofChange s with cond := some uptoSmall }

/-- 'hibernaclelaw06.BitsPlays', WHERE WHAT IT READS IS OF BULK AT MOST 1048576: true; the input reads as it did. -/
def bitsPlaysUptoRow : OpenClaim := { program := "ytejpcgoblgaieaa", sum := "8e9443d2cf76e681a2b2e193be18de1f598c42299406706f44f65cc9f6572d92", func := "hibernacle/hibernaclelaw06.BitsPlays", spec := "bitsPlays", unfollowed := true, recurses := true, apart := false, narrowed := true }
def BitsPlaysUptoSaid : Prop := bitsPlaysUptoRow.holds Try.pinned (OpenSpec.upto bitsPlaysSpec)

/-- 'hibernaclelaw06.BitsGoes', WHERE WHAT IT READS IS OF BULK AT MOST 1048576: true; the input reads as it did. -/
def bitsGoesUptoRow : OpenClaim := { program := "ytejpcgoblgaieaa", sum := "8e9443d2cf76e681a2b2e193be18de1f598c42299406706f44f65cc9f6572d92", func := "hibernacle/hibernaclelaw06.BitsGoes", spec := "bitsGoes", unfollowed := true, recurses := true, apart := false, narrowed := true }
def BitsGoesUptoSaid : Prop := bitsGoesUptoRow.holds Try.pinned (OpenSpec.upto bitsGoesSpec)

/-- 'hibernaclelaw06.BitsOf', WHERE WHAT IT READS IS OF BULK AT MOST 1048576: true; the input reads as it did. -/
def bitsOfUptoRow : OpenClaim := { program := "ytejpcgoblgaieaa", sum := "8e9443d2cf76e681a2b2e193be18de1f598c42299406706f44f65cc9f6572d92", func := "hibernacle/hibernaclelaw06.BitsOf", spec := "bitsOf", unfollowed := true, recurses := true, apart := false, narrowed := true }
def BitsOfUptoSaid : Prop := bitsOfUptoRow.holds Try.pinned (OpenSpec.upto bitsOfSpec)

/-- 'hibernaclelaw07.TablePlays', WHERE WHAT IT READS IS OF BULK AT MOST 1048576: true; the input reads as it did. -/
def tablePlaysUptoRow : OpenClaim := { program := "ytejpcgoblgaieaa", sum := "8e9443d2cf76e681a2b2e193be18de1f598c42299406706f44f65cc9f6572d92", func := "hibernacle/hibernaclelaw07.TablePlays", spec := "tablePlays", unfollowed := true, recurses := true, apart := false, narrowed := true }
def TablePlaysUptoSaid : Prop := tablePlaysUptoRow.holds Try.pinned (OpenSpec.upto tablePlaysSpec)

/-- 'hibernaclelaw06.BitsBoth', WHERE WHAT IT READS IS OF BULK AT MOST 1048576: true; the input reads as it did. -/
def bitsBothUptoRow : OpenClaim := { program := "ytejpcgoblgaieaa", sum := "8e9443d2cf76e681a2b2e193be18de1f598c42299406706f44f65cc9f6572d92", func := "hibernacle/hibernaclelaw06.BitsBoth", spec := "bitsBoth", unfollowed := true, recurses := true, apart := false, narrowed := true }
def BitsBothUptoSaid : Prop := bitsBothUptoRow.holds Try.pinned (OpenSpec.upto bitsBothSpec)

/-- 'hibernaclelaw07.TableLeaves', WHERE WHAT IT READS IS OF BULK AT MOST 1048576: true; the input reads as it did. -/
def tableLeavesUptoRow : OpenClaim := { program := "ytejpcgoblgaieaa", sum := "8e9443d2cf76e681a2b2e193be18de1f598c42299406706f44f65cc9f6572d92", func := "hibernacle/hibernaclelaw07.TableLeaves", spec := "tableLeaves", unfollowed := true, recurses := true, apart := false, narrowed := true }
def TableLeavesUptoSaid : Prop := tableLeavesUptoRow.holds Try.pinned (OpenSpec.upto tableLeavesSpec)

/-- 'hibernaclelaw07.TableBack', WHERE WHAT IT READS IS OF BULK AT MOST 1048576: true; the input reads as it did. -/
def tableBackUptoRow : OpenClaim := { program := "ytejpcgoblgaieaa", sum := "8e9443d2cf76e681a2b2e193be18de1f598c42299406706f44f65cc9f6572d92", func := "hibernacle/hibernaclelaw07.TableBack", spec := "tableBack", unfollowed := true, recurses := true, apart := false, narrowed := true }
def TableBackUptoSaid : Prop := tableBackUptoRow.holds Try.pinned (OpenSpec.upto tableBackSpec)

/-- 'hibernaclelaw07.TableDirs', WHERE WHAT IT READS IS OF BULK AT MOST 1048576: true; the input reads as it did. -/
def tableDirsUptoRow : OpenClaim := { program := "ytejpcgoblgaieaa", sum := "8e9443d2cf76e681a2b2e193be18de1f598c42299406706f44f65cc9f6572d92", func := "hibernacle/hibernaclelaw07.TableDirs", spec := "tableDirs", apart := false, narrowed := true }
def TableDirsUptoSaid : Prop := tableDirsUptoRow.holds Try.pinned (OpenSpec.upto tableDirsSpec)

end Rows
end Go.Proofs.Ytejpcgoblgaieaa
