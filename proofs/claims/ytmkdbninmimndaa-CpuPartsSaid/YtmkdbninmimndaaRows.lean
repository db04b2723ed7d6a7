/-
  No cell of these rows narrows 'for every input' (looked for: loops, veiled, ifaces, maps, wideKeys, modest, calm, conditions, laid).
  DERIVED. THE GIVEN ROWS OF THIS SEAT. 6 by the template 'for every input the law returns true; each argument reads behind the call as it read before'; 0 by the template 'total and deterministic' (their statements: YtmkdbninmimndaaTotals.lean).
  GIVEN WITH THE SEED: the statements are not yours to turn. If you find one false, say at which input.
  Laid BY PROGRAM, IN A SANDBOX (cutbox-rows.mjs): the forced cells as the released guide's own fill.sh prints them over the translation 5d3bd95807f97d10… (all of the seat's roots in one cut). By AI agents, Wed Nov 11 2026. No macro, syntax, notation, axiom, sorry.
-/
import Derived.Test.YtmkdbninmimndaaChecked
import GoSem.Claim
import GoSem.ClaimJoined
import GoSem.ClaimMapViews
import Derived.JoinedTies
import Derived.KernelRfl
namespace Go.Proofs.Ytmkdbninmimndaa
/- THE CELL 'sum', in the pinned program and in every row, IS THE sha256 OF THE DUMP (.gsa) THAT YtmkdbninmimndaaProg.lean LOADS. Nothing in Lean hashes anything: it is a label: what it is worth is what the hold of that sum in a sandbox is worth. -/
noncomputable def Try.pinned : Pinned := { name := "ytmkdbninmimndaa", sum := "5d3bd95807f97d107834db010767a99bf60f02cf395379fc12a44cad31f80877", checked := Try.checked }
namespace Rows
def none {H : Type} : Left H := { results := [], args := [] }

/-- 'steadinglaw08.CpuRuns': WHATEVER THE INPUT: true; the input reads as it did. -/
def cpuRunsSpec : ChangeSpec := { name := "cpuRuns", fn := fun _ => fun
  | [d] => { results := [.lit (.bool true)], args := [d] }
  | _ => none }
def cpuRunsRow : OpenClaim := { program := "ytmkdbninmimndaa", sum := "5d3bd95807f97d107834db010767a99bf60f02cf395379fc12a44cad31f80877", func := "steading/steadinglaw08.CpuRuns", spec := "cpuRuns", unfollowed := true, recurses := true, apart := false }
def CpuRunsSaid : Prop := cpuRunsRow.holds Try.pinned (OpenSpec.ofChange cpuRunsSpec)

/-- ITS FALSE NEIGHBOUR: 'it returns false'. Refute it at one input. -/
def cpuRunsWrong : ChangeSpec := { name := "cpuRuns", fn := fun _ => fun
  | [d] => { results := [.lit (.bool false)], args := [d] }
  | _ => none }
def CpuRunsWrongFalsely : Prop := cpuRunsRow.holds Try.pinned (OpenSpec.ofChange cpuRunsWrong)

/-- 'steadinglaw08.CpuOnce': WHATEVER THE INPUT: true; the input reads as it did. -/
def cpuOnceSpec : ChangeSpec := { name := "cpuOnce", fn := fun _ => fun
  | [d1, d2, d3, d4] => { results := [.lit (.bool true)], args := [d1, d2, d3, d4] }
  | _ => none }
def cpuOnceRow : OpenClaim := { program := "ytmkdbninmimndaa", sum := "5d3bd95807f97d107834db010767a99bf60f02cf395379fc12a44cad31f80877", func := "steading/steadinglaw08.CpuOnce", spec := "cpuOnce", unfollowed := true, recurses := true, apart := false }
def CpuOnceSaid : Prop := cpuOnceRow.holds Try.pinned (OpenSpec.ofChange cpuOnceSpec)

/-- ITS FALSE NEIGHBOUR: 'it returns false'. Refute it at one input. -/
def cpuOnceWrong : ChangeSpec := { name := "cpuOnce", fn := fun _ => fun
  | [d1, d2, d3, d4] => { results := [.lit (.bool false)], args := [d1, d2, d3, d4] }
  | _ => none }
def CpuOnceWrongFalsely : Prop := cpuOnceRow.holds Try.pinned (OpenSpec.ofChange cpuOnceWrong)

/-- 'steadinglaw08.CpuMoves': WHATEVER THE INPUT: true; the input reads as it did. -/
def cpuMovesSpec : ChangeSpec := { name := "cpuMoves", fn := fun _ => fun
  | [d1, d2, d3, d4, d5, d6] => { results := [.lit (.bool true)], args := [d1, d2, d3, d4, d5, d6] }
  | _ => none }
def cpuMovesRow : OpenClaim := { program := "ytmkdbninmimndaa", sum := "5d3bd95807f97d107834db010767a99bf60f02cf395379fc12a44cad31f80877", func := "steading/steadinglaw08.CpuMoves", spec := "cpuMoves", unfollowed := true, recurses := true, apart := false }
def CpuMovesSaid : Prop := cpuMovesRow.holds Try.pinned (OpenSpec.ofChange cpuMovesSpec)

/-- ITS FALSE NEIGHBOUR: 'it returns false'. Refute it at one input. -/
def cpuMovesWrong : ChangeSpec := { name := "cpuMoves", fn := fun _ => fun
  | [d1, d2, d3, d4, d5, d6] => { results := [.lit (.bool false)], args := [d1, d2, d3, d4, d5, d6] }
  | _ => none }
def CpuMovesWrongFalsely : Prop := cpuMovesRow.holds Try.pinned (OpenSpec.ofChange cpuMovesWrong)

/-- 'steadinglaw08.CpuParts': WHATEVER THE INPUT: true; the input reads as it did. -/
def cpuPartsSpec : ChangeSpec := { name := "cpuParts", fn := fun _ => fun
  | [d1, d2] => { results := [.lit (.bool true)], args := [d1, d2] }
  | _ => none }
def cpuPartsRow : OpenClaim := { program := "ytmkdbninmimndaa", sum := "5d3bd95807f97d107834db010767a99bf60f02cf395379fc12a44cad31f80877", func := "steading/steadinglaw08.CpuParts", spec := "cpuParts", unfollowed := true, recurses := true, apart := false }
def CpuPartsSaid : Prop := cpuPartsRow.holds Try.pinned (OpenSpec.ofChange cpuPartsSpec)

/-- ITS FALSE NEIGHBOUR: 'it returns false'. Refute it at one input. -/
def cpuPartsWrong : ChangeSpec := { name := "cpuParts", fn := fun _ => fun
  | [d1, d2] => { results := [.lit (.bool false)], args := [d1, d2] }
  | _ => none }
def CpuPartsWrongFalsely : Prop := cpuPartsRow.holds Try.pinned (OpenSpec.ofChange cpuPartsWrong)

/-- 'steadinglaw08.CpuFlat': WHATEVER THE INPUT: true; the input reads as it did. -/
def cpuFlatSpec : ChangeSpec := { name := "cpuFlat", fn := fun _ => fun
  | [d1, d2, d3, d4, d5] => { results := [.lit (.bool true)], args := [d1, d2, d3, d4, d5] }
  | _ => none }
def cpuFlatRow : OpenClaim := { program := "ytmkdbninmimndaa", sum := "5d3bd95807f97d107834db010767a99bf60f02cf395379fc12a44cad31f80877", func := "steading/steadinglaw08.CpuFlat", spec := "cpuFlat", unfollowed := true, recurses := true, apart := false }
def CpuFlatSaid : Prop := cpuFlatRow.holds Try.pinned (OpenSpec.ofChange cpuFlatSpec)

/-- ITS FALSE NEIGHBOUR: 'it returns false'. Refute it at one input. -/
def cpuFlatWrong : ChangeSpec := { name := "cpuFlat", fn := fun _ => fun
  | [d1, d2, d3, d4, d5] => { results := [.lit (.bool false)], args := [d1, d2, d3, d4, d5] }
  | _ => none }
def CpuFlatWrongFalsely : Prop := cpuFlatRow.holds Try.pinned (OpenSpec.ofChange cpuFlatWrong)

/-- 'steadinglaw08.CpuNil': WHATEVER THE INPUT: true; the input reads as it did. -/
def cpuNilSpec : ChangeSpec := { name := "cpuNil", fn := fun _ => fun
  | [] => { results := [.lit (.bool true)], args := [] }
  | _ => none }
def cpuNilRow : OpenClaim := { program := "ytmkdbninmimndaa", sum := "5d3bd95807f97d107834db010767a99bf60f02cf395379fc12a44cad31f80877", func := "steading/steadinglaw08.CpuNil", spec := "cpuNil", unfollowed := true, recurses := true, apart := false }
def CpuNilSaid : Prop := cpuNilRow.holds Try.pinned (OpenSpec.ofChange cpuNilSpec)

/-- ITS FALSE NEIGHBOUR: 'it returns false'. Refute it at one input. -/
def cpuNilWrong : ChangeSpec := { name := "cpuNil", fn := fun _ => fun
  | [] => { results := [.lit (.bool false)], args := [] }
  | _ => none }
def CpuNilWrongFalsely : Prop := cpuNilRow.holds Try.pinned (OpenSpec.ofChange cpuNilWrong)

/- THE SECOND FORM. 'bulk': how many values and letters a reading holds, each counted each time it is reached (what is shared counts as often as it is met; a slice's spare places count too). A statement '..UptoSaid' is the law's where the arguments, and the package variables that the reading takes, are together of bulk at most 1048576: NARROWER than '..Said'. Prove '..Said' where nothing that the law and all that it calls make is longer than what came in: it says more and counts as full. Else prove '..UptoSaid'. A law counts once. -/
mutual
def uptoBulk {H : Type} : DataW H → Nat
  | .lit (.string bytes) => bytes.length + 1
  | .lit _ => 1
  | .nil => 1
  | .ptr d => uptoBulk d + 1
  | .slice elems spare => uptoBulkAll elems + uptoBulkAll spare + 1
  | .agg parts => uptoBulkAll parts + 1
  | .iface _ d => uptoBulk d + 1
  | .map entries => uptoBulkEntries entries + 1
  | .held _ => 1
def uptoBulkAll {H : Type} : List (DataW H) → Nat
  | [] => 0
  | d :: r => uptoBulk d + uptoBulkAll r
def uptoBulkEntries {H : Type} : List (Lit × DataW H) → Nat
  | [] => 0
  | x :: r => uptoBulkEntry x + uptoBulkEntries r
def uptoBulkEntry {H : Type} : Lit × DataW H → Nat
  | (.string bytes, d) => bytes.length + uptoBulk d + 1
  | (_, d) => uptoBulk d + 1
 end
def uptoSmall : (H : Type) → List (DataW H) → Bool := fun _ ds => decide (uptoBulkAll ds ≤ 1048576)
def OpenSpec.upto (s : _root_.Go.ChangeSpec) : _root_.Go.OpenSpec := { _root_.Go.OpenSpec.ofChange s with cond := some uptoSmall }

/-- 'steadinglaw08.CpuRuns', WHERE WHAT IT READS IS OF BULK AT MOST 1048576: true; the input reads as it did. -/
def cpuRunsUptoRow : OpenClaim := { program := "ytmkdbninmimndaa", sum := "5d3bd95807f97d107834db010767a99bf60f02cf395379fc12a44cad31f80877", func := "steading/steadinglaw08.CpuRuns", spec := "cpuRuns", unfollowed := true, recurses := true, apart := false, narrowed := true }
def CpuRunsUptoSaid : Prop := cpuRunsUptoRow.holds Try.pinned (OpenSpec.upto cpuRunsSpec)

/-- 'steadinglaw08.CpuOnce', WHERE WHAT IT READS IS OF BULK AT MOST 1048576: true; the input reads as it did. -/
def cpuOnceUptoRow : OpenClaim := { program := "ytmkdbninmimndaa", sum := "5d3bd95807f97d107834db010767a99bf60f02cf395379fc12a44cad31f80877", func := "steading/steadinglaw08.CpuOnce", spec := "cpuOnce", unfollowed := true, recurses := true, apart := false, narrowed := true }
def CpuOnceUptoSaid : Prop := cpuOnceUptoRow.holds Try.pinned (OpenSpec.upto cpuOnceSpec)

/-- 'steadinglaw08.CpuMoves', WHERE WHAT IT READS IS OF BULK AT MOST 1048576: true; the input reads as it did. -/
def cpuMovesUptoRow : OpenClaim := { program := "ytmkdbninmimndaa", sum := "5d3bd95807f97d107834db010767a99bf60f02cf395379fc12a44cad31f80877", func := "steading/steadinglaw08.CpuMoves", spec := "cpuMoves", unfollowed := true, recurses := true, apart := false, narrowed := true }
def CpuMovesUptoSaid : Prop := cpuMovesUptoRow.holds Try.pinned (OpenSpec.upto cpuMovesSpec)

/-- 'steadinglaw08.CpuParts', WHERE WHAT IT READS IS OF BULK AT MOST 1048576: true; the input reads as it did. -/
def cpuPartsUptoRow : OpenClaim := { program := "ytmkdbninmimndaa", sum := "5d3bd95807f97d107834db010767a99bf60f02cf395379fc12a44cad31f80877", func := "steading/steadinglaw08.CpuParts", spec := "cpuParts", unfollowed := true, recurses := true, apart := false, narrowed := true }
def CpuPartsUptoSaid : Prop := cpuPartsUptoRow.holds Try.pinned (OpenSpec.upto cpuPartsSpec)

/-- 'steadinglaw08.CpuFlat', WHERE WHAT IT READS IS OF BULK AT MOST 1048576: true; the input reads as it did. -/
def cpuFlatUptoRow : OpenClaim := { program := "ytmkdbninmimndaa", sum := "5d3bd95807f97d107834db010767a99bf60f02cf395379fc12a44cad31f80877", func := "steading/steadinglaw08.CpuFlat", spec := "cpuFlat", unfollowed := true, recurses := true, apart := false, narrowed := true }
def CpuFlatUptoSaid : Prop := cpuFlatUptoRow.holds Try.pinned (OpenSpec.upto cpuFlatSpec)

/-- 'steadinglaw08.CpuNil', WHERE WHAT IT READS IS OF BULK AT MOST 1048576: true; the input reads as it did. -/
def cpuNilUptoRow : OpenClaim := { program := "ytmkdbninmimndaa", sum := "5d3bd95807f97d107834db010767a99bf60f02cf395379fc12a44cad31f80877", func := "steading/steadinglaw08.CpuNil", spec := "cpuNil", unfollowed := true, recurses := true, apart := false, narrowed := true }
def CpuNilUptoSaid : Prop := cpuNilUptoRow.holds Try.pinned (OpenSpec.upto cpuNilSpec)

end Rows
end Go.Proofs.Ytmkdbninmimndaa
