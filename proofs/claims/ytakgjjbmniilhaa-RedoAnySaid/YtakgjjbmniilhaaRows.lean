/-
  No cell of these rows narrows 'for every input' (looked for: loops, veiled, ifaces, maps, wideKeys, modest, calm, conditions, laid).
  DERIVED. THE GIVEN ROWS OF THIS SEAT. 4 by the template 'for every input the law returns true; each argument reads behind the call as it read before'; 0 by the template 'total and deterministic' (their statements: YtakgjjbmniilhaaTotals.lean).
  GIVEN WITH THE SEED: the statements are not yours to turn. If you find one false, say at which input.
  Laid BY PROGRAM, IN A SANDBOX (cutbox-rows.mjs): the forced cells as the released guide's own fill.sh prints them over the translation f4d32e697d60a5ad… (all of the seat's roots in one cut). By AI agents, Wed Nov 11 2026. No macro, syntax, notation, axiom, sorry.
-/
import Derived.Test.YtakgjjbmniilhaaChecked
import GoSem.Claim
import GoSem.ClaimJoined
import GoSem.ClaimMapViews
import Derived.JoinedTies
import Derived.KernelRfl
namespace Go.Proofs.Ytakgjjbmniilhaa
/- THE CELL 'sum', in the pinned program and in every row, IS THE sha256 OF THE DUMP (.gsa) THAT YtakgjjbmniilhaaProg.lean LOADS. Nothing in Lean hashes anything: it is a label: what it is worth is what the hold of that sum in a sandbox is worth. -/
noncomputable def Try.pinned : Pinned := { name := "ytakgjjbmniilhaa", sum := "f4d32e697d60a5ad46d7ddd60110a0d4a69b17bf962b0f86faef78f11a3a824c", checked := Try.checked }
namespace Rows
def none {H : Type} : Left H := { results := [], args := [] }

/-- 'steadinglaw19.RedoBlank': WHATEVER THE INPUT: true; the input reads as it did. -/
def redoBlankSpec : ChangeSpec := { name := "redoBlank", fn := fun _ => fun
  | [d1, d2, d3] => { results := [.lit (.bool true)], args := [d1, d2, d3] }
  | _ => none }
def redoBlankRow : OpenClaim := { program := "ytakgjjbmniilhaa", sum := "f4d32e697d60a5ad46d7ddd60110a0d4a69b17bf962b0f86faef78f11a3a824c", func := "steading/steadinglaw19.RedoBlank", spec := "redoBlank", unfollowed := true, recurses := true, apart := false }
def RedoBlankSaid : Prop := redoBlankRow.holds Try.pinned (OpenSpec.ofChange redoBlankSpec)

/-- ITS FALSE NEIGHBOUR: 'it returns false'. Refute it at one input. -/
def redoBlankWrong : ChangeSpec := { name := "redoBlank", fn := fun _ => fun
  | [d1, d2, d3] => { results := [.lit (.bool false)], args := [d1, d2, d3] }
  | _ => none }
def RedoBlankWrongFalsely : Prop := redoBlankRow.holds Try.pinned (OpenSpec.ofChange redoBlankWrong)

/-- 'steadinglaw19.RedoNil': WHATEVER THE INPUT: true; the input reads as it did. -/
def redoNilSpec : ChangeSpec := { name := "redoNil", fn := fun _ => fun
  | [] => { results := [.lit (.bool true)], args := [] }
  | _ => none }
def redoNilRow : OpenClaim := { program := "ytakgjjbmniilhaa", sum := "f4d32e697d60a5ad46d7ddd60110a0d4a69b17bf962b0f86faef78f11a3a824c", func := "steading/steadinglaw19.RedoNil", spec := "redoNil", unfollowed := true, recurses := true, apart := false }
def RedoNilSaid : Prop := redoNilRow.holds Try.pinned (OpenSpec.ofChange redoNilSpec)

/-- ITS FALSE NEIGHBOUR: 'it returns false'. Refute it at one input. -/
def redoNilWrong : ChangeSpec := { name := "redoNil", fn := fun _ => fun
  | [] => { results := [.lit (.bool false)], args := [] }
  | _ => none }
def RedoNilWrongFalsely : Prop := redoNilRow.holds Try.pinned (OpenSpec.ofChange redoNilWrong)

/-- 'steadinglaw19.RedoAny': WHATEVER THE INPUT: true; the input reads as it did. -/
def redoAnySpec : ChangeSpec := { name := "redoAny", fn := fun _ => fun
  | [d1, d2] => { results := [.lit (.bool true)], args := [d1, d2] }
  | _ => none }
def redoAnyRow : OpenClaim := { program := "ytakgjjbmniilhaa", sum := "f4d32e697d60a5ad46d7ddd60110a0d4a69b17bf962b0f86faef78f11a3a824c", func := "steading/steadinglaw19.RedoAny", spec := "redoAny", unfollowed := true, recurses := true, apart := false }
def RedoAnySaid : Prop := redoAnyRow.holds Try.pinned (OpenSpec.ofChange redoAnySpec)

/-- ITS FALSE NEIGHBOUR: 'it returns false'. Refute it at one input. -/
def redoAnyWrong : ChangeSpec := { name := "redoAny", fn := fun _ => fun
  | [d1, d2] => { results := [.lit (.bool false)], args := [d1, d2] }
  | _ => none }
def RedoAnyWrongFalsely : Prop := redoAnyRow.holds Try.pinned (OpenSpec.ofChange redoAnyWrong)

/-- 'steadinglaw19.RedoHalfway': WHATEVER THE INPUT: true; the input reads as it did. -/
def redoHalfwaySpec : ChangeSpec := { name := "redoHalfway", fn := fun _ => fun
  | [d1, d2, d3] => { results := [.lit (.bool true)], args := [d1, d2, d3] }
  | _ => none }
def redoHalfwayRow : OpenClaim := { program := "ytakgjjbmniilhaa", sum := "f4d32e697d60a5ad46d7ddd60110a0d4a69b17bf962b0f86faef78f11a3a824c", func := "steading/steadinglaw19.RedoHalfway", spec := "redoHalfway", unfollowed := true, recurses := true, apart := false }
def RedoHalfwaySaid : Prop := redoHalfwayRow.holds Try.pinned (OpenSpec.ofChange redoHalfwaySpec)

/-- ITS FALSE NEIGHBOUR: 'it returns false'. Refute it at one input. -/
def redoHalfwayWrong : ChangeSpec := { name := "redoHalfway", fn := fun _ => fun
  | [d1, d2, d3] => { results := [.lit (.bool false)], args := [d1, d2, d3] }
  | _ => none }
def RedoHalfwayWrongFalsely : Prop := redoHalfwayRow.holds Try.pinned (OpenSpec.ofChange redoHalfwayWrong)

/- THE SECOND FORM. 'bulk': how many values and letters a reading holds, each counted each time it is reached (what is shared counts as often as it is met; a slice's spare places count too). A statement '..UptoSaid' is the law's where the arguments, and the package variables that the reading takes, are together of bulk at most 1048576: NARROWER than '..Said'. Prove '..Said' where nothing that the law and all that it calls make is longer than what came in: it says more and counts as full. Else prove '..UptoSaid'. A law counts once. -/
mutual
def uptoBulk {H : Type} : DataW H → Nat
  | .lit (.string bytes) => bytes.length + 1
  | .lit _ => 1
  | .nil => 1
  | .ptr d => uptoBulk d + 1
  | .slice elems spare => uptoBulkAll elems + uptoBulkAll spare + 1
  | .agg parts => uptoBulkAll parts + 1
  | .iface _ d => uptoBulk d + 1
  | .map entries => uptoBulkEntries entries + 1
  | .held _ => 1
def uptoBulkAll {H : Type} : List (DataW H) → Nat
  | [] => 0
  | d :: r => uptoBulk d + uptoBulkAll r
def uptoBulkEntries {H : Type} : List (Lit × DataW H) → Nat
  | [] => 0
  | x :: r => uptoBulkEntry x + uptoBulkEntries r
def uptoBulkEntry {H : Type} : Lit × DataW H → Nat
  | (.string bytes, d) => bytes.length + uptoBulk d + 1
  | (_, d) => uptoBulk d + 1
 end
def uptoSmall : (H : Type) → List (DataW H) → Bool := fun _ ds => decide (uptoBulkAll ds ≤ 1048576)
def OpenSpec.upto (s : _root_.Go.ChangeSpec) : _root_.Go.OpenSpec := { _root_.Go.OpenSpec.ofChange s with cond := some uptoSmall }

/-- 'steadinglaw19.RedoBlank', WHERE WHAT IT READS IS OF BULK AT MOST 1048576: true; the input reads as it did. -/
def redoBlankUptoRow : OpenClaim := { program := "ytakgjjbmniilhaa", sum := "f4d32e697d60a5ad46d7ddd60110a0d4a69b17bf962b0f86faef78f11a3a824c", func := "steading/steadinglaw19.RedoBlank", spec := "redoBlank", unfollowed := true, recurses := true, apart := false, narrowed := true }
def RedoBlankUptoSaid : Prop := redoBlankUptoRow.holds Try.pinned (OpenSpec.upto redoBlankSpec)

/-- 'steadinglaw19.RedoNil', WHERE WHAT IT READS IS OF BULK AT MOST 1048576: true; the input reads as it did. -/
def redoNilUptoRow : OpenClaim := { program := "ytakgjjbmniilhaa", sum := "f4d32e697d60a5ad46d7ddd60110a0d4a69b17bf962b0f86faef78f11a3a824c", func := "steading/steadinglaw19.RedoNil", spec := "redoNil", unfollowed := true, recurses := true, apart := false, narrowed := true }
def RedoNilUptoSaid : Prop := redoNilUptoRow.holds Try.pinned (OpenSpec.upto redoNilSpec)

/-- 'steadinglaw19.RedoAny', WHERE WHAT IT READS IS OF BULK AT MOST 1048576: true; the input reads as it did. -/
def redoAnyUptoRow : OpenClaim := { program := "ytakgjjbmniilhaa", sum := "f4d32e697d60a5ad46d7ddd60110a0d4a69b17bf962b0f86faef78f11a3a824c", func := "steading/steadinglaw19.RedoAny", spec := "redoAny", unfollowed := true, recurses := true, apart := false, narrowed := true }
def RedoAnyUptoSaid : Prop := redoAnyUptoRow.holds Try.pinned (OpenSpec.upto redoAnySpec)

/-- 'steadinglaw19.RedoHalfway', WHERE WHAT IT READS IS OF BULK AT MOST 1048576: true; the input reads as it did. -/
def redoHalfwayUptoRow : OpenClaim := { program := "ytakgjjbmniilhaa", sum := "f4d32e697d60a5ad46d7ddd60110a0d4a69b17bf962b0f86faef78f11a3a824c", func := "steading/steadinglaw19.RedoHalfway", spec := "redoHalfway", unfollowed := true, recurses := true, apart := false, narrowed := true }
def RedoHalfwayUptoSaid : Prop := redoHalfwayUptoRow.holds Try.pinned (OpenSpec.upto redoHalfwaySpec)

end Rows
end Go.Proofs.Ytakgjjbmniilhaa
