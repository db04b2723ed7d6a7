/-
  No cell of these rows narrows 'for every input' (looked for: loops, veiled, ifaces, maps, wideKeys, modest, calm, conditions, laid).
  DERIVED. THE GIVEN ROWS OF THIS SEAT. 3 by the template 'for every input the law returns true; each argument reads behind the call as it read before'; 0 by the template 'total and deterministic' (their statements: YtdfihilgbeogbaaGreatTotals.lean).
  GIVEN WITH THE SEED: the statements are not yours to turn. If you find one false, say at which input.
  Laid BY PROGRAM, IN A SANDBOX (cutbox-rows.mjs): the forced cells as the released guide's own fill.sh prints them over the translation 335f8f51ceeea2df… (all of the seat's roots in one cut). By AI agents, Wed Nov 11 2026. No macro, syntax, notation, axiom, sorry.
-/
import Derived.Test.YtdfihilgbeogbaaGreatChecked
import GoSem.Claim
import GoSem.ClaimJoined
import GoSem.ClaimMapViews
import Derived.JoinedTies
import Derived.KernelRfl
namespace Go.Proofs.YtdfihilgbeogbaaGreat
/- THE CELL 'sum', in the pinned program and in every row, IS THE sha256 OF THE DUMP (.gsa) THAT YtdfihilgbeogbaaGreatProg.lean LOADS. Nothing in Lean hashes anything: it is a label: what it is worth is what the hold of that sum in a sandbox is worth. -/
noncomputable def Tryz.pinned : Pinned := { name := "ytdfihilgbeogbaagreat", sum := "335f8f51ceeea2df063b88aa611dbfcaafd7a6b3c2dc3718f43db40be18a2a1c", checked := Tryz.checked }
namespace Rows
def none {H : Type} : Left H := { results := [], args := [] }

/-- 'steadinglaw14.KernelRights': WHATEVER THE INPUT: true; the input reads as it did. -/
def kernelRightsSpec : ChangeSpec := { name := "kernelRights", fn := fun _ => fun
  | [d1, d2] => { results := [.lit (.bool true)], args := [d1, d2] }
  | _ => none }
def kernelRightsRow : OpenClaim := { program := "ytdfihilgbeogbaagreat", sum := "335f8f51ceeea2df063b88aa611dbfcaafd7a6b3c2dc3718f43db40be18a2a1c", func := "steading/steadinglaw14.KernelRights", spec := "kernelRights", unfollowed := true, recurses := true, plainKeys := false, apart := false }
def KernelRightsSaid : Prop := kernelRightsRow.holds Tryz.pinned (OpenSpec.ofChange kernelRightsSpec)

/-- ITS FALSE NEIGHBOUR: 'it returns false'. Refute it at one input. -/
def kernelRightsWrong : ChangeSpec := { name := "kernelRights", fn := fun _ => fun
  | [d1, d2] => { results := [.lit (.bool false)], args := [d1, d2] }
  | _ => none }
def KernelRightsWrongFalsely : Prop := kernelRightsRow.holds Tryz.pinned (OpenSpec.ofChange kernelRightsWrong)

/-- 'steadinglaw14.KernelOver': WHATEVER THE INPUT: true; the input reads as it did. -/
def kernelOverSpec : ChangeSpec := { name := "kernelOver", fn := fun _ => fun
  | [d1, d2, d3] => { results := [.lit (.bool true)], args := [d1, d2, d3] }
  | _ => none }
def kernelOverRow : OpenClaim := { program := "ytdfihilgbeogbaagreat", sum := "335f8f51ceeea2df063b88aa611dbfcaafd7a6b3c2dc3718f43db40be18a2a1c", func := "steading/steadinglaw14.KernelOver", spec := "kernelOver", unfollowed := true, recurses := true, plainKeys := false, apart := false }
def KernelOverSaid : Prop := kernelOverRow.holds Tryz.pinned (OpenSpec.ofChange kernelOverSpec)

/-- ITS FALSE NEIGHBOUR: 'it returns false'. Refute it at one input. -/
def kernelOverWrong : ChangeSpec := { name := "kernelOver", fn := fun _ => fun
  | [d1, d2, d3] => { results := [.lit (.bool false)], args := [d1, d2, d3] }
  | _ => none }
def KernelOverWrongFalsely : Prop := kernelOverRow.holds Tryz.pinned (OpenSpec.ofChange kernelOverWrong)

/-- 'steadinglaw14.KernelNil': WHATEVER THE INPUT: true; the input reads as it did. -/
def kernelNilSpec : ChangeSpec := { name := "kernelNil", fn := fun _ => fun
  | [] => { results := [.lit (.bool true)], args := [] }
  | _ => none }
def kernelNilRow : OpenClaim := { program := "ytdfihilgbeogbaagreat", sum := "335f8f51ceeea2df063b88aa611dbfcaafd7a6b3c2dc3718f43db40be18a2a1c", func := "steading/steadinglaw14.KernelNil", spec := "kernelNil", inPlace := ["maps.clone"], unfollowed := true, recurses := true, plainKeys := false, apart := false }
def KernelNilSaid : Prop := kernelNilRow.holds Tryz.pinned (OpenSpec.ofChange kernelNilSpec)

/-- ITS FALSE NEIGHBOUR: 'it returns false'. Refute it at one input. -/
def kernelNilWrong : ChangeSpec := { name := "kernelNil", fn := fun _ => fun
  | [] => { results := [.lit (.bool false)], args := [] }
  | _ => none }
def KernelNilWrongFalsely : Prop := kernelNilRow.holds Tryz.pinned (OpenSpec.ofChange kernelNilWrong)

/- THE SECOND FORM. 'bulk': how many values and letters a reading holds, each counted each time it is reached (what is shared counts as often as it is met; a slice's spare places count too). A statement '..UptoSaid' is the law's where the arguments, and the package variables that the reading takes, are together of bulk at most 1048576: NARROWER than '..Said'. Prove '..Said' where nothing that the law and all that it calls make is longer than what came in: it says more and counts as full. Else prove '..UptoSaid'. A law counts once. -/
mutual
def uptoBulk {H : Type} : DataW H → Nat
  | .lit (.string bytes) => bytes.length + 1
  | .lit _ => 1
  | .nil => 1
  | .ptr d => uptoBulk d + 1
  | .slice elems spare => uptoBulkAll elems + uptoBulkAll spare + 1
  | .agg parts => uptoBulkAll parts + 1
  | .iface _ d => uptoBulk d + 1
  | .map entries => uptoBulkEntries entries + 1
  | .held _ => 1
def uptoBulkAll {H : Type} : List (DataW H) → Nat
  | [] => 0
  | d :: r => uptoBulk d + uptoBulkAll r
def uptoBulkEntries {H : Type} : List (Lit × DataW H) → Nat
  | [] => 0
  | x :: r => uptoBulkEntry x + uptoBulkEntries r
def uptoBulkEntry {H : Type} : Lit × DataW H → Nat
  | (.string bytes, d) => bytes.length + uptoBulk d + 1
  | (_, d) => uptoBulk d + 1
 end
def uptoSmall : (H : Type) → List (DataW H) → Bool := fun _ ds => decide (uptoBulkAll ds ≤ 1048576)
def OpenSpec.upto (s : _root_.Go.ChangeSpec) : _root_.Go.OpenSpec := { _root_.Go.OpenSpec.ofChange s with cond := some uptoSmall }

/-- 'steadinglaw14.KernelRights', WHERE WHAT IT READS IS OF BULK AT MOST 1048576: true; the input reads as it did. -/
def kernelRightsUptoRow : OpenClaim := { program := "ytdfihilgbeogbaagreat", sum := "335f8f51ceeea2df063b88aa611dbfcaafd7a6b3c2dc3718f43db40be18a2a1c", func := "steading/steadinglaw14.KernelRights", spec := "kernelRights", unfollowed := true, recurses := true, plainKeys := false, apart := false, narrowed := true }
def KernelRightsUptoSaid : Prop := kernelRightsUptoRow.holds Tryz.pinned (OpenSpec.upto kernelRightsSpec)

/-- 'steadinglaw14.KernelOver', WHERE WHAT IT READS IS OF BULK AT MOST 1048576: true; the input reads as it did. -/
def kernelOverUptoRow : OpenClaim := { program := "ytdfihilgbeogbaagreat", sum := "335f8f51ceeea2df063b88aa611dbfcaafd7a6b3c2dc3718f43db40be18a2a1c", func := "steading/steadinglaw14.KernelOver", spec := "kernelOver", unfollowed := true, recurses := true, plainKeys := false, apart := false, narrowed := true }
def KernelOverUptoSaid : Prop := kernelOverUptoRow.holds Tryz.pinned (OpenSpec.upto kernelOverSpec)

/-- 'steadinglaw14.KernelNil', WHERE WHAT IT READS IS OF BULK AT MOST 1048576: true; the input reads as it did. -/
def kernelNilUptoRow : OpenClaim := { program := "ytdfihilgbeogbaagreat", sum := "335f8f51ceeea2df063b88aa611dbfcaafd7a6b3c2dc3718f43db40be18a2a1c", func := "steading/steadinglaw14.KernelNil", spec := "kernelNil", inPlace := ["maps.clone"], unfollowed := true, recurses := true, plainKeys := false, apart := false, narrowed := true }
def KernelNilUptoSaid : Prop := kernelNilUptoRow.holds Tryz.pinned (OpenSpec.upto kernelNilSpec)

end Rows
end Go.Proofs.YtdfihilgbeogbaaGreat
