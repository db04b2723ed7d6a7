/-
  No cell of these rows narrows 'for every input' (looked for: loops, veiled, ifaces, maps, wideKeys, modest, calm, conditions, laid).
  DERIVED. THE GIVEN ROWS OF THIS SEAT. 3 by the template 'for every input the law returns true; each argument reads behind the call as it read before'; 0 by the template 'total and deterministic' (their statements: YtghhpinkhdiocaaGreatTotals.lean).
  GIVEN WITH THE SEED: the statements are not yours to turn. If you find one false, say at which input.
  Laid BY PROGRAM, IN A SANDBOX (cutbox-rows.mjs): the forced cells as the released guide's own fill.sh prints them over the translation b49fe5029873ac07… (all of the seat's roots in one cut). By AI agents, Wed Nov 11 2026. No macro, syntax, notation, axiom, sorry.
-/
import Derived.Test.YtghhpinkhdiocaaGreatChecked
import GoSem.Claim
import GoSem.ClaimJoined
import GoSem.ClaimMapViews
import Derived.JoinedTies
import Derived.KernelRfl
namespace Go.Proofs.YtghhpinkhdiocaaGreat
/- THE CELL 'sum', in the pinned program and in every row, IS THE sha256 OF THE DUMP (.gsa) THAT YtghhpinkhdiocaaGreatProg.lean LOADS. Nothing in Lean hashes anything: it is a label: what it is worth is what the hold of that sum in a sandbox is worth. -/
noncomputable def Tryz.pinned : Pinned := { name := "ytghhpinkhdiocaagreat", sum := "b49fe5029873ac076a31b259a93bc9d03c111e136f7b0df130d3b724e8daaa27", checked := Tryz.checked }
namespace Rows
def none {H : Type} : Left H := { results := [], args := [] }

/-- 'steadinglaw15.ViewUnlike': WHATEVER THE INPUT: true; the input reads as it did. -/
def viewUnlikeSpec : ChangeSpec := { name := "viewUnlike", fn := fun _ => fun
  | [d1, d2, d3] => { results := [.lit (.bool true)], args := [d1, d2, d3] }
  | _ => none }
def viewUnlikeRow : OpenClaim := { program := "ytghhpinkhdiocaagreat", sum := "b49fe5029873ac076a31b259a93bc9d03c111e136f7b0df130d3b724e8daaa27", func := "steading/steadinglaw15.ViewUnlike", spec := "viewUnlike", unfollowed := true, recurses := true, plainKeys := false, apart := false }
def ViewUnlikeSaid : Prop := viewUnlikeRow.holds Tryz.pinned (OpenSpec.ofChange viewUnlikeSpec)

/-- ITS FALSE NEIGHBOUR: 'it returns false'. Refute it at one input. -/
def viewUnlikeWrong : ChangeSpec := { name := "viewUnlike", fn := fun _ => fun
  | [d1, d2, d3] => { results := [.lit (.bool false)], args := [d1, d2, d3] }
  | _ => none }
def ViewUnlikeWrongFalsely : Prop := viewUnlikeRow.holds Tryz.pinned (OpenSpec.ofChange viewUnlikeWrong)

/-- 'steadinglaw15.ViewDeep': WHATEVER THE INPUT: true; the input reads as it did. -/
def viewDeepSpec : ChangeSpec := { name := "viewDeep", fn := fun _ => fun
  | [d1, d2] => { results := [.lit (.bool true)], args := [d1, d2] }
  | _ => none }
def viewDeepRow : OpenClaim := { program := "ytghhpinkhdiocaagreat", sum := "b49fe5029873ac076a31b259a93bc9d03c111e136f7b0df130d3b724e8daaa27", func := "steading/steadinglaw15.ViewDeep", spec := "viewDeep", unfollowed := true, recurses := true, plainKeys := false, apart := false }
def ViewDeepSaid : Prop := viewDeepRow.holds Tryz.pinned (OpenSpec.ofChange viewDeepSpec)

/-- ITS FALSE NEIGHBOUR: 'it returns false'. Refute it at one input. -/
def viewDeepWrong : ChangeSpec := { name := "viewDeep", fn := fun _ => fun
  | [d1, d2] => { results := [.lit (.bool false)], args := [d1, d2] }
  | _ => none }
def ViewDeepWrongFalsely : Prop := viewDeepRow.holds Tryz.pinned (OpenSpec.ofChange viewDeepWrong)

/-- 'steadinglaw15.ViewNil': WHATEVER THE INPUT: true; the input reads as it did. -/
def viewNilSpec : ChangeSpec := { name := "viewNil", fn := fun _ => fun
  | [] => { results := [.lit (.bool true)], args := [] }
  | _ => none }
def viewNilRow : OpenClaim := { program := "ytghhpinkhdiocaagreat", sum := "b49fe5029873ac076a31b259a93bc9d03c111e136f7b0df130d3b724e8daaa27", func := "steading/steadinglaw15.ViewNil", spec := "viewNil", unfollowed := true, recurses := true, plainKeys := false, apart := false }
def ViewNilSaid : Prop := viewNilRow.holds Tryz.pinned (OpenSpec.ofChange viewNilSpec)

/-- ITS FALSE NEIGHBOUR: 'it returns false'. Refute it at one input. -/
def viewNilWrong : ChangeSpec := { name := "viewNil", fn := fun _ => fun
  | [] => { results := [.lit (.bool false)], args := [] }
  | _ => none }
def ViewNilWrongFalsely : Prop := viewNilRow.holds Tryz.pinned (OpenSpec.ofChange viewNilWrong)

/- THE SECOND FORM. 'bulk': how many values and letters a reading holds, each counted each time it is reached (what is shared counts as often as it is met; a slice's spare places count too). A statement '..UptoSaid' is the law's where the arguments, and the package variables that the reading takes, are together of bulk at most 1048576: NARROWER than '..Said'. Prove '..Said' where nothing that the law and all that it calls make is longer than what came in: it says more and counts as full. Else prove '..UptoSaid'. A law counts once. -/
mutual
def uptoBulk {H : Type} : DataW H → Nat
  | .lit (.string bytes) => bytes.length + 1
  | .lit _ => 1
  | .nil => 1
  | .ptr d => uptoBulk d + 1
  | .slice elems spare => uptoBulkAll elems + uptoBulkAll spare + 1
  | .agg parts => uptoBulkAll parts + 1
  | .iface _ d => uptoBulk d + 1
  | .map entries => uptoBulkEntries entries + 1
  | .held _ => 1
def uptoBulkAll {H : Type} : List (DataW H) → Nat
  | [] => 0
  | d :: r => uptoBulk d + uptoBulkAll r
def uptoBulkEntries {H : Type} : List (Lit × DataW H) → Nat
  | [] => 0
  | x :: r => uptoBulkEntry x + uptoBulkEntries r
def uptoBulkEntry {H : Type} : Lit × DataW H → Nat
  | (.string bytes, d) => bytes.length + uptoBulk d + 1
  | (_, d) => uptoBulk d + 1
 end
def uptoSmall : (H : Type) → List (DataW H) → Bool := fun _ ds => decide (uptoBulkAll ds ≤ 1048576)
def OpenSpec.upto (s : _root_.Go.ChangeSpec) : _root_.Go.OpenSpec := { _root_.Go.OpenSpec.ofChange s with cond := some uptoSmall }

/-- 'steadinglaw15.ViewUnlike', WHERE WHAT IT READS IS OF BULK AT MOST 1048576: true; the input reads as it did. -/
def viewUnlikeUptoRow : OpenClaim := { program := "ytghhpinkhdiocaagreat", sum := "b49fe5029873ac076a31b259a93bc9d03c111e136f7b0df130d3b724e8daaa27", func := "steading/steadinglaw15.ViewUnlike", spec := "viewUnlike", unfollowed := true, recurses := true, plainKeys := false, apart := false, narrowed := true }
def ViewUnlikeUptoSaid : Prop := viewUnlikeUptoRow.holds Tryz.pinned (OpenSpec.upto viewUnlikeSpec)

/-- 'steadinglaw15.ViewDeep', WHERE WHAT IT READS IS OF BULK AT MOST 1048576: true; the input reads as it did. -/
def viewDeepUptoRow : OpenClaim := { program := "ytghhpinkhdiocaagreat", sum := "b49fe5029873ac076a31b259a93bc9d03c111e136f7b0df130d3b724e8daaa27", func := "steading/steadinglaw15.ViewDeep", spec := "viewDeep", unfollowed := true, recurses := true, plainKeys := false, apart := false, narrowed := true }
def ViewDeepUptoSaid : Prop := viewDeepUptoRow.holds Tryz.pinned (OpenSpec.upto viewDeepSpec)

/-- 'steadinglaw15.ViewNil', WHERE WHAT IT READS IS OF BULK AT MOST 1048576: true; the input reads as it did. -/
def viewNilUptoRow : OpenClaim := { program := "ytghhpinkhdiocaagreat", sum := "b49fe5029873ac076a31b259a93bc9d03c111e136f7b0df130d3b724e8daaa27", func := "steading/steadinglaw15.ViewNil", spec := "viewNil", unfollowed := true, recurses := true, plainKeys := false, apart := false, narrowed := true }
def ViewNilUptoSaid : Prop := viewNilUptoRow.holds Tryz.pinned (OpenSpec.upto viewNilSpec)

end Rows
end Go.Proofs.YtghhpinkhdiocaaGreat
