/-
  No cell of these rows narrows 'for every input' (looked for: loops, veiled, ifaces, maps, wideKeys, modest, calm, conditions, laid).
  DERIVED. THE GIVEN ROWS OF THIS SEAT. 6 by the template 'for every input the law returns true; each argument reads behind the call as it read before'; 0 by the template 'total and deterministic' (their statements: YtfgdpgagcnelpaaTotals.lean).
  GIVEN WITH THE SEED: the statements are not yours to turn. If you find one false, say at which input.
  Laid BY PROGRAM, IN A SANDBOX (cutbox-rows.mjs): the forced cells as the released guide's own fill.sh prints them over the translation 447029816b7db143… (all of the seat's roots in one cut). By AI agents, Wed Nov 11 2026. No macro, syntax, notation, axiom, sorry.
-/
import Derived.Test.YtfgdpgagcnelpaaChecked
import GoSem.Claim
import GoSem.ClaimJoined
import GoSem.ClaimMapViews
import Derived.JoinedTies
import Derived.KernelRfl
namespace Go.Proofs.Ytfgdpgagcnelpaa
/- THE CELL 'sum', in the pinned program and in every row, IS THE sha256 OF THE DUMP (.gsa) THAT YtfgdpgagcnelpaaProg.lean LOADS. Nothing in Lean hashes anything: it is a label: what it is worth is what the hold of that sum in a sandbox is worth. -/
noncomputable def Try.pinned : Pinned := { name := "ytfgdpgagcnelpaa", sum := "447029816b7db1436850fe0f17cffcc15dcc82e12a9d43126af7e014068687a6", checked := Try.checked }
namespace Rows
def none {H : Type} : Left H := { results := [], args := [] }

/-- 'steadinglaw05.FramesHeld': WHATEVER THE INPUT: true; the input reads as it did. -/
def framesHeldSpec : ChangeSpec := { name := "framesHeld", fn := fun _ => fun
  | [d] => { results := [.lit (.bool true)], args := [d] }
  | _ => none }
def framesHeldRow : OpenClaim := { program := "ytfgdpgagcnelpaa", sum := "447029816b7db1436850fe0f17cffcc15dcc82e12a9d43126af7e014068687a6", func := "steading/steadinglaw05.FramesHeld", spec := "framesHeld", apart := false }
def FramesHeldSaid : Prop := framesHeldRow.holds Try.pinned (OpenSpec.ofChange framesHeldSpec)

/-- ITS FALSE NEIGHBOUR: 'it returns false'. Refute it at one input. -/
def framesHeldWrong : ChangeSpec := { name := "framesHeld", fn := fun _ => fun
  | [d] => { results := [.lit (.bool false)], args := [d] }
  | _ => none }
def FramesHeldWrongFalsely : Prop := framesHeldRow.holds Try.pinned (OpenSpec.ofChange framesHeldWrong)

/-- 'steadinglaw05.FramesZero': WHATEVER THE INPUT: true; the input reads as it did. -/
def framesZeroSpec : ChangeSpec := { name := "framesZero", fn := fun _ => fun
  | [d1, d2] => { results := [.lit (.bool true)], args := [d1, d2] }
  | _ => none }
def framesZeroRow : OpenClaim := { program := "ytfgdpgagcnelpaa", sum := "447029816b7db1436850fe0f17cffcc15dcc82e12a9d43126af7e014068687a6", func := "steading/steadinglaw05.FramesZero", spec := "framesZero", apart := false }
def FramesZeroSaid : Prop := framesZeroRow.holds Try.pinned (OpenSpec.ofChange framesZeroSpec)

/-- ITS FALSE NEIGHBOUR: 'it returns false'. Refute it at one input. -/
def framesZeroWrong : ChangeSpec := { name := "framesZero", fn := fun _ => fun
  | [d1, d2] => { results := [.lit (.bool false)], args := [d1, d2] }
  | _ => none }
def FramesZeroWrongFalsely : Prop := framesZeroRow.holds Try.pinned (OpenSpec.ofChange framesZeroWrong)

/-- 'steadinglaw05.FramesMany': WHATEVER THE INPUT: true; the input reads as it did. -/
def framesManySpec : ChangeSpec := { name := "framesMany", fn := fun _ => fun
  | [] => { results := [.lit (.bool true)], args := [] }
  | _ => none }
def framesManyRow : OpenClaim := { program := "ytfgdpgagcnelpaa", sum := "447029816b7db1436850fe0f17cffcc15dcc82e12a9d43126af7e014068687a6", func := "steading/steadinglaw05.FramesMany", spec := "framesMany", apart := false }
def FramesManySaid : Prop := framesManyRow.holds Try.pinned (OpenSpec.ofChange framesManySpec)

/-- ITS FALSE NEIGHBOUR: 'it returns false'. Refute it at one input. -/
def framesManyWrong : ChangeSpec := { name := "framesMany", fn := fun _ => fun
  | [] => { results := [.lit (.bool false)], args := [] }
  | _ => none }
def FramesManyWrongFalsely : Prop := framesManyRow.holds Try.pinned (OpenSpec.ofChange framesManyWrong)

/-- 'steadinglaw05.FramesQuotas': WHATEVER THE INPUT: true; the input reads as it did. -/
def framesQuotasSpec : ChangeSpec := { name := "framesQuotas", fn := fun _ => fun
  | [d1, d2, d3] => { results := [.lit (.bool true)], args := [d1, d2, d3] }
  | _ => none }
def framesQuotasRow : OpenClaim := { program := "ytfgdpgagcnelpaa", sum := "447029816b7db1436850fe0f17cffcc15dcc82e12a9d43126af7e014068687a6", func := "steading/steadinglaw05.FramesQuotas", spec := "framesQuotas", unfollowed := true, recurses := true, apart := false }
def FramesQuotasSaid : Prop := framesQuotasRow.holds Try.pinned (OpenSpec.ofChange framesQuotasSpec)

/-- ITS FALSE NEIGHBOUR: 'it returns false'. Refute it at one input. -/
def framesQuotasWrong : ChangeSpec := { name := "framesQuotas", fn := fun _ => fun
  | [d1, d2, d3] => { results := [.lit (.bool false)], args := [d1, d2, d3] }
  | _ => none }
def FramesQuotasWrongFalsely : Prop := framesQuotasRow.holds Try.pinned (OpenSpec.ofChange framesQuotasWrong)

/-- 'steadinglaw05.FramesPlay': WHATEVER THE INPUT: true; the input reads as it did. -/
def framesPlaySpec : ChangeSpec := { name := "framesPlay", fn := fun _ => fun
  | [d1, d2, d3, d4] => { results := [.lit (.bool true)], args := [d1, d2, d3, d4] }
  | _ => none }
def framesPlayRow : OpenClaim := { program := "ytfgdpgagcnelpaa", sum := "447029816b7db1436850fe0f17cffcc15dcc82e12a9d43126af7e014068687a6", func := "steading/steadinglaw05.FramesPlay", spec := "framesPlay", unfollowed := true, recurses := true, apart := false }
def FramesPlaySaid : Prop := framesPlayRow.holds Try.pinned (OpenSpec.ofChange framesPlaySpec)

/-- ITS FALSE NEIGHBOUR: 'it returns false'. Refute it at one input. -/
def framesPlayWrong : ChangeSpec := { name := "framesPlay", fn := fun _ => fun
  | [d1, d2, d3, d4] => { results := [.lit (.bool false)], args := [d1, d2, d3, d4] }
  | _ => none }
def FramesPlayWrongFalsely : Prop := framesPlayRow.holds Try.pinned (OpenSpec.ofChange framesPlayWrong)

/-- 'steadinglaw05.FramesNil': WHATEVER THE INPUT: true; the input reads as it did. -/
def framesNilSpec : ChangeSpec := { name := "framesNil", fn := fun _ => fun
  | [] => { results := [.lit (.bool true)], args := [] }
  | _ => none }
def framesNilRow : OpenClaim := { program := "ytfgdpgagcnelpaa", sum := "447029816b7db1436850fe0f17cffcc15dcc82e12a9d43126af7e014068687a6", func := "steading/steadinglaw05.FramesNil", spec := "framesNil", unfollowed := true, recurses := true, apart := false }
def FramesNilSaid : Prop := framesNilRow.holds Try.pinned (OpenSpec.ofChange framesNilSpec)

/-- ITS FALSE NEIGHBOUR: 'it returns false'. Refute it at one input. -/
def framesNilWrong : ChangeSpec := { name := "framesNil", fn := fun _ => fun
  | [] => { results := [.lit (.bool false)], args := [] }
  | _ => none }
def FramesNilWrongFalsely : Prop := framesNilRow.holds Try.pinned (OpenSpec.ofChange framesNilWrong)

/- THE SECOND FORM. 'bulk': how many values and letters a reading holds, each counted each time it is reached (what is shared counts as often as it is met; a slice's spare places count too). A statement '..UptoSaid' is the law's where the arguments, and the package variables that the reading takes, are together of bulk at most 1048576: NARROWER than '..Said'. Prove '..Said' where nothing that the law and all that it calls make is longer than what came in: it says more and counts as full. Else prove '..UptoSaid'. A law counts once. -/
mutual
def uptoBulk {H : Type} : DataW H → Nat
  | .lit (.string bytes) => bytes.length + 1
  | .lit _ => 1
  | .nil => 1
  | .ptr d => uptoBulk d + 1
  | .slice elems spare => uptoBulkAll elems + uptoBulkAll spare + 1
  | .agg parts => uptoBulkAll parts + 1
  | .iface _ d => uptoBulk d + 1
  | .map entries => uptoBulkEntries entries + 1
  | .held _ => 1
def uptoBulkAll {H : Type} : List (DataW H) → Nat
  | [] => 0
  | d :: r => uptoBulk d + uptoBulkAll r
def uptoBulkEntries {H : Type} : List (Lit × DataW H) → Nat
  | [] => 0
  | x :: r => uptoBulkEntry x + uptoBulkEntries r
def uptoBulkEntry {H : Type} : Lit × DataW H → Nat
  | (.string bytes, d) => bytes.length + uptoBulk d + 1
  | (_, d) => uptoBulk d + 1
 end
def uptoSmall : (H : Type) → List (DataW H) → Bool := fun _ ds => decide (uptoBulkAll ds ≤ 1048576)
def OpenSpec.upto (s : _root_.Go.ChangeSpec) : _root_.Go.OpenSpec := { _root_.Go.OpenSpec.ofChange s with cond := some uptoSmall }

/-- 'steadinglaw05.FramesHeld', WHERE WHAT IT READS IS OF BULK AT MOST 1048576: true; the input reads as it did. -/
def framesHeldUptoRow : OpenClaim := { program := "ytfgdpgagcnelpaa", sum := "447029816b7db1436850fe0f17cffcc15dcc82e12a9d43126af7e014068687a6", func := "steading/steadinglaw05.FramesHeld", spec := "framesHeld", apart := false, narrowed := true }
def FramesHeldUptoSaid : Prop := framesHeldUptoRow.holds Try.pinned (OpenSpec.upto framesHeldSpec)

/-- 'steadinglaw05.FramesZero', WHERE WHAT IT READS IS OF BULK AT MOST 1048576: true; the input reads as it did. -/
def framesZeroUptoRow : OpenClaim := { program := "ytfgdpgagcnelpaa", sum := "447029816b7db1436850fe0f17cffcc15dcc82e12a9d43126af7e014068687a6", func := "steading/steadinglaw05.FramesZero", spec := "framesZero", apart := false, narrowed := true }
def FramesZeroUptoSaid : Prop := framesZeroUptoRow.holds Try.pinned (OpenSpec.upto framesZeroSpec)

/-- 'steadinglaw05.FramesMany', WHERE WHAT IT READS IS OF BULK AT MOST 1048576: true; the input reads as it did. -/
def framesManyUptoRow : OpenClaim := { program := "ytfgdpgagcnelpaa", sum := "447029816b7db1436850fe0f17cffcc15dcc82e12a9d43126af7e014068687a6", func := "steading/steadinglaw05.FramesMany", spec := "framesMany", apart := false, narrowed := true }
def FramesManyUptoSaid : Prop := framesManyUptoRow.holds Try.pinned (OpenSpec.upto framesManySpec)

/-- 'steadinglaw05.FramesQuotas', WHERE WHAT IT READS IS OF BULK AT MOST 1048576: true; the input reads as it did. -/
def framesQuotasUptoRow : OpenClaim := { program := "ytfgdpgagcnelpaa", sum := "447029816b7db1436850fe0f17cffcc15dcc82e12a9d43126af7e014068687a6", func := "steading/steadinglaw05.FramesQuotas", spec := "framesQuotas", unfollowed := true, recurses := true, apart := false, narrowed := true }
def FramesQuotasUptoSaid : Prop := framesQuotasUptoRow.holds Try.pinned (OpenSpec.upto framesQuotasSpec)

/-- 'steadinglaw05.FramesPlay', WHERE WHAT IT READS IS OF BULK AT MOST 1048576: true; the input reads as it did. -/
def framesPlayUptoRow : OpenClaim := { program := "ytfgdpgagcnelpaa", sum := "447029816b7db1436850fe0f17cffcc15dcc82e12a9d43126af7e014068687a6", func := "steading/steadinglaw05.FramesPlay", spec := "framesPlay", unfollowed := true, recurses := true, apart := false, narrowed := true }
def FramesPlayUptoSaid : Prop := framesPlayUptoRow.holds Try.pinned (OpenSpec.upto framesPlaySpec)

/-- 'steadinglaw05.FramesNil', WHERE WHAT IT READS IS OF BULK AT MOST 1048576: true; the input reads as it did. -/
def framesNilUptoRow : OpenClaim := { program := "ytfgdpgagcnelpaa", sum := "447029816b7db1436850fe0f17cffcc15dcc82e12a9d43126af7e014068687a6", func := "steading/steadinglaw05.FramesNil", spec := "framesNil", unfollowed := true, recurses := true, apart := false, narrowed := true }
def FramesNilUptoSaid : Prop := framesNilUptoRow.holds Try.pinned (OpenSpec.upto framesNilSpec)

end Rows
end Go.Proofs.Ytfgdpgagcnelpaa
