/- The document's step, op by op (printed by genEA.py). -/
import Derived.Test.YtmkdbninmimndaaE9
import Derived.Test.YtmkdbninmimndaaM3
set_option linter.unusedVariables false
set_option maxRecDepth 100000
namespace Go.Proofs.Ytmkdbninmimndaa
open Go Go.Vm
structure RCtx (tr : Tr V) (g : Heap) (sp ip k4 k5 rm n1 N : Nat) (vB vr : V) (L Q : List V) (q : Nat → Int) (rs : Regs) (pc : BitVec 32) (op d a b : Nat) (m : Int) (W : Set') : Prop where
  t1 : tr.get 1 = some (.ptr (some (rm, 0)))
  t2 : tr.get 2 = some (.ptr (some (sp, 0)))
  t4 : tr.get 4 = some (.ptr (some (k4, 0)))
  t5 : tr.get 5 = some (.ptr (some (k5, 0)))
  t8 : tr.get 8 = some (.ptr (some (ip, 0)))
  t10 : tr.get 10 = some (U (rs a))
  t11 : tr.get 11 = some (U (rs b))
  t12 : tr.get 12 = some (U (rs a + imW m))
  t13 : tr.get 13 = some (U (pc + 4#32 * imW m))
  t14 : tr.get 14 = some (U (pc + 4#32))
  i : ∃ ci, g.get ip = some (.cells ci 50) ∧ ci.size = 5 ∧ ci.get 0 = .int .i64 (op : Int) ∧ ci.get 1 = .int .i64 (d : Int) ∧ ci.get 4 = .int .i64 m
  x : ∃ c, g.get sp = some (.cells c 28) ∧ SC c rs pc
  r4 : ∃ c, g.get k4 = some (.cells c 28) ∧ c.size = 17 ∧ c.ro = false
  r5 : ∃ c, g.get k5 = some (.cells c 38) ∧ c.size = 5 ∧ c.ro = false
  mem : RM g rm n1 vB vr L
  rig : LV g vr Q ∧ L.length = Q.length * 256 ∧ Q.length ≤ 32 ∧ (∀ i, i < Q.length → Q[i]? = some (.int .i64 (q i))) ∧ BytL L
  d16 : d < 16
  ne : sp ≠ k4 ∧ sp ≠ k5 ∧ k4 ≠ k5
  Ws : W sp ∧ W k4 ∧ W k5
  Wm : ∀ b, b = sblk vB → n1 ≤ b → W b
  lt : n1 ≤ g.n
variable {h0 g : Heap} {tr : Tr V} {sp ip k4 k5 rm n1 N : Nat} {vB vr : V} {L Q : List V} {q : Nat → Int} {rs : Regs} {pc : BitVec 32} {op d a b : Nat} {m : Int} {W : Set'}
end Go.Proofs.Ytmkdbninmimndaa
