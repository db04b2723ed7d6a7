/- What an instruction comes to: plain; and how a machine lies in memory. -/
import Derived.Test.YtmkdbninmimndaaE2
set_option linter.unusedVariables false
set_option maxRecDepth 100000
namespace Go.Proofs.Ytmkdbninmimndaa
open Go Go.Vm
inductive Out where
  | go (rs : Regs) (pc : BitVec 32) (L : List V)
  | stop (kind call : Int) (at' : Nat) (need : Int)
def imW (m : Int) : BitVec 32 := BitVec.ofInt 32 m
def byteAt (v : BitVec 32) (i : Nat) : V := .int .u8 ((v.toNat / 256 ^ i % 256 : Nat) : Int)
def bytes4 (v : BitVec 32) : List V := [byteAt v 0, byteAt v 1, byteAt v 2, byteAt v 3]
def execO (q : Nat → Int) (L : List V) (rs : Regs) (pc : BitVec 32) (op d a b : Nat) (m : Int) : Out :=
  let next := pc + 4#32
  let lead := pc + 4#32 * imW m
  let place := rs a + imW m
  if op = 1 then .go rs next L else if op = 2 then .stop 4 0 0 0 else if op = 4 then .stop 3 0 0 0 else if op = 3 then .stop 2 m 0 0 else
  if op = 5 then .go (setR rs d (imW m)) next L else
  if op = 6 then .go (setR rs d ((rs d &&& 65535#32) ||| (imW m <<< 16))) next L else
  if op = 7 then .go (setR rs d (rs a)) next L else
  if op = 18 then .go (setR rs d place) next L else
  if op = 19 then (match fst (fun x => mayB q L.length x 1) place.toNat 0 4 with | some x => .stop 5 0 x 1 | none => .go (setR rs d (BitVec.ofNat 32 (wN L place.toNat))) next L) else
  if op = 21 then (match fst (fun x => mayB q L.length x 1) place.toNat 0 1 with | some x => .stop 5 0 x 1 | none => .go (setR rs d (BitVec.ofNat 32 (bN L place.toNat))) next L) else
  if op = 20 then (match fst (fun x => mayB q L.length x 2) place.toNat 0 4 with | some x => .stop 5 0 x 2 | none => .go rs next (puts L place.toNat (bytes4 (rs d)) 4)) else
  if op = 22 then (match fst (fun x => mayB q L.length x 2) place.toNat 0 1 with | some x => .stop 5 0 x 2 | none => .go rs next (puts L place.toNat [byteAt (rs d) 0] 1)) else
  if op = 25 then .go (setR rs d next) lead L else if op = 23 then .go rs lead L else if op = 24 then .go rs (rs a) L else
  if op = 26 then .go rs (if rs d = rs a then lead else next) L else
  if op = 27 then .go rs (if rs d = rs a then next else lead) L else
  if op = 28 then .go rs (if rs d < rs a then lead else next) L else
  match alu op (rs a) (rs b) with | none => .stop 7 0 0 0 | some v => .go (setR rs d v) next L
def stepO (q : Nat → Int) (L : List V) (rs : Regs) (pc : BitVec 32) : Out :=
  if pc.toNat % 4 = 0 then (match fst (fun x => mayB q L.length x 4) pc.toNat 0 4 with
    | some x => .stop 5 0 x 4
    | none => if accW (wN L pc.toNat) = true then execO q L rs pc (wN L pc.toNat % 256) (dW (wN L pc.toNat)) (aW (wN L pc.toNat)) (bW (wN L pc.toNat)) (mW (wN L pc.toNat)) else .stop 6 0 0 0)
  else .stop 6 0 0 0
abbrev stateV (rs : Regs) (pc : BitVec 32) : V := .agg (regL rs ++ [U pc])
abbrev stopV (kind call : Int) (at' : Nat) (need used : Int) : V := .agg [.int .i64 kind, .int .i64 call, .int .u32 (at' : Int), .int .i64 need, .int .i64 used]
structure MC (c : Blk) (fp : Nat) (rs : Regs) (pc : BitVec 32) : Prop where
  size : c.size = 23
  ro : c.ro = false
  reg : ∀ k, k < 16 → c.get k = U (rs k)
  pc : c.get 16 = U pc
  mem : c.get 17 = .iface 32 (.ptr (some (fp, 0)))
theorem MC.setR {c : Blk} {fp : Nat} {rs : Regs} {pc : BitVec 32} (hc : MC c fp rs pc) {d : Nat} (hd : d < 16) (v : BitVec 32) : MC (c.set d (U v)) fp (setR rs d v) pc :=
  ⟨by rw [Blk.size_set]; exact hc.size, by rw [Blk.ro_set]; exact hc.ro, fun k hk => by
    rw [Blk.get_set]; unfold Ytmkdbninmimndaa.setR
    by_cases e : k = d
    · rw [if_pos e, if_pos e]
    · rw [if_neg e, if_neg e]; exact hc.reg k hk, by rw [Blk.get_set, if_neg (by omega)]; exact hc.pc, by rw [Blk.get_set, if_neg (by omega)]; exact hc.mem⟩
theorem MC.setPC {c : Blk} {fp : Nat} {rs : Regs} {pc : BitVec 32} (hc : MC c fp rs pc) (v : BitVec 32) : MC (c.set 16 (U v)) fp rs v :=
  ⟨by rw [Blk.size_set]; exact hc.size, by rw [Blk.ro_set]; exact hc.ro, fun k hk => by rw [Blk.get_set, if_neg (by omega)]; exact hc.reg k hk, by rw [Blk.get_set, if_pos rfl], by rw [Blk.get_set, if_neg (by omega)]; exact hc.mem⟩
theorem MC.setHi {c : Blk} {fp : Nat} {rs : Regs} {pc : BitVec 32} (hc : MC c fp rs pc) {k : Nat} (hk : 18 ≤ k) (v : V) : MC (c.set k v) fp rs pc :=
  ⟨by rw [Blk.size_set]; exact hc.size, by rw [Blk.ro_set]; exact hc.ro, fun j hj => by rw [Blk.get_set, if_neg (by omega)]; exact hc.reg j hj, by rw [Blk.get_set, if_neg (by omega)]; exact hc.pc, by rw [Blk.get_set, if_neg (by omega)]; exact hc.mem⟩
def Mach (h : Heap) (xp fp : Nat) (rs : Regs) (pc : BitVec 32) : Prop := ∃ c, h.get xp = some (.cells c 72) ∧ MC c fp rs pc
def StopAt (h : Heap) (xp : Nat) (kind call : Int) (at' : Nat) (need : Int) : Prop := ∃ c, h.get xp = some (.cells c 72) ∧ c.get 18 = .int .i64 kind ∧ c.get 19 = .int .i64 call ∧ c.get 20 = .int .u32 (at' : Int) ∧ c.get 21 = .int .i64 need ∧ c.get 22 = .int .i64 0
theorem Own.keep72 {n0 : Nat} {h h' : Heap} {v : V} {l : List V} {e : TypeId} (he : e ≠ 72) (ho : Own n0 h v l e) (hk : ∀ b c e, e ≠ 72 → h.get b = some (.cells c e) → h'.get b = some (.cells c e)) : Own n0 h' v l e :=
  ho.keep fun b c hb => hk b c e he hb
theorem FlatAt.keep72 {h h' : Heap} {fp n0 : Nat} {L Q : List V} {q : Nat → Int} (hf : FlatAt h fp n0 L Q q) (hk : ∀ b c e, e ≠ 72 → h.get b = some (.cells c e) → h'.get b = some (.cells c e)) : FlatAt h' fp n0 L Q q := by
  obtain ⟨c, vb, vr, c1, cs, cr, c0, c1', ob, or'⟩ := hf.c
  exact ⟨⟨c, vb, vr, hk fp c 80 (by decide) c1, cs, cr, c0, c1', ob.keep72 (by decide) hk, or'.keep72 (by decide) hk⟩, hf.len, hf.few, hf.int, hf.byt⟩
theorem set72 {h : Heap} {xp : Nat} {c c' : Blk} (hx : h.get xp = some (.cells c 72)) : ∀ b d e, e ≠ 72 → h.get b = some (.cells d e) → (h.set xp (.cells c' 72)).get b = some (.cells d e) := fun b d e he hb => by
  have : b ≠ xp := fun e' => by rw [e', hx] at hb; simp at hb; exact he hb.2.symm
  rw [w_set_ne (Heap.lt_of_get hx) this]; exact hb
def StepQ (h0 : Heap) (xp fp n0 : Nat) (Q : List V) (q : Nat → Int) (L0 : List V) (rs0 : Regs) (pc0 : BitVec 32) (o : Out) (v : V) (h' : Heap) : Prop :=
  h0.get fp = h'.get fp ∧ match o with
  | .go rs pc L => v = .bool true ∧ Mach h' xp fp rs pc ∧ FlatAt h' fp n0 L Q q
  | .stop k c a n => v = .bool false ∧ Mach h' xp fp rs0 pc0 ∧ StopAt h' xp k c a n ∧ FlatAt h' fp n0 L0 Q q
end Go.Proofs.Ytmkdbninmimndaa
