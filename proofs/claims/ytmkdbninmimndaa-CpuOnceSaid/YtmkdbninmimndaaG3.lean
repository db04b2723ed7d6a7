/- CpuRuns: the walk. -/
import Derived.Test.YtmkdbninmimndaaG2
import Derived.Test.YtmkdbninmimndaaGE
import Derived.Test.YtmkdbninmimndaaChG
set_option linter.unusedVariables false
set_option maxRecDepth 100000
namespace Go.Proofs.Ytmkdbninmimndaa
open Go Go.Vm
variable {rs : Regs} {pc : BitVec 32}
def runR (q : Nat → Int) (n : Int) (rs : Regs) (pc : BitVec 32) (L : List V) : Res := if n < 0 then ⟨fun _ => 0#32, 0#32, L, 0, 0, 0, 0, 0⟩ else runO q n.toNat 0 rs pc L
def runE (n : Int) : Int := if n < 0 then 2 else 0
abbrev resT (r : Res) (e : Int) : V := .tuple [.agg (regs17 r.rs r.pc), stopV r.kind r.call r.at' r.need r.used, .int .i64 e]
theorem bad_resT (L : List V) : badRes = resT ⟨fun _ => 0#32, 0#32, L, 0, 0, 0, 0, 0⟩ 2 := rfl
theorem run12_any {h : Heap} {fp n0 : Nat} {L Q : List V} {q : Nat → Int} (hf : FlatAt h fp n0 L Q q) (hn0 : n0 ≤ h.n) {n : Int} (hn : n ≤ 65536) :
    SF (Try.prog : MP) 12 [.agg (regs17 rs pc), .iface 32 (.ptr (some (fp, 0))), .int .i64 n] h (fun _ => True) (fun b => b = fblk h fp ∧ n0 ≤ b) fun v h' => (v = resT (runR q n rs pc L) (runE n) ∧ FlatAt h' fp n0 (runR q n rs pc L).L Q q ∧ h'.get fp = h.get fp) ∧ VF h h' (fun b => b = fblk h fp ∧ n0 ≤ b) := by
  by_cases h0 : n < 0
  · refine SF.mono (((run12_neg (rs := rs) (pc := pc) fp h0).kept).foot (fun _ h => h.elim) (fun _ h => h.elim)) ?_
    rintro v h' ⟨rfl, vf⟩
    have hk : ∀ b, b < h.n → h'.get b = h.get b := fun b hb => vf.get b hb id
    unfold runR runE
    rw [if_pos h0, if_pos h0]
    exact ⟨⟨bad_resT L, hf.old hk, hk _ hf.fb.1⟩, ⟨vf.n, fun b hb _ => hk b hb⟩⟩
  · obtain ⟨k, rfl⟩ := Int.eq_ofNat_of_zero_le (show 0 ≤ n by omega)
    unfold runR runE
    rw [if_neg h0, if_neg h0]
    exact (run12_ok (rs := rs) (pc := pc) hf hn0 (show k ≤ 65536 by omega)).kept
theorem run13_any {h : Heap} {rm n1 : Nat} {vB vr : V} {L Q : List V} {q : Nat → Int} (hmem : RM h rm n1 vB vr L) (rig : LV h vr Q ∧ L.length = Q.length * 256 ∧ Q.length ≤ 32 ∧ (∀ i, i < Q.length → Q[i]? = some (.int .i64 (q i))) ∧ BytL L) (lt : n1 ≤ h.n) (hvr : sblk vr < n1) (hsb : sblk vB < h.n) {n : Int} (hn : n ≤ 65536) :
    SF (Try.prog : MP) 13 [.agg (regs17 rs pc), .ptr (some (rm, 0)), .int .i64 n] h (fun _ => True) (fun b => b = sblk vB ∧ n1 ≤ b) fun v h' => (v = resT (runR q n rs pc L) (runE n) ∧ RM h' rm n1 vB vr (runR q n rs pc L).L) ∧ VF h h' (fun b => b = sblk vB ∧ n1 ≤ b) := by
  by_cases h0 : n < 0
  · refine SF.mono (((run13_neg (rs := rs) (pc := pc) rm h0).kept).foot (fun _ h => h.elim) (fun _ h => h.elim)) ?_
    rintro v h' ⟨rfl, vf⟩
    have hk : ∀ b, b < h.n → h'.get b = h.get b := fun b hb => vf.get b hb id
    unfold runR runE
    rw [if_pos h0, if_pos h0]
    exact ⟨⟨bad_resT L, hmem.keep fun b d e _ _ _ hb => by rw [hk _ (Heap.lt_of_get hb)]; exact hb⟩, ⟨vf.n, fun b hb _ => hk b hb⟩⟩
  · obtain ⟨k, rfl⟩ := Int.eq_ofNat_of_zero_le (show 0 ≤ n by omega)
    unfold runR runE
    rw [if_neg h0, if_neg h0]
    exact (run13_ok (rs := rs) (pc := pc) hmem rig lt hvr hsb (show k ≤ 65536 by omega)).kept
theorem Own.abv {n0 : Nat} {h h' : Heap} {v : V} {l : List V} {e : TypeId} (ho : Own n0 h v l e) (hk : ∀ b, n0 ≤ b → b < h.n → h'.get b = h.get b) : Own n0 h' v l e := by
  rcases ho with ⟨rfl, rfl | ⟨b, c, rfl, h1, hb', hr⟩⟩ | ⟨b, x, c, h0, rfl, h1, hb', hs⟩
  · exact .inl ⟨rfl, .inl rfl⟩
  · exact .inl ⟨rfl, .inr ⟨b, c, rfl, h1, by rw [hk b h1 (Heap.lt_of_get hb')]; exact hb', hr⟩⟩
  · exact .inr ⟨b, x, c, h0, rfl, h1, by rw [hk b h1 (Heap.lt_of_get hb')]; exact hb', hs⟩
theorem LV.sblk_lt {h : Heap} {v : V} {l : List V} (hv : LV h v l) {n1 : Nat} (hn : h.n < n1) : sblk v < n1 := by
  rcases hv with ⟨_, rfl | ⟨a, rfl⟩⟩ | ⟨b, o, cap, ex, c, ce, rfl, hb, _⟩
  · show 0 < n1; omega
  · show 0 < n1; omega
  · show b < n1; have := Heap.lt_of_get hb; omega
theorem RM.abv {h h' : Heap} {rm n1 : Nat} {vB vr : V} {L : List V} (hr : RM h rm n1 vB vr L) (hrm : n1 ≤ rm) (hk : ∀ b, n1 ≤ b → b < h.n → h'.get b = h.get b) : RM h' rm n1 vB vr L := by
  obtain ⟨⟨c, c1, c2⟩, ho⟩ := hr
  exact ⟨⟨c, by rw [hk rm hrm (Heap.lt_of_get c1)]; exact c1, c2⟩, ho.abv hk⟩
theorem FlatAt.rig {h : Heap} {fp n0 : Nat} {L Q : List V} {q : Nat → Int} (hf : FlatAt h fp n0 L Q q) {g : Heap} {vR : V} (hR : LV g vR Q) : LV g vR Q ∧ L.length = Q.length * 256 ∧ Q.length ≤ 32 ∧ (∀ i, i < Q.length → Q[i]? = some (.int .i64 (q i))) ∧ BytL L := ⟨hR, hf.len, hf.few, hf.int, hf.byt⟩
theorem bytesL {l : List V} (hb : BytL l) : Byt l := fun v hv => by
  obtain ⟨i, hi, e⟩ := List.mem_iff_getElem.1 hv
  obtain ⟨n, e2, hn⟩ := hb i hi
  rw [List.getElem?_eq_getElem hi, e] at e2
  exact ⟨n, Option.some.inj e2, hn⟩
abbrev stV (r : Res) : Blk := (Blk.of [.int .u32 0, .int .u32 0, .int .u32 0, .int .u32 0, .int .u32 0, .int .u32 0, .int .u32 0, .int .u32 0, .int .u32 0, .int .u32 0, .int .u32 0, .int .u32 0, .int .u32 0, .int .u32 0, .int .u32 0, .int .u32 0, .int .u32 0]).putA 0 (regs17 r.rs r.pc)
abbrev spV (r : Res) : Blk := (((((Blk.of [.int .i64 0, .int .i64 0, .int .u32 0, .int .i64 0, .int .i64 0]).set 0 (.int .i64 r.kind)).set 1 (.int .i64 r.call)).set 2 (.int .u32 (r.at' : Int))).set 3 (.int .i64 r.need)).set 4 (.int .i64 (r.used : Int))
end Go.Proofs.Ytmkdbninmimndaa
