/- CpuRuns: the walk. -/
import Derived.Test.YtmkdbninmimndaaG2
import Derived.Test.YtmkdbninmimndaaGE
import Derived.Test.YtmkdbninmimndaaChG
set_option linter.unusedVariables false
set_option maxRecDepth 100000
namespace Go.Proofs.Ytmkdbninmimndaa
open Go Go.Vm
variable {rs : Regs} {pc : BitVec 32}
theorem fewB_t {a b c : Nat} {n : Int} (h : fewB a b c n = true) : a ≤ 200 ∧ b ≤ 2000 ∧ c ≤ 32 ∧ n ≤ 2000 := of_decide_eq_true h
abbrev resT (r : Res) (e : Int) : V := .tuple [.agg (regs17 r.rs r.pc), stopV r.kind r.call r.at' r.need r.used, .int .i64 e]
theorem Own.abv {n0 : Nat} {h h' : Heap} {v : V} {l : List V} {e : TypeId} (ho : Own n0 h v l e) (hk : ∀ b, n0 ≤ b → b < h.n → h'.get b = h.get b) : Own n0 h' v l e := by
  rcases ho with ⟨rfl, rfl | ⟨b, c, rfl, h1, hb', hr⟩⟩ | ⟨b, x, c, h0, rfl, h1, hb', hs⟩
  · exact .inl ⟨rfl, .inl rfl⟩
  · exact .inl ⟨rfl, .inr ⟨b, c, rfl, h1, by rw [hk b h1 (Heap.lt_of_get hb')]; exact hb', hr⟩⟩
  · exact .inr ⟨b, x, c, h0, rfl, h1, by rw [hk b h1 (Heap.lt_of_get hb')]; exact hb', hs⟩
theorem LV.sblk_lt {h : Heap} {v : V} {l : List V} (hv : LV h v l) {n1 : Nat} (hn : h.n < n1) : sblk v < n1 := by
  rcases hv with ⟨_, rfl | ⟨a, rfl⟩⟩ | ⟨b, o, cap, ex, c, ce, rfl, hb, _⟩
  · show 0 < n1; omega
  · show 0 < n1; omega
  · show b < n1; have := Heap.lt_of_get hb; omega
theorem RM.abv {h h' : Heap} {rm n1 : Nat} {vB vr : V} {L : List V} (hr : RM h rm n1 vB vr L) (hrm : n1 ≤ rm) (hk : ∀ b, n1 ≤ b → b < h.n → h'.get b = h.get b) : RM h' rm n1 vB vr L := by
  obtain ⟨⟨c, c1, c2⟩, ho⟩ := hr
  exact ⟨⟨c, by rw [hk rm hrm (Heap.lt_of_get c1)]; exact c1, c2⟩, ho.abv hk⟩
theorem FlatAt.rig {h : Heap} {fp n0 : Nat} {L Q : List V} {q : Nat → Int} (hf : FlatAt h fp n0 L Q q) {g : Heap} {vR : V} (hR : LV g vR Q) : LV g vR Q ∧ L.length = Q.length * 256 ∧ Q.length ≤ 32 ∧ (∀ i, i < Q.length → Q[i]? = some (.int .i64 (q i))) ∧ BytL L := ⟨hR, hf.len, hf.few, hf.int, hf.byt⟩
theorem bytesL {l : List V} (hb : BytL l) : Byt l := fun v hv => by
  obtain ⟨i, hi, e⟩ := List.mem_iff_getElem.1 hv
  obtain ⟨n, e2, hn⟩ := hb i hi
  rw [List.getElem?_eq_getElem hi, e] at e2
  exact ⟨n, Option.some.inj e2, hn⟩
abbrev stV (r : Res) : Blk := (Blk.of [.int .u32 0, .int .u32 0, .int .u32 0, .int .u32 0, .int .u32 0, .int .u32 0, .int .u32 0, .int .u32 0, .int .u32 0, .int .u32 0, .int .u32 0, .int .u32 0, .int .u32 0, .int .u32 0, .int .u32 0, .int .u32 0, .int .u32 0]).putA 0 (regs17 r.rs r.pc)
abbrev spV (r : Res) : Blk := (((((Blk.of [.int .i64 0, .int .i64 0, .int .u32 0, .int .i64 0, .int .i64 0]).set 0 (.int .i64 r.kind)).set 1 (.int .i64 r.call)).set 2 (.int .u32 (r.at' : Int))).set 3 (.int .i64 r.need)).set 4 (.int .i64 (r.used : Int))
end Go.Proofs.Ytmkdbninmimndaa
