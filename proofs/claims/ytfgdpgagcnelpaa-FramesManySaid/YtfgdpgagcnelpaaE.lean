/- The pool of one frame: made and granted. -/
import Derived.Test.YtfgdpgagcnelpaaD
set_option maxRecDepth 100000
set_option linter.unusedVariables false
set_option linter.unusedSimpArgs false
namespace Go.Proofs.Ytfgdpgagcnelpaa
open Go Go.Vm

def hA : Heap := Heap.push ⟨0, .nil⟩ (.cells (Blk.of [.int .i64 1]) 3)
noncomputable def rN := evInv Try.prog 100000 30 (.fn 10) [.int .i64 1, .slice (some (0, 0)) 1 1 true] ⟨hA, 0, [], []⟩
def heapOf : Option (V × St) → Heap
  | some (_, s) => s.h
  | none => ⟨0, .nil⟩
noncomputable def hB : Heap := heapOf rN
noncomputable def rG := evInv Try.prog 100000 30 (.fn 11) [.ptr (some (5, 0)), .int .i64 0] ⟨hB, 0, [], []⟩
noncomputable def hC : Heap := heapOf rG
def okN : Option (V × St) → Bool
  | some (.tuple [.ptr (some (b, o)), .int .i64 e], _) => Nat.beq b 5 && Nat.beq o 0 && decide (e = 0)
  | _ => false
theorem okN_some {r : Option (V × St)} (h : okN r = true) : ∃ s, r = some (.tuple [.ptr (some (5, 0)), .int .i64 0], s) ∧ s.h = heapOf r := by
  unfold okN at h
  split at h
  · rename_i b o e s
    simp only [Bool.and_eq_true, decide_eq_true_eq] at h
    obtain ⟨⟨h1, h2⟩, h3⟩ := h
    have := Nat.eq_of_beq_eq_true h1
    have := Nat.eq_of_beq_eq_true h2
    subst_vars
    exact ⟨s, rfl, rfl⟩
  · cases h
theorem isSome_heap {r : Option (V × St)} (h : r.isSome = true) : ∃ v s, r = some (v, s) ∧ s.h = heapOf r := by
  cases r with
  | none => cases h
  | some x => exact ⟨x.1, x.2, rfl, rfl⟩
theorem rN_ok : okN rN = true := by kernel_rfl
theorem rG_ok : rG.isSome = true := by kernel_rfl
def blkAt (h : Heap) (b : Nat) : Blk := match h.get b with
  | some (.cells c _) => c
  | _ => Blk.of []
def L1 : PL := ⟨1, 3, 4, 1, 1, 1, true, false, true⟩
def S1 (k u : Int) : PS := ⟨1, 1, fun _ => 0, fun _ => k, fun _ _ => 0, fun _ => 1, fun _ => u⟩
theorem c5 : hC.get 5 = some (.cells (blkAt hC 5) 61) := by kernel_rfl
theorem c5s : (blkAt hC 5).size = 3 := by kernel_rfl
theorem c50 : (blkAt hC 5).get 0 = .slice (some (1, 0)) 1 1 true := by kernel_rfl
theorem c51 : (blkAt hC 5).get 1 = .slice (some (3, 0)) 1 1 false := by kernel_rfl
theorem c52 : (blkAt hC 5).get 2 = .slice (some (4, 0)) 1 1 true := by kernel_rfl
theorem c1 : hC.get 1 = some (.cells (blkAt hC 1) 67) := by kernel_rfl
theorem c1s : (blkAt hC 1).size = 258 := by kernel_rfl
theorem c10 : (blkAt hC 1).get 0 = .int .i64 0 := by kernel_rfl
theorem c11 : (blkAt hC 1).get 1 = .int .i64 1 := by kernel_rfl
def isZ : V → Bool
  | .int .u8 n => decide (n = 0)
  | _ => false
theorem isZ_eq {v : V} (h : isZ v = true) : v = .int .u8 0 := by
  unfold isZ at h
  split at h
  · simp at h; rw [h]
  · cases h
theorem c1z : (List.range 256).all (fun j => isZ ((blkAt hC 1).get (2 + j))) = true := by kernel_rfl
theorem c3 : hC.get 3 = some (.cells (blkAt hC 3) 3) := by kernel_rfl
theorem c3s : (blkAt hC 3).size = 1 := by kernel_rfl
theorem c30 : (blkAt hC 3).get 0 = .int .i64 1 := by kernel_rfl
theorem c4 : hC.get 4 = some (.cells (blkAt hC 4) 3) := by kernel_rfl
theorem c4s : (blkAt hC 4).size = 1 := by kernel_rfl
theorem c40 : (blkAt hC 4).get 0 = .int .i64 1 := by kernel_rfl
theorem pool1 : PoolAt hC 5 L1 (S1 1 1) := by
  refine ⟨by simp [S1], ⟨_, c5, c5s, c50, c51, c52⟩, ⟨_, c1, by simpa [S1] using c1s, fun i hi => ?_, fun i hi => ?_, fun i j hi hj => ?_⟩, ⟨_, c3, by simpa [S1] using Nat.le_of_eq c3s.symm, fun i hi => ?_⟩, ⟨_, c4, by simpa [S1] using Nat.le_of_eq c4s.symm, fun i hi => ?_⟩, by simp [L1], by simp [S1]⟩
  · have : i = 0 := by simpa [S1] using hi
    subst this; exact c10
  · have : i = 0 := by simpa [S1] using hi
    subst this; exact c11
  · have : i = 0 := by simpa [S1] using hi
    subst this
    rw [Nat.zero_mul, Nat.zero_add]
    exact isZ_eq (List.all_eq_true.1 c1z j (List.mem_range.2 hj))
  · have : i = 0 := by simpa [S1] using hi
    subst this; exact c30
  · have : i = 0 := by simpa [S1] using hi
    subst this; exact c40
theorem PoolAt.same {h : Heap} {bp : Nat} {L : PL} {S S' : PS} (hp : PoolAt h bp L S) (hn : S'.n = S.n) (hna : S'.na = S.na) (h1 : ∀ i, i < S.n → S'.ow i = S.ow i) (h2 : ∀ i, i < S.n → S'.ho i = S.ho i) (h3 : ∀ i j, i < S.n → S'.byt i j = S.byt i j) (h4 : ∀ i, i < S.na → S'.qu i = S.qu i) (h5 : ∀ i, i < S.na → S'.us i = S.us i) : PoolAt h bp L S' := by
  obtain ⟨c, g1, ic⟩ := hp.p
  obtain ⟨d, g2, id⟩ := hp.f
  obtain ⟨q, g3, iq⟩ := hp.q
  obtain ⟨u, g4, iu⟩ := hp.u
  refine ⟨by rw [hn]; exact hp.pos, ⟨c, g1, ic.size, by rw [hn]; exact ic.c0, by rw [hna]; exact ic.c1, by rw [hna]; exact ic.c2⟩, ⟨d, g2, by rw [hn]; exact id.size, fun i hi => ?_, fun i hi => ?_, fun i j hi hj => ?_⟩, ⟨q, g3, by rw [hna]; exact iq.size, fun i hi => ?_⟩, ⟨u, g4, by rw [hna]; exact iu.size, fun i hi => ?_⟩, hp.ne, by rw [hn, hna]; exact hp.lo⟩
  · rw [hn] at hi; rw [h1 i hi]; exact id.ow i hi
  · rw [hn] at hi; rw [h2 i hi]; exact id.ho i hi
  · rw [hn] at hi; rw [h3 i j hi]; exact id.byt i j hi hj
  · rw [hna] at hi; rw [h4 i hi]; exact iq.get i hi
  · rw [hna] at hi; rw [h5 i hi]; exact iu.get i hi
theorem rN_eq : rN = evInv Try.prog 100000 30 (.fn 10) [.int .i64 1, .slice (some (0, 0)) 1 1 true] ⟨hA, 0, [], []⟩ := rfl
theorem rG_eq : rG = evInv Try.prog 100000 30 (.fn 11) [.ptr (some (5, 0)), .int .i64 0] ⟨hB, 0, [], []⟩ := rfl
theorem hB_eq : hB = heapOf rN := rfl
theorem hC_eq : hC = heapOf rG := rfl
attribute [irreducible] hB hC rN rG
theorem known_run : isTrue (evInv Try.prog 100000 30 (.fn 9) [] s0) = true := by kernel_rfl
theorem known_ok (h : Heap) (R W : Set') : SF Try.prog 9 [] h R W fun v h' => v = .bool true ∧ h' = h := SF.closed hm known_run h R W
end Go.Proofs.Ytfgdpgagcnelpaa
