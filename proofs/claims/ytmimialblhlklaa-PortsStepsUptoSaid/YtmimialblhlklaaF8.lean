/- Ports: what the calls do, with no word of where things lie. -/
import Derived.Test.YtmimialblhlklaaF7
set_option linter.unusedVariables false
set_option maxRecDepth 100000
namespace Go.Proofs.Ytmimialblhlklaa
open Go Go.Vm
variable {h : Heap} {R W I : Set'} {pp mp : Nat} {qs : List Nat} {T : PT}
abbrev AT := Nat → Nat → Option Pt
def absT (T : PT) : AT := fun a n => (T a n).map Prod.snd
def lookA (S : AT) (a n : Int) : Option Pt := if 0 ≤ a ∧ 0 ≤ n then S a.toNat n.toNat else none
def updA (S : AT) (a n : Nat) (y : Option Pt) : AT := fun a' n' => if a' = a ∧ n' = n then y else S a' n'
theorem lookA_abs (T : PT) (a n : Int) : lookA (absT T) a n = (lookT T a n).map Prod.snd := by
 unfold lookA lookT absT
 split <;> rfl
theorem absT_upd (T : PT) (a n b : Nat) (x : Pt) : absT (updT T a n (some (b, x))) = updA (absT T) a n (some x) := by
 funext a' n'
 unfold absT updT updA
 by_cases hc : a' = a ∧ n' = n
 ·rw [if_pos hc, if_pos hc]; rfl
 ·rw [if_neg hc, if_neg hc]
theorem absT_del (T : PT) (a n : Nat) : absT (updT T a n none) = updA (absT T) a n none := by
 funext a' n'
 unfold absT updT updA
 by_cases hc : a' = a ∧ n' = n
 ·rw [if_pos hc, if_pos hc]; rfl
 ·rw [if_neg hc, if_neg hc]
def FitA (S : AT) : Prop := ∀ a n x, S a n = some x → okF x.ts ∧ ∀ l ∈ x.ring, Byt l ∧ l.length ≤ 64
theorem FitA.of (hF : FitA (absT T)) : Fit T := fun a n b x e => hF a n x (by unfold absT; rw [e]; rfl)
def Mty (g : Heap) : Set' := fun k => (∃ c, g.get k = some (.cells c 82)) ∨ ∃ es ck, g.get k = some (.map es ck)
structure Chg (g g' : Heap) (M : Set') : Prop where
 n : g.n ≤ g'.n
 k : ∀ k, k < g.n → ¬ (M k ∧ Mty g k) → g'.get k = g.get k
theorem Chg.trans {g g' g'' : Heap} {M : Set'} (h1 : Chg g g' M) (h2 : Chg g' g'' M) : Chg g g'' M := ⟨Nat.le_trans h1.n h2.n, fun k hk hm => by
 have e := h1.k k hk hm
 rw [h2.k k (by have := h1.n; omega) (fun h => hm ⟨h.1, by unfold Mty at h ⊢; rw [e] at h; exact h.2⟩), e]⟩
theorem Chg.old {g g' : Heap} {M : Set'} (hn : g.n ≤ g'.n) (hk : ∀ k, k < g.n → g'.get k = g.get k) : Chg g g' M := ⟨hn, fun k h _ => hk k h⟩
theorem Chg.mono {g g' : Heap} {M M' : Set'} (h1 : Chg g g' M) (hm : ∀ k, M k → M' k) : Chg g g' M' := ⟨h1.n, fun k hk h => h1.k k hk fun h2 => h ⟨hm k h2.1, h2.2⟩⟩
structure PX (g : Heap) (M : Set') (pp : Nat) (qs : List Nat) (S : AT) : Prop where
 ex : ∃ I mp T, PortsAt g I pp mp qs T ∧ absT T = S ∧ (∀ k, MutB mp T k ∨ I k → M k)
 fit : FitA S
 lt : ∀ k, M k → k < g.n
theorem MutB.ty {g : Heap} (hp : PortsAt g I pp mp qs T) {k : Nat} (hm : MutB mp T k) : Mty g k ∧ k < g.n := by
 rcases hm with rfl | ⟨a, n, x, e⟩
 ·obtain ⟨es, ck, m1, _⟩ := hp.m
  exact ⟨.inr ⟨_, _, m1⟩, Heap.lt_of_get m1⟩
 ·obtain ⟨c, h1⟩ := (hp.pt _ _ _ _ e).cells
  exact ⟨.inl ⟨c, h1⟩, Heap.lt_of_get h1⟩
theorem PortsAt.nI {g : Heap} (hp : PortsAt g I pp mp qs T) {k : Nat} (hi : I k) : ¬ Mty g k := by
 obtain ⟨c, e, h1, h2⟩ := hp.imm k hi
 rintro (⟨c', h3⟩ | ⟨es, ck, h3⟩)
 ·rw [h1] at h3; cases h3; exact h2.1 rfl
 ·rw [h1] at h3; cases h3
theorem PX.same {g g' : Heap} {M : Set'} {S : AT} (hx : PX g M pp qs S) (hn : g.n ≤ g'.n) (hk : ∀ k, M k → g'.get k = g.get k) : PX g' M pp qs S := by
 obtain ⟨⟨I, mp, T, hp, rfl, hm⟩, hF, hl⟩ := hx
 exact ⟨⟨I, mp, T, hp.same fun k h1 h2 => hk k (hm k h1.symm), rfl, hm⟩, hF, fun k hk => by have := hl k hk; omega⟩
theorem PX.fr {g g' : Heap} {M M2 : Set'} {S : AT} (hx : PX g M pp qs S) (hf : Chg g g' M2) (hd : ∀ k, M k → ¬ (M2 k ∧ Mty g k)) : PX g' M pp qs S := hx.same hf.n fun k hk => hf.k k (hx.lt k hk) (hd k hk)
theorem PX.old {g g' : Heap} {M : Set'} {S : AT} (hx : PX g M pp qs S) (hn : g.n ≤ g'.n) (hk : ∀ k, k < g.n → g'.get k = g.get k) : PX g' M pp qs S := hx.same hn fun k h => hk k (hx.lt k h)
theorem PX.mk' {g : Heap} {T : PT} (hp : PortsAt g I pp mp qs T) (hF : FitA (absT T)) : PX g (fun k => MutB mp T k ∨ I k) pp qs (absT T) := ⟨⟨I, mp, T, hp, rfl, fun _ h => h⟩, hF, fun k hk => by
 rcases hk with hk | hk
 ·exact (MutB.ty hp hk).2
 ·obtain ⟨c, e, h1, _⟩ := hp.imm k hk
  exact Heap.lt_of_get h1⟩
def PXQ (g g' : Heap) (M : Set') (pp : Nat) (qs : List Nat) (S : AT) : Prop := Chg g g' M ∧ ∃ M', PX g' M' pp qs S ∧ ∀ k, M' k → M k ∨ g.n ≤ k
theorem PXQ.mk {g g' : Heap} {M I I' : Set'} {T T' : PT} (hp : PortsAt g I pp mp qs T) (hM : ∀ k, MutB mp T k ∨ I k → M k) (hp' : PortsAt g' I' pp mp qs T') (hF : FitA (absT T')) (hn : g.n ≤ g'.n) (hk : ∀ k, k < g.n → ¬ MutB mp T k → g'.get k = g.get k) (hm : ∀ k, MutB mp T' k → MutB mp T k ∨ g.n ≤ k) (hi : ∀ k, I' k → I k ∨ g.n ≤ k) : PXQ g g' M pp qs (absT T') :=
 ⟨⟨hn, fun k h1 h2 => hk k h1 fun h3 => h2 ⟨hM k (.inl h3), (MutB.ty hp h3).1⟩⟩, _, PX.mk' hp' hF, fun k hk => hk.elim (fun h => (hm k h).imp (fun h => hM k (.inl h)) id) fun h => (hi k h).imp (fun h => hM k (.inr h)) id⟩
theorem PXQ.same {g g' : Heap} {M : Set'} {S : AT} (hx : PX g M pp qs S) (hn : g.n ≤ g'.n) (hk : ∀ k, k < g.n → g'.get k = g.get k) : PXQ g g' M pp qs S := ⟨Chg.old hn hk, M, hx.old hn hk, fun k h => .inl h⟩
theorem MutB.upd {T : PT} {a n b : Nat} {x x' : Pt} (e : T a n = some (b, x)) {k : Nat} (hk : MutB mp (updT T a n (some (b, x'))) k) : MutB mp T k := by
 rcases hk with rfl | ⟨a', n', y, h1⟩
 ·exact .inl rfl
 ·unfold updT at h1
  split at h1
  ·cases h1; exact .inr ⟨a, n, x, e⟩
  ·exact .inr ⟨a', n', y, h1⟩
def askA (qs : List Nat) (S : AT) (a n : Int) : Int := if okA qs a then (if (lookA S a n).isSome then 0 else 6) else 2
def lookEA (qs : List Nat) (S : AT) (a n : Int) : Int := match lookA S a n with
 | some x => if x.ring = [] then 6 else 0
 | none => askA qs S a n
theorem askA_abs (qs : List Nat) (T : PT) (a n : Int) : askA qs (absT T) a n = askE qs T a n := by
 unfold askA askE
 rw [lookA_abs, Option.isSome_map]
theorem lookEA_abs (qs : List Nat) (T : PT) (a n : Int) : lookEA qs (absT T) a n = lookE qs T a n := by
 unfold lookEA lookE
 rw [lookA_abs, askA_abs]
 cases lookT T a n <;> rfl
def freeA (S : AT) (a : Nat) : Nat → Nat → Option Nat
 | _, 0 => none
 | i, k + 1 => match S a i with
  | none => some i
  | some _ => freeA S a (i + 1) k
theorem freeA_abs (T : PT) (a : Nat) : ∀ k i, freeA (absT T) a i k = freeN T a i k
 | 0, i => rfl
 | k + 1, i => by
  simp only [freeA, freeN, absT]
  cases T a i with
  | none => rfl
  | some y => exact freeA_abs T a k (i + 1)
def claimV (qs : List Nat) (S : AT) (a : Int) (L : List Te) : Int × Int := if okA qs a then (if okF L then (match freeA S a.toNat 0 (qs.getD a.toNat 0) with | some n => ((n : Int), 0) | none => (0, 5)) else (0, 2)) else (0, 2)
def claimA (qs : List Nat) (S : AT) (a : Int) (L : List Te) : AT := if (claimV qs S a L).2 = 0 then updA S a.toNat (claimV qs S a L).1.toNat (some ⟨L, [], 0⟩) else S
def closeV (qs : List Nat) (S : AT) (a n : Int) : Int × Int := ((((lookA S a n).map fun x => (x.ring.length : Int)).getD 0), askA qs S a n)
def closeA (S : AT) (a n : Int) : AT := if (lookA S a n).isSome then updA S a.toNat n.toNat none else S
def takeA (S : AT) (a n : Int) : AT := match lookA S a n with
 | some x => if x.ring = [] then S else updA S a.toNat n.toNat (some { x with ring := x.ring.tail })
 | none => S
def takeB (S : AT) (a n : Int) : List V := match lookA S a n with
 | some x => x.ring.headD []
 | none => []
def openA (S : AT) (a : Int) : List Nat := (List.range 16).filter fun n : Nat => (lookA S a n).isSome
theorem openA_abs (T : PT) (a : Int) : openA (absT T) a = openN T a := by
 unfold openA openN
 simp only [lookA_abs, Option.isSome_map]
def comeP (S : AT) (a : Nat) (l : List V) (P : List Nat) : List (Nat × Bool) := P.flatMap fun n => match S a n with
 | some x => if matchP x.ts l then [(n, decide (x.ring.length = 8))] else []
 | none => []
theorem comeP_abs (T : PT) (a : Nat) (l : List V) (P : List Nat) : comeP (absT T) a l P = cL T a l P := by
 unfold comeP cL absT
 congr 1; funext n
 cases T a n <;> rfl
def comeS (S : AT) (a : Nat) (l : List V) (P : List Nat) : AT := fun a' n => (S a' n).map fun x => if a' = a ∧ n ∈ P ∧ matchP x.ts l = true then x.put l else x
theorem comeS_abs (T : PT) (a : Nat) (l : List V) (P : List Nat) : comeS (absT T) a l P = absT (cT T a l P) := by
 funext a' n
 unfold comeS absT
 cases e : T a' n with
 | none => rw [cT_none e]; rfl
 | some y => rw [cT_some e]; rfl
def comeLA (S : AT) (l : List V) : List (Nat × Bool) := if 64 < l.length then [] else match homeP l with | some a => comeP S a l (openA S (a : Int)) | none => []
def comeA (S : AT) (l : List V) : AT := if 64 < l.length then S else match homeP l with | some a => comeS S a l (openA S (a : Int)) | none => S
def comeE (l : List V) : Int := if 64 < l.length then 3 else 0
theorem comeLA_abs (T : PT) {l : List V} (h64 : ¬ 64 < l.length) : comeLA (absT T) l = comeL T l := by
 unfold comeLA comeL
 rw [if_neg h64]
 cases homeP l with
 | none => rfl
 | some a =>
  show comeP (absT T) a l (openA (absT T) (a : Int)) = cL T a l (openN T (a : Int))
  rw [openA_abs]; exact comeP_abs _ _ _ _
theorem comeA_abs (T : PT) {l : List V} (h64 : ¬ 64 < l.length) : comeA (absT T) l = absT (comeT T l) := by
 unfold comeA comeT
 rw [if_neg h64]
 cases homeP l with
 | none => rfl
 | some a =>
  show comeS (absT T) a l (openA (absT T) (a : Int)) = absT (cT T a l (openN T (a : Int)))
  rw [openA_abs]; exact comeS_abs _ _ _ _
theorem put_fit {x : Pt} {l : List V} (hx : okF x.ts ∧ ∀ l ∈ x.ring, Byt l ∧ l.length ≤ 64) (hl : Byt l ∧ l.length ≤ 64) : okF (x.put l).ts ∧ ∀ l' ∈ (x.put l).ring, Byt l' ∧ l'.length ≤ 64 := by
 unfold Pt.put
 split
 ·exact hx
 ·refine ⟨hx.1, fun l' h => ?_⟩
  rcases List.mem_append.1 h with h | h
  ·exact hx.2 l' h
  ·rw [List.mem_singleton.1 h]; exact hl
theorem FitA.come {S : AT} (hF : FitA S) {l : List V} (hby : Byt l) : FitA (comeA S l) := by
 unfold comeA
 split
 ·exact hF
 ·rename_i h64
  split
  ·intro a' n x e
   unfold comeS at e
   cases hS : S a' n with
   | none => rw [hS] at e; cases e
   | some y =>
    rw [hS] at e
    simp only [Option.map_some, Option.some.injEq] at e
    have hy := hF a' n y hS
    rw [← e]
    split
    ·exact put_fit hy ⟨hby, by omega⟩
    ·exact hy
  ·exact hF
theorem FitA.upd {S : AT} (hF : FitA S) {a n : Nat} {x : Pt} (hx : okF x.ts ∧ ∀ l ∈ x.ring, Byt l ∧ l.length ≤ 64) : FitA (updA S a n (some x)) := fun a' n' y e => by
 unfold updA at e
 split at e
 ·cases e; exact hx
 ·exact hF a' n' y e
theorem FitA.del {S : AT} (hF : FitA S) {a n : Nat} : FitA (updA S a n none) := fun a' n' y e => by
 unfold updA at e
 split at e
 ·cases e
 ·exact hF a' n' y e
end Go.Proofs.Ytmimialblhlklaa
