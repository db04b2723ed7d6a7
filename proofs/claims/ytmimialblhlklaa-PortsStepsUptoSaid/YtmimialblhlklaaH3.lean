/- Two machines side by side; alike. -/
import Derived.Test.YtmimialblhlklaaN6
set_option linter.unusedVariables false
set_option maxRecDepth 100000
namespace Go.Proofs.Ytmimialblhlklaa
open Go Go.Vm
variable {R W : Set'}
structure Two (hb g : Heap) (p q : Nat) (qs : List Nat) (Mp Mq : Set') (S S' : AT) : Prop where
 p : PX g Mp p qs S
 q : PX g Mq q qs S'
 mp : ∀ k, Mp k → hb.n ≤ k
 mq : ∀ k, Mq k → hb.n ≤ k
 dis : ∀ k, Mp k → ¬ Mq k
 n : hb.n ≤ g.n
 old : ∀ k, k < hb.n → g.get k = hb.get k
theorem Two.push {hb g g' : Heap} {p q : Nat} {qs : List Nat} {Mp Mq : Set'} {S S' : AT} (t : Two hb g p q qs Mp Mq S S') (hn : g.n ≤ g'.n) (hk : ∀ k, k < g.n → g'.get k = g.get k) : Two hb g' p q qs Mp Mq S S' :=
 ⟨t.p.old hn hk, t.q.old hn hk, t.mp, t.mq, t.dis, Nat.le_trans t.n hn, fun k h => by rw [hk k (by have := t.n; omega)]; exact t.old k h⟩
theorem Two.left {hb g g' : Heap} {p q : Nat} {qs : List Nat} {Mp Mq : Set'} {S S' S2 : AT} (t : Two hb g p q qs Mp Mq S S') (hq : PXQ g g' Mp p qs S2) : ∃ M', Two hb g' p q qs M' Mq S2 S' := by
 obtain ⟨hc, M', hx, hm⟩ := hq
 have hcn := hc.n
 have htn := t.n
 refine ⟨M', hx, t.q.fr hc fun k h h2 => t.dis k h2.1 h, fun k h => (hm k h).elim (t.mp k) fun h => by omega, t.mq, fun k h h2 => (hm k h).elim (fun h3 => t.dis k h3 h2) fun h3 => by have := t.q.lt k h2; omega, by omega, fun k h => ?_⟩
 rw [hc.k k (by omega) fun h2 => by have := t.mp k h2.1; omega]
 exact t.old k h
theorem Two.right {hb g g' : Heap} {p q : Nat} {qs : List Nat} {Mp Mq : Set'} {S S' S2 : AT} (t : Two hb g p q qs Mp Mq S S') (hq : PXQ g g' Mq q qs S2) : ∃ M', Two hb g' p q qs Mp M' S S2 := by
 obtain ⟨hc, M', hx, hm⟩ := hq
 have hcn := hc.n
 have htn := t.n
 refine ⟨M', t.p.fr hc fun k h h2 => t.dis k h h2.1, hx, t.mp, fun k h => (hm k h).elim (t.mq k) fun h => by omega, fun k h h2 => (hm k h2).elim (fun h3 => t.dis k h h3) fun h3 => by have := t.p.lt k h; omega, by omega, fun k h => ?_⟩
 rw [hc.k k (by omega) fun h2 => by have := t.mq k h2.1; omega]
 exact t.old k h
theorem StepIs.at' {hb g : Heap} {vf vp : V} {L : List Te} {l : List V} (hs : StepIs hb vf vp L l) (hold : ∀ k, k < hb.n → g.get k = hb.get k) : TestsV g (fun k => k < hb.n) vf L ∧ LR g (fun k => k < hb.n) vp l ∧ Byt l := ⟨LRs.old hs.1 hold, hs.2.1.old hold, hs.2.2⟩
theorem lost_d {g : Heap} {M : Set'} {pp : Nat} {qs : List Nat} {S : AT} {R W : Set'} (hx : PX g M pp qs S) (hR : ∀ b, R b) (a n : Int) : SF Try.prog 26 [.ptr (some (pp, 0)), .int .i64 a, .int .i64 n] g R W fun r g' => r = .int .i64 (((lookA S a n).map fun x => x.lost).getD 0) ∧ g' = g := by
 obtain ⟨⟨I, mp, T, hp, rfl, hm⟩, hF, hl⟩ := hx
 refine (lost_ok hp hR a n).mono ?_
 rintro r g' ⟨rfl, rfl⟩
 rw [lookA_abs, Option.map_map]
 exact ⟨rfl, rfl⟩
theorem len_d {g : Heap} {M : Set'} {pp : Nat} {qs : List Nat} {S : AT} {R W : Set'} (hx : PX g M pp qs S) (hR : ∀ b, R b) (a n : Int) : SF Try.prog 13 [.ptr (some (pp, 0)), .int .i64 a, .int .i64 n] g R W fun r g' => r = .int .i64 (((lookA S a n).map fun x => (x.ring.length : Int)).getD 0) ∧ g' = g := by
 obtain ⟨⟨I, mp, T, hp, rfl, hm⟩, hF, hl⟩ := hx
 refine (len_ok hp hR a n).mono ?_
 rintro r g' ⟨rfl, rfl⟩
 rw [lookA_abs, Option.map_map]
 exact ⟨rfl, rfl⟩
theorem comeP_len (S : AT) (a : Nat) (l : List V) (P : List Nat) : (comeP S a l P).length ≤ P.length := by
 unfold comeP
 induction P with
 | nil => simp
 | cons n P ih =>
  rw [List.flatMap_cons, List.length_append, List.length_cons]
  cases S a n with
  | none => simp only [List.length_nil]; omega
  | some x =>
   simp only []
   split
   ·simp only [List.length_cons, List.length_nil]; omega
   ·simp only [List.length_nil]; omega
theorem openA_len (S : AT) (a : Int) : (openA S a).length ≤ 16 := by
 have := List.length_filter_le (fun n : Nat => (lookA S a (n : Int)).isSome) (List.range 16)
 unfold openA; simpa using this
theorem comeLA_len (S : AT) (l : List V) : (comeLA S l).length ≤ 16 := by
 unfold comeLA
 split
 ·simp
 ·cases homeP l with
  | none => simp
  | some a => exact Nat.le_trans (comeP_len S a l _) (openA_len S _)
end Go.Proofs.Ytmimialblhlklaa
