/- PortsOrder: lists of strings that grow; the one port. -/
import Derived.Test.YtmimialblhlklaaG4
set_option linter.unusedVariables false
set_option linter.unusedSimpArgs false
set_option linter.unusedSimpArgs false
set_option maxRecDepth 100000
set_option linter.unusedVariables false
set_option linter.unusedSimpArgs false
namespace Go.Proofs.Ytmimialblhlklaa
open Go Go.Vm
theorem ap_35 : apT Try.prog 35 35 = some (9, 1, 16) := by kernel_rfl
theorem appIn_blk {h : Heap} {base : Option (Nat × Nat)} {sl sc size n : Nat} {ex : Bool} {news : List V} {rs : List Nat} {p : Pr} (e : appendIn h base sl sc ex size n news rs = some p) : sblk p.v = sblk (.slice base sl sc ex) := by
  unfold appendIn at e
  split at e
  · cases e; rfl
  · split at e
    · split at e
      · split at e
        · split at e
          · cases e; rfl
          · cases e
        · cases e
      · cases e
    · cases e
theorem appOut_blk {h : Heap} {t : TypeId} {base : Option (Nat × Nat)} {sc size need : Nat} {ex : Bool} {olds news : List V} {rs : List Nat} {p : Pr} (e : appendOut h t base sc ex size need olds news rs = some p) : sblk p.v = h.n := by
  unfold appendOut at e
  split at e
  · split at e
    · split at e
      · split at e
        · split at e
          · split at e
            · cases e; rfl
            · cases e
          · cases e
        · cases e
      · cases e
    · cases e
  · cases e; rfl
theorem appE_blk {t size bytes : Nat} {v x : V} {h : Heap} {p : Pr} (e : appE t size bytes v x h = some p) : sblk p.v = sblk v ∨ sblk p.v = h.n := by
  unfold appE at e
  split at e
  · split at e
    · split at e
      · split at e
        · exact .inl (appIn_blk e)
        · split at e
          · split at e
            · split at e
              · split at e
                · exact .inr (appOut_blk e)
                · cases e
              · cases e
            · cases e
          · cases e
      · cases e
    · cases e
  · split at e
    · cases e; exact .inl rfl
    · cases e
  · cases e
theorem OwnS.keepS {sz n0 : Nat} {h h' : Heap} {v : V} {n : Nat} {l : List V} {e : TypeId} (ho : OwnS sz n0 h v n l e) (hk : ∀ c, n0 ≤ sblk v → h.get (sblk v) = some (.cells c e) → h'.get (sblk v) = some (.cells c e)) : OwnS sz n0 h' v n l e := by
  obtain ⟨hl, ⟨rfl, rfl | ⟨b, c, rfl, h1, hb, hr⟩⟩ | ⟨b, x, c, h0, rfl, h1, hb, hs⟩⟩ := ho
  · exact ⟨hl, .inl ⟨rfl, .inl rfl⟩⟩
  · exact ⟨hl, .inl ⟨rfl, .inr ⟨b, c, rfl, h1, hk c h1 hb, hr⟩⟩⟩
  · exact ⟨hl, .inr ⟨b, x, c, h0, rfl, h1, hk c h1 hb, hs⟩⟩
def Dis (v v2 : V) : Prop := sblk v = 0 ∨ sblk v2 = 0 ∨ sblk v ≠ sblk v2
theorem Dis.symm {v v2 : V} (h : Dis v v2) : Dis v2 v := h.elim (fun h => .inr (.inl h)) fun h => h.elim .inl fun h => .inr (.inr fun e => h e.symm)
theorem app_str {g : Heap} {n0 m m2 : Nat} {v v2 : V} {l l2 : List V} {s : ByteArray} (ho : OwnS 1 n0 g v m l 9) (ho2 : OwnS 1 n0 g v2 m2 l2 9) (hd : Dis v v2) (h0 : 0 < n0) (hn : n0 ≤ g.n) (hm : m ≤ 1000000) :
    ∃ v' h' r w, appE 9 1 16 v (.slice (some (g.n, 0)) 1 1 true) (g.push (.cells (Blk.of [.str s]) 9)) = some ⟨v', h', r, w⟩ ∧ g.n ≤ h'.n ∧ OwnS 1 n0 h' v' (m + 1) (l ++ [.str s]) 9 ∧ OwnS 1 n0 h' v2 m2 l2 9 ∧ Dis v' v2 ∧ (sblk v' = sblk v ∨ g.n ≤ sblk v') ∧ (∀ b ∈ w, n0 ≤ b) ∧ ∀ b, b < g.n → (b < n0 ∨ b ≠ sblk v) → h'.get b = g.get b := by
  have ho3 : OwnS 1 n0 (g.push (.cells (Blk.of [.str s]) 9)) v m l 9 := ho.old fun b hb => by rw [w_push_ne (by omega)]
  obtain ⟨v', h', r, w, a1, a2, a3, a4, a5, a6, a7, a8⟩ := app_ownS (bytes := 16) (m := 1) (news := [.str s]) (rs := [g.n]) ho3 (by rw [Heap.n_push]; omega) (x := .slice (some (g.n, 0)) 1 1 true) rfl (firstS (w_push_eq rfl _) (Nat.le_refl _) rfl) rfl rfl (by omega) (by omega) (by omega)
  have hb := appE_blk a1
  simp only [Heap.n_push] at hb a3
  have hk : ∀ b, b < g.n → (b < n0 ∨ b ≠ sblk v) → h'.get b = g.get b := fun b h1 h2 => by
    rw [a6 b (by rw [Heap.n_push]; omega) fun hw => h2.elim (fun h => by have := a5 b hw; omega) fun h => h (a7 b hw).1, w_push_ne (by omega)]
  have hs2 := ho2.sblk
  refine ⟨v', h', r, w, a1, by omega, a2, OwnS.keepS ho2 fun c h3 h4 => ?_, ?_, hb.imp id fun h => by omega, a5, hk⟩
  · have := Heap.lt_of_get h4
    rw [hk _ this]
    · exact h4
    · rcases hd with hd | hd | hd
      · exact .inr (by omega)
      · exact .inl (by omega)
      · exact .inr fun e => hd e.symm
  · rcases hb with hb | hb
    · unfold Dis; rw [hb]; exact hd
    · exact .inr (.inr (by omega))
def one (X : Pt) : AT := fun a n => if a = 0 ∧ n = 0 then some X else none
theorem lookA_one (X : Pt) : lookA (one X) 0 0 = some X := rfl
theorem openA_one (X : Pt) : openA (one X) 0 = [0] := by
  unfold openA
  have : (fun n : Nat => (lookA (one X) 0 (n : Int)).isSome) = fun n => decide (n = 0) := by
    funext n
    unfold lookA one
    rw [if_pos ⟨by omega, by omega⟩, Int.toNat_natCast]
    by_cases h : n = 0 <;> simp [h]
  rw [this]; decide
theorem openA_oth (X : Pt) (a : Nat) (ha : a ≠ 0) : openA (one X) (a : Int) = [] := by
  unfold openA
  have : (fun n : Nat => (lookA (one X) (a : Int) (n : Int)).isSome) = fun n => false := by
    funext n
    unfold lookA one
    rw [if_pos ⟨by omega, by omega⟩, Int.toNat_natCast, Int.toNat_natCast]
    simp [ha]
  rw [this]; decide
theorem comeS_nil (S : AT) (a : Nat) (l : List V) : comeS S a l [] = S := by
  funext a' n
  unfold comeS
  cases S a' n with
  | none => rfl
  | some x => simp
theorem come_one (X : Pt) (l : List V) : (comeLA (one X) l = [] ∧ comeA (one X) l = one X) ∨ (comeE l = 0 ∧ comeLA (one X) l = [(0, decide (X.ring.length = 8))] ∧ comeA (one X) l = one (X.put l)) := by
  unfold comeLA comeA comeE
  by_cases h64 : 64 < l.length
  · rw [if_pos h64, if_pos h64]; exact .inl ⟨rfl, rfl⟩
  rw [if_neg h64, if_neg h64, if_neg h64]
  cases hh : homeP l with
  | none => exact .inl ⟨rfl, rfl⟩
  | some a =>
    by_cases ha : a = 0
    · subst ha
      show (comeP (one X) 0 l (openA (one X) ((0 : Nat) : Int)) = [] ∧ comeS (one X) 0 l (openA (one X) ((0 : Nat) : Int)) = one X) ∨ (_ ∧ comeP (one X) 0 l (openA (one X) ((0 : Nat) : Int)) = _ ∧ comeS (one X) 0 l (openA (one X) ((0 : Nat) : Int)) = _)
      rw [show openA (one X) ((0 : Nat) : Int) = [0] from openA_one X]
      by_cases hm : matchP X.ts l = true
      · refine .inr ⟨rfl, ?_, ?_⟩
        · simp [comeP, one, hm]
        · funext a' n
          unfold comeS one
          by_cases hc : a' = 0 ∧ n = 0
          · rw [if_pos hc, if_pos hc]
            simp [hc.1, hc.2, hm]
          · rw [if_neg hc, if_neg hc]; rfl
      · refine .inl ⟨?_, ?_⟩
        · simp [comeP, one, hm]
        · funext a' n
          unfold comeS one
          by_cases hc : a' = 0 ∧ n = 0
          · rw [if_pos hc]; simp [hm]
          · rw [if_neg hc]; rfl
    · refine .inl ⟨?_, ?_⟩
      · show comeP (one X) a l (openA (one X) (a : Int)) = []
        rw [openA_oth X a ha]; rfl
      · show comeS (one X) a l (openA (one X) (a : Int)) = one X
        rw [openA_oth X a ha, comeS_nil]
theorem take_one (X : Pt) : (X.ring = [] ∧ takeA (one X) 0 0 = one X ∧ lookEA [1] (one X) 0 0 = 6) ∨ ∃ b t, X.ring = b :: t ∧ takeA (one X) 0 0 = one { X with ring := t } ∧ lookEA [1] (one X) 0 0 = 0 ∧ takeB (one X) 0 0 = b := by
  unfold takeA lookEA takeB
  rw [lookA_one]
  cases hr : X.ring with
  | nil => exact .inl ⟨rfl, by simp [hr], by simp [hr]⟩
  | cons b t =>
    refine .inr ⟨b, t, rfl, ?_, by simp [hr], by simp [hr]⟩
    simp only [hr, reduceCtorEq, if_false, List.tail_cons]
    funext a' n'
    unfold updA one
    by_cases hc : a' = 0 ∧ n' = 0
    · rw [if_pos hc]; simp [hc]
    · rw [if_neg hc]; simp [hc]
theorem PX.len8 {g : Heap} {M : Set'} {pp : Nat} {qs : List Nat} {S : AT} (hx : PX g M pp qs S) {a n : Nat} {x : Pt} (e : S a n = some x) : x.ring.length ≤ 8 := by
  obtain ⟨⟨I, mp, T, hp, rfl, hm⟩, hF, hl⟩ := hx
  unfold absT at e
  cases hT : T a n with
  | none => rw [hT] at e; cases e
  | some y => rw [hT] at e; cases e; exact (hp.pt a n y.1 y.2 hT).len
def strV (l : List ByteArray) : List V := l.map .str
end Go.Proofs.Ytmimialblhlklaa
