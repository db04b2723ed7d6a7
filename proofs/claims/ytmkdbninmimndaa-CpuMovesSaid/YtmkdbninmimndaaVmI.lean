/- The virtual machine's append. -/
import Derived.Test.YtmkdbninmimndaaVmH
set_option linter.unusedVariables false
set_option linter.unusedSimpArgs false
namespace Go.Vm
variable {P : Program} {tm : Tm} {o : Oper} {h : Heap}

/-- A block is given up, and a new one stands for its real block (written, it may be). -/
theorem goes_move {H : HF} {σ : Ren} {w w' : World} (hi : Inv P H σ w) {b n : Nat} {l : Loc} (hb : liveIn H b) (hl : σ b = some l) (hσ : σ n = none) (hH : H n = none) {o : O} (sh s : Nat) {N W : Nat → Prop} (hN : ∀ c, N c ↔ c = n) (hW : W b) (hd : o.isDead = false)
    (hsz : w'.heap.size = w.heap.size) (hoth : ∀ k, k ≠ l.blk → w'.heap[k]? = w.heap[k]?) (e2 : w'.os = w.os) (e3 : w'.tape = w.tape) (e4 : w'.output = w.output)
    (hr : BRel P (σ.upd n ⟨l.blk, sh, s⟩) ⟨l.blk, sh, s⟩ o w'.heap[l.blk]?) : Goes P N W H (HF.upd (HF.upd H b .dead) n o) σ (σ.upd n ⟨l.blk, sh, s⟩) w w' := by
  have hle := Ren.le_upd hσ ⟨l.blk, sh, s⟩
  have hbn : b ≠ n := fun e => by obtain ⟨x, hx, _⟩ := hb; rw [e, hH] at hx; cases hx
  have hlive : ∀ c, c ≠ n → liveIn (HF.upd (HF.upd H b .dead) n o) c → c ≠ b ∧ liveIn H c := fun c hc ⟨x, hx, hx'⟩ => by
    rw [HF.upd_ne _ _ hc] at hx
    by_cases e : c = b
    · subst e; rw [HF.upd_same] at hx; cases hx; cases hx'
    · rw [HF.upd_ne _ _ e] at hx; exact ⟨e, x, hx, hx'⟩
  obtain ⟨N0, hN0⟩ := hi.fin
  have hfin : ∃ N, ∀ c, N ≤ c → σ.upd n ⟨l.blk, sh, s⟩ c = none ∧ HF.upd (HF.upd H b .dead) n o c = none := ⟨max N0 (n + 1), fun c hc => by
    have hne : c ≠ n := by omega
    have h1 := hN0 c (by omega)
    have hne' : c ≠ b := fun e => by subst e; rw [hl] at h1; cases h1.1
    rw [Ren.upd_ne σ _ hne, HF.upd_ne _ _ hne, HF.upd_ne _ _ hne']; exact h1⟩
  refine ⟨hle, ?_, ⟨?_, ?_, hfin⟩, ?_, ?_, ?_, ?_, by omega, e2, e3, e4⟩
  · intro c m hm
    by_cases e : c = n
    · exact .inr ((hN c).2 e)
    · rw [Ren.upd_ne σ _ e] at hm; exact .inl hm
  · intro c x hc hx
    by_cases e : c = n
    · subst e
      rw [HF.upd_same] at hc; cases hc
      exact ⟨_, Ren.upd_same σ c _, hr⟩
    · obtain ⟨hcb, _⟩ := hlive c e ⟨x, hc, hx⟩
      rw [HF.upd_ne _ _ e, HF.upd_ne _ _ hcb] at hc
      obtain ⟨m, hm, hrel⟩ := hi.rel c x hc hx
      refine ⟨m, by rw [Ren.upd_ne σ _ e]; exact hm, ?_⟩
      rw [hoth m.blk fun he => hcb (hi.inj c b m l ⟨x, hc, hx⟩ hb hm hl he)]
      exact hrel.le hle
  · intro a c la lc ha hc hsa hsc he
    by_cases ea : a = n
    · by_cases ec : c = n
      · rw [ea, ec]
      · obtain ⟨hcb, hcl⟩ := hlive c ec hc
        subst ea; rw [Ren.upd_same] at hsa; cases hsa
        rw [Ren.upd_ne σ _ ec] at hsc
        exact absurd (hi.inj c b lc l hcl hb hsc hl he.symm) hcb
    · obtain ⟨hab, hal⟩ := hlive a ea ha
      rw [Ren.upd_ne σ _ ea] at hsa
      by_cases ec : c = n
      · subst ec; rw [Ren.upd_same] at hsc; cases hsc
        exact absurd (hi.inj a b la l hal hb hsa hl he) hab
      · obtain ⟨hcb, hcl⟩ := hlive c ec hc
        rw [Ren.upd_ne σ _ ec] at hsc
        exact hi.inj a c la lc hal hcl hsa hsc he
  · intro c hw hn
    rw [HF.upd_ne _ _ (show c ≠ n from fun e => hn ((hN c).2 e)), HF.upd_ne _ _ (show c ≠ b from fun e => hw (e ▸ hW))]
  · intro c hn hc; exact (hlive c (fun e => hn ((hN c).2 e)) hc).2
  · intro c m hn _ hs
    obtain rfl := (hN c).1 hn
    rw [Ren.upd_same] at hs; cases hs
    exact .inr ⟨b, l, hb, hW, fun h => hbn ((hN b).1 h), hl, rfl⟩
  · intro k hk hne
    exact hoth k fun e => hne b l hb hl e.symm hW
/-- A block is given up, and a new one is made. -/
theorem goes_kill_push {H : HF} {σ : Ren} {w : World} (hi : Inv P H σ w) {b n : Nat} (hb : liveIn H b) (hσ : σ n = none) (hH : H n = none) {o : O} {o' : Obj} (s : Nat) {N W : Nat → Prop} (hN : ∀ c, N c ↔ c = n) (hW : W b)
    (hd : o.isDead = false) (hr : BRel P (σ.upd n ⟨w.heap.size, 0, s⟩) ⟨w.heap.size, 0, s⟩ o (some o')) :
    Goes P N W H (HF.upd (HF.upd H b .dead) n o) σ (σ.upd n ⟨w.heap.size, 0, s⟩) w (w.alloc o') := by
  have hbn : b ≠ n := fun e => by obtain ⟨x, hx, _⟩ := hb; rw [e, hH] at hx; cases hx
  have hlive : ∀ c, liveIn (HF.upd H b .dead) c → liveIn H c := fun c ⟨x, hx, hx'⟩ => by
    by_cases e : c = b
    · subst e; exact hb
    · exact ⟨x, by rwa [HF.upd_ne H _ e] at hx, hx'⟩
  have hi' : Inv P (HF.upd H b .dead) σ w := ⟨fun c x hc hx => by
      by_cases e : c = b
      · subst e; rw [HF.upd_same] at hc; cases hc; cases hx
      · rw [HF.upd_ne H _ e] at hc; exact hi.rel c x hc hx, fun a c la lc ha hc => hi.inj a c la lc (hlive a ha) (hlive c hc), let ⟨N0, hN0⟩ := hi.fin; ⟨N0, fun c hc => ⟨(hN0 c hc).1, by
      have hne' : c ≠ b := fun e => by subst e; obtain ⟨x, hx, hx'⟩ := hb; rw [(hN0 c hc).2] at hx; cases hx
      rw [HF.upd_ne H _ hne']; exact (hN0 c hc).2⟩⟩⟩
  have g := goes_push (W := W) hi' hσ (by rw [HF.upd_ne H _ (Ne.symm hbn)]; exact hH) s hN hd hr
  exact { g with
    virt := fun c hw hn => by rw [g.virt c hw hn, HF.upd_ne H _ (show c ≠ b from fun e => hw (e ▸ hW))]
    dead := fun c hn hc => hlive c (g.dead c hn hc)
    fresh := fun c m hn hc hs => (g.fresh c m hn hc hs).imp id fun ⟨a, la, h1, h2⟩ => ⟨a, la, hlive a h1, h2⟩
    real := fun k hk hne => g.real k hk fun c m hc hs he => hne c m (hlive c hc) hs he }

/-! ### the real append -/
def srcOk (P : Program) (t : TypeId) : Bool := match P.underlying t with
  | some (.slice _) => true
  | some .string => true
  | _ => false
/-- What is appended: a slice's or a string's cells, or so many zeros (the second argument is a number). -/
def AppSrc (P : Program) (u : TypeId) (i : TypeInfo) (x : Value) (n : Nat) (news : Array Value) (w w' : World) : Prop :=
  (srcOk P u = true ∧ (Builtin.lenOf x).run P w = .ok n w ∧ (Builtin.firstCells i.size n x).run P w' = .ok news w') ∨
  (∃ k z, P.underlying u = some (.int k) ∧ x = .int .i64 (n : Int) ∧ n ≤ 9223372036854775807 ∧ n * i.bytes ≤ 140737488355328 ∧ i.zero = some z ∧ news = if n * i.size = 0 then #[] else Builtin.zeroCells z.cells n)
theorem wrap_nat {n : Nat} (h : n ≤ 9223372036854775807) : IntKind.i64.wrap (n : Int) = (n : Int) := by
  rw [IntKind.wrap_i64]; omega
theorem run_append_in {t u ty e : TypeId} {i : TypeInfo} (ht : P.underlying t = some (.slice e)) (hi : P.info? e = some i) {a : Addr} {sLen sCap n : Nat} {x : Value} {w w' : World} {news : Array Value}
    (hs : AppSrc P u i x n news w w) (hroom : sLen + n ≤ sCap) (hst : (storeCells (a.add (sLen * i.size)) news.toList).run P w = .ok () w') :
    (Builtin.append_ #[t, u] ty #[.slice (some a) sLen sCap, x]).run P w = .ok (.slice (some a) (sLen + n) sCap) w' := by
  rcases hs with ⟨hu, hl, hf⟩ | ⟨k, z, hu', rfl, h63, hb, hz, rfl⟩
  · unfold srcOk at hu
    split at hu
    · rename_i hu'; simp [Builtin.append_, run_underlying ht, run_underlying hu', sizeOf, typeInfo, hi, hl, hroom, hf, hst]
    · rename_i hu'; simp [Builtin.append_, run_underlying ht, run_underlying hu', sizeOf, typeInfo, hi, hl, hroom, hf, hst]
    · cases hu
  · have h1 : ¬ ((n : Int) < 0) := by omega
    have h2 : ¬ (281474976710656 < (n : Int) * (i.bytes : Int)) := by
      have := Int.ofNat_le.2 hb
      rw [Int.natCast_mul] at this
      omega
    by_cases h0 : n * i.size = 0
    · rw [if_pos h0] at hst
      simp [Builtin.append_, run_underlying ht, run_underlying hu', sizeOf, typeInfo, zeroValue, hi, hz, hroom, asInt, asIntOf, wrap_nat h63, h1, h2, h0] at hst ⊢
      simp [hst]
    · rw [if_neg h0] at hst
      simp [Builtin.append_, run_underlying ht, run_underlying hu', sizeOf, typeInfo, zeroValue, hi, hz, hroom, asInt, asIntOf, wrap_nat h63, h1, h2, h0]
      simp [hst]
theorem run_append_in_nil {t u ty e : TypeId} {i : TypeInfo} (ht : P.underlying t = some (.slice e)) (hi : P.info? e = some i) {sLen sCap n : Nat} {x : Value} {w : World} {news : Array Value}
    (hs : AppSrc P u i x n news w w) (hroom : sLen + n ≤ sCap) :
    (Builtin.append_ #[t, u] ty #[.slice none sLen sCap, x]).run P w = .ok (.slice none (sLen + n) sCap) w := by
  rcases hs with ⟨hu, hl, hf⟩ | ⟨k, z, hu', rfl, h63, hb, hz, rfl⟩
  · unfold srcOk at hu
    split at hu
    · rename_i hu'; simp [Builtin.append_, run_underlying ht, run_underlying hu', sizeOf, typeInfo, hi, hl, hroom, hf]
    · rename_i hu'; simp [Builtin.append_, run_underlying ht, run_underlying hu', sizeOf, typeInfo, hi, hl, hroom, hf]
    · cases hu
  · have h1 : ¬ ((n : Int) < 0) := by omega
    have h2 : ¬ (281474976710656 < (n : Int) * (i.bytes : Int)) := by
      have := Int.ofNat_le.2 hb
      rw [Int.natCast_mul] at this
      omega
    by_cases h0 : n * i.size = 0
    · simp [Builtin.append_, run_underlying ht, run_underlying hu', sizeOf, typeInfo, zeroValue, hi, hz, hroom, asInt, asIntOf, wrap_nat h63, h1, h2, h0]
    · simp [Builtin.append_, run_underlying ht, run_underlying hu', sizeOf, typeInfo, zeroValue, hi, hz, hroom, asInt, asIntOf, wrap_nat h63, h1, h2, h0]
theorem run_append_out {t u ty e : TypeId} {i : TypeInfo} {z : Value} (ht : P.underlying t = some (.slice e)) (hi : P.info? e = some i) (hz : i.zero = some z) {s : Option Addr} {sLen sCap n : Nat} {x : Value} {w : World} {olds news : Array Value}
    (hs : AppSrc P u i x n news w w.drew) (hfo : (Builtin.firstCells i.size sLen (.slice s sLen sCap)).run P w.drew = .ok olds w.drew)
    (hg : sCap < sLen + n) (h63 : ((sLen + n : Nat) : Int) ≤ 9223372036854775807) (hfit : (sLen + n) * i.bytes ≤ 140737488355328) :
    (Builtin.append_ #[t, u] ty #[.slice s sLen sCap, x]).run P w =
      .ok (.slice (some ⟨w.heap.size, 0, none⟩) (sLen + n) (grownCap w (sLen + n) sCap e))
        (w.drew.alloc (.cells (olds ++ news ++ Builtin.zeroCells z.cells (grownCap w (sLen + n) sCap e - (sLen + n))) e)) := by
  have hn : ¬ (sLen + n ≤ sCap) := by omega
  have h63' : ¬ (9223372036854775807 < ((sLen : Int) + (n : Int))) := by omega
  have h48' : ¬ (281474976710656 < Builtin.nextslicecap (sLen + n) sCap * i.bytes) := by have := growslice_fits hg hfit; omega
  rcases hs with ⟨hu, hl, hf⟩ | ⟨k, z', hu', rfl, h63n, hb, hz', rfl⟩
  · unfold srcOk at hu
    split at hu
    · rename_i hu'
      simp [Builtin.append_, run_underlying ht, run_underlying hu', sizeOf, typeInfo, zeroValue, hi, hz, hl, hn, h63', h48', Question.forced, hf, hfo, newRow, grownCap]
    · rename_i hu'
      simp [Builtin.append_, run_underlying ht, run_underlying hu', sizeOf, typeInfo, zeroValue, hi, hz, hl, hn, h63', h48', Question.forced, hf, hfo, newRow, grownCap]
    · cases hu
  · obtain rfl : z = z' := by rw [hz] at hz'; cases hz'; rfl
    have h1 : ¬ ((n : Int) < 0) := by omega
    have h2 : ¬ (281474976710656 < (n : Int) * (i.bytes : Int)) := by
      have := Int.ofNat_le.2 hb
      rw [Int.natCast_mul] at this
      omega
    by_cases h0 : n * i.size = 0
    · simp [Builtin.append_, run_underlying ht, run_underlying hu', sizeOf, typeInfo, zeroValue, hi, hz, hn, h63', h48', Question.forced, asInt, asIntOf, wrap_nat h63n, h1, h2, h0, hfo, newRow, grownCap]
    · simp [Builtin.append_, run_underlying ht, run_underlying hu', sizeOf, typeInfo, zeroValue, hi, hz, hn, h63', h48', Question.forced, asInt, asIntOf, wrap_nat h63n, h1, h2, h0, hfo, newRow, grownCap]

/-! ### the virtual one -/
def appendIn (h : Heap) (base : Option (Nat × Nat)) (sLen sCap : Nat) (ex : Bool) (size n : Nat) (news : List V) (rs : List Nat) : Option Pr := match base with
  | none => some ⟨.slice none (sLen + n) sCap true, h, rs, []⟩
  | some (b, off) => match h.get b with
    | some (.cells c ce) => match Nat.ble (off + sLen * size + news.length) c.size with
      | true => match allOne news with
        | true => match c.ro with
          | false => some ⟨.slice (some (b, off)) (sLen + n) sCap ex, h.set b (.cells (c.putA (off + sLen * size) news) ce), rs, [b]⟩
          | true => none
        | false => none
      | false => none
    | _ => none
def appendOut (h : Heap) (e : TypeId) (base : Option (Nat × Nat)) (sCap : Nat) (ex : Bool) (size need : Nat) (olds news : List V) (rs : List Nat) : Option Pr := match base, ex with
  | some (b, off), false => match h.get b with
    | some (.cells c ce) => match Nat.beq ce e with
      | true => match Nat.beq (off + sCap * size) c.size with
        | true => match allOne news with
          | true => match c.ro with
            | false => some ⟨.slice (some (h.n, 0)) need need false, (h.set b .dead).push (.cells (Blk.of (olds ++ news)) e), rs, [b]⟩
            | true => none
          | false => none
        | false => none
      | false => none
    | _ => none
  | _, _ => some ⟨.slice (some (h.n, 0)) need need false, h.push (.cells (Blk.of (olds ++ news)) e), rs, []⟩
/-- The source's length and cells. -/
def appSrcV (P : Program) (u : TypeId) (i : TypeInfo) (z : V) (x : V) (h : Heap) : Option (Nat × List V × List Nat) := match srcOk P u with
  | true => match lenOfV x with
    | some n => match firstV h i.size n x with
      | some (news, rs) => some (n, news, rs)
      | none => none
    | none => none
  | false => match P.underlying u with
    | some (.int _) => match x with
      | .int .i64 k => if 0 ≤ k then match z.cellsV with
        | [z0] => match Nat.beq i.size 1, Nat.ble k.toNat 9223372036854775807, Nat.ble (k.toNat * i.bytes) 140737488355328 with
          | true, true, true => some (k.toNat, List.replicate k.toNat z0, [])
          | _, _, _ => none
        | _ => none
        else none
      | _ => none
    | _ => none
theorem appSrcV_lt {u : TypeId} {i : TypeInfo} {z x : V} {n : Nat} {news : List V} {rs : List Nat} (hv : appSrcV P u i z x h = some (n, news, rs)) : ∀ b ∈ rs, b < h.n := by
  unfold appSrcV at hv
  split at hv
  · split at hv
    · split at hv
      · rename_i hf; cases hv; exact firstV_lt hf
      · cases hv
    · cases hv
  · (repeat' (split at hv)) <;> cases hv
    simp
theorem run_appSrc {H : HF} {σ : Ren} {w w' : World} {u : TypeId} {i : TypeInfo} {z x : V} {n : Nat} {news : List V} {rs : List Nat} (hv : appSrcV P u i z x h = some (n, news, rs)) (hz : i.zero = some (z.re σ)) (hzo : z.on σ)
    (hr : ∀ b ∈ rs, H b = h.get b) (hi : Inv P H σ w') : V.onL σ news ∧ AppSrc P u i (x.re σ) n (V.reL σ news).toArray w w' := by
  unfold appSrcV at hv
  split at hv
  · rename_i hu
    split at hv
    · rename_i n' hl
      split at hv
      · rename_i news' rs' hf
        cases hv
        have h2 := run_firstV (w := w') hf hr hi
        exact ⟨h2.1, .inl ⟨hu, run_lenOfV hl w, h2.2⟩⟩
      · cases hv
    · cases hv
  · split at hv
    · rename_i k hu
      split at hv
      · rename_i m
        split at hv
        · rename_i h0
          split at hv
          · rename_i z0 hz0
            split at hv
            · rename_i hs h63 hb
              cases hv
              have hs := Nat.eq_of_beq_eq_true hs
              have hzc : (z.re σ).cells = #[z0.re σ] := by rw [cellsV_re, hz0]; simp [V.reL_eq]
              have ho : z0.on σ := cellsV_on hzo z0 (by rw [hz0]; simp)
              refine ⟨(V.onL_iff _ _).2 fun v hv => by rw [(List.mem_replicate.1 hv).2]; exact ho, .inr ⟨k, z.re σ, hu, ?_, Nat.le_of_ble_eq_true h63, Nat.le_of_ble_eq_true hb, hz, ?_⟩⟩
              · simp only [V.re]; congr 1; omega
              · rw [hzc, hs]
                by_cases hn0 : m.toNat * 1 = 0
                · rw [if_pos hn0]
                  have : m.toNat = 0 := by omega
                  simp [this, V.reL_eq]
                · rw [if_neg hn0]
                  apply Array.ext
                  · simp [Builtin.zeroCells, V.reL_eq]
                  · intro j h1 h2
                    simp [Builtin.zeroCells, V.reL_eq, Nat.mod_one]
            · cases hv
          · cases hv
        · cases hv
      · cases hv
    · cases hv
def appendV (P : Program) (t u : TypeId) (s x : V) (h : Heap) : Option Pr := match P.underlying t with
  | some (.slice e) => match P.info? e, zeroV P e with
    | some i, some z => match s with
      | .slice base sLen sCap ex => match appSrcV P u i z x h with
        | some (n, news, rs) => match Nat.beq news.length (n * i.size) with
          | true => match Nat.ble (sLen + n) sCap with
            | true => appendIn h base sLen sCap ex i.size n news rs
            | false => match firstV h i.size sLen s with
              | some (olds, rs') => match Nat.beq olds.length (sLen * i.size), Nat.beq z.cellsV.length i.size, Nat.ble ((sLen + n) * i.bytes) 140737488355328, Nat.ble (sLen + n) 9223372036854775807 with
                | true, true, true, true => appendOut h e base sCap ex i.size (sLen + n) olds news (rs ++ rs')
                | _, _, _, _ => none
              | none => none
          | false => none
        | none => none
      | .esl a => match appSrcV P u i z x h with
        | some (0, [], rs) => some ⟨.esl a, h, rs, []⟩
        | _ => none
      | _ => none
    | _, _ => none
  | _ => none

theorem grownCap_ge (w : World) (need old : Nat) (e : TypeId) : need ≤ grownCap w need old e := by
  unfold grownCap Question.cut; exact Nat.le_add_right _ _

theorem brel_app {σ : Ren} {k s : Nat} {vs : List V} {zs : Array Value} {e : TypeId} (hz : zs.size = s * P.cellsOf e) (hon : ∀ v ∈ vs, v.on σ) : BRel P σ ⟨k, 0, s⟩ (.cells (Blk.of vs) e) (some (.cells ((V.reL σ vs).toArray ++ zs) e (0, 0))) := by
  refine ⟨_, ⟨_, fun _ => .inl rfl, rfl⟩, by simp [Blk.of, V.reL_eq, hz], fun i hi => ?_⟩
  have hi' : i < vs.length := hi
  rw [Blk.get_of vs i hi']
  have : vs.getD i undefV = vs[i] := by simp [List.getD, List.getElem?_eq_getElem hi']
  rw [this]
  refine ⟨hon _ (List.getElem_mem _), ?_⟩
  rw [Nat.zero_add, Array.getElem?_append_left (by simpa [V.reL_eq] using hi')]
  simp [V.reL_eq, List.getElem?_eq_getElem hi']

theorem ok_append {args : Array Operand} {t u : TypeId} {s x : V} {pr : Pr} (ho : o.op = .call { callee := .builtin .append, args, argTypes := #[t, u] }) (hx : evVs tm args.toList = some [s, x])
    (hv : appendV P t u s x h = some pr) : PrimOk P tm o h pr := by
  unfold appendV at hv
  split at hv
  · rename_i e ht
    split at hv
    · rename_i i z hi hz
      have hzre : ∀ σ : Ren, z.on σ ∧ i.zero = some (z.re σ) := by
        intro σ
        unfold zeroV at hz
        simp only [hi] at hz
        split at hz
        · rename_i zz hzz
          rw [hzz, ((toV_both _).1 zz z hz σ).2]
          exact ⟨((toV_both _).1 zz z hz σ).1, rfl⟩
        · cases hz
      split at hv
      · rename_i base sLen sCap ex
        split at hv
        · rename_i n news rs hf
          split at hv
          · rename_i hlen
            have hlen : news.length = n * i.size := Nat.eq_of_beq_eq_true hlen
            have hcells : P.cellsOf e = i.size := by simp [Program.cellsOf, hi]
            -- the whole operation out of the builtin's run
            have whole : ∀ {ρ : Operand → Value} {σ : Ren} {w w' : World} {v : Value}, EvOn σ tm o ρ → (Builtin.append_ #[t, u] o.type #[(V.slice base sLen sCap ex).re σ, x.re σ]).run P w = .ok v w' → (execOp ρ o).run P w = .ok (.value v) w' := by
              intro ρ σ w w' v he hr
              have ha := args_re ho he hx
              rw [call_builtin ho, ha.2]
              simp only [builtin, V.reL, Sem.run_bind, hr, Result.andThen_ok, Sem.run_pure]
            have hbase : ∀ {ρ : Operand → Value} {σ : Ren}, EvOn σ tm o ρ → (V.slice base sLen sCap ex).on σ ∧ x.on σ := by
              intro ρ σ he
              have ha := (args_re ho he hx).1
              exact ⟨ha.1, ha.2.1⟩
            split at hv
            · rename_i hroom
              have hroom : sLen + n ≤ sCap := Nat.le_of_ble_eq_true hroom
              unfold appendIn at hv
              split at hv
              · cases hv
                refine PrimOk.read (fun H σ w ρ he hr hI => ⟨trivial, ?_⟩) (appSrcV_lt hf)
                have h2 := run_appSrc (w := w) hf (hzre σ).2 (hzre σ).1 hr hI
                exact whole he (run_append_in_nil ht hi h2.2 hroom)
              · rename_i b off
                split at hv
                · rename_i c ce hg
                  split at hv
                  · rename_i hle
                    split at hv
                    · rename_i hone
                      split at hv
                      case h_2 => cases hv
                      rename_i hro
                      cases hv
                      refine PrimOk.write hg rfl rfl (fun H σ w ρ he hr hI l hl hB => ?_) (appSrcV_lt hf)
                      have h2 := run_appSrc (w := w) hf (hzre σ).2 (hzre σ).1 hr hI
                      obtain ⟨w', hrun, e1, e2, e3, e4, e5, hB'⟩ := storeCells_rel hl hB hro (off + sLen * i.size) news (Nat.le_of_ble_eq_true hle) (allOne_mem hone) ((V.onL_iff _ _).1 h2.1)
                      refine ⟨w', _, _, e1, e2, e3, e4, e5, hB', .inl rfl, ⟨(hbase he).1, rfl⟩, ?_⟩
                      refine whole he ?_
                      have hroom' : sLen + n ≤ (if ex then sCap else sCap + σ.k b) := by split <;> omega
                      have := run_append_in (ty := o.type) (a := reA σ (b, off)) ht hi h2.2 hroom' (w' := w') (by rw [addr_add]; simpa [V.reL_eq] using hrun)
                      simpa [V.re] using this
                    · cases hv
                  · cases hv
                · cases hv
            · rename_i hroom
              have hroom : sCap < sLen + n := by
                rcases Nat.lt_or_ge sCap (sLen + n) with h' | h'
                · exact h'
                · rw [Nat.ble_eq_true_of_le h'] at hroom; cases hroom
              split at hv
              · rename_i olds rs' hfo
                split at hv
                · rename_i holen hzl hfit h63
                  have holen : olds.length = sLen * i.size := Nat.eq_of_beq_eq_true holen
                  have hzl : z.cellsV.length = i.size := Nat.eq_of_beq_eq_true hzl
                  have hfit := Nat.le_of_ble_eq_true hfit
                  have h63 : (((sLen + n : Nat) : Int)) ≤ 9223372036854775807 := by have := Nat.le_of_ble_eq_true h63; omega
                  have hzero : ∀ σ : Ren, i.zero = some (z.re σ) := fun σ => (hzre σ).2
                  have hzsz : ∀ (σ : Ren) (m : Nat), (Builtin.zeroCells (z.re σ).cells m).size = m * P.cellsOf e := by
                    intro σ m; rw [size_zeroCells, cellsV_re]; simp [hzl, hcells]
                  unfold appendOut at hv
                  split at hv
                  · rename_i b off
                    split at hv
                    · rename_i c ce hg
                      split at hv
                      · rename_i hce
                        have hce : ce = e := Nat.eq_of_beq_eq_true hce
                        subst hce
                        split at hv
                        · rename_i hend
                          have hend : off + sCap * i.size = c.size := Nat.eq_of_beq_eq_true hend
                          split at hv
                          · rename_i hone
                            split at hv
                            case h_2 => cases hv
                            rename_i hro
                            cases hv
                            have hbn := Heap.get_lt hg
                            refine ⟨by simp, fun d hd hw => by rw [Heap.get_push, if_neg (by simp; omega), Heap.get_set h b d _ hbn, if_neg (by simpa using hw)], fun d hd => by
                              rcases hd with hd | hd
                              · exact (List.mem_append.1 hd).elim (appSrcV_lt hf d) (firstV_lt hfo d)
                              · simp at hd; subst hd; exact hbn, fun H σ w ρ he hr hfr hI => ?_⟩
                            have hHb : H b = some (.cells c ce) := by rw [hr b (.inr (by simp)), hg]
                            have hfn := hfr h.n (Nat.le_refl _) (by simp)
                            have hnew : ∀ d, (h.n ≤ d ∧ d < ((h.set b .dead).push (.cells (Blk.of (olds ++ news)) ce)).n) ∨ d ∈ [b] → HF.upd (HF.upd H b .dead) h.n (.cells (Blk.of (olds ++ news)) ce) d = ((h.set b .dead).push (.cells (Blk.of (olds ++ news)) ce)).get d := by
                              intro d hd
                              rw [Heap.get_push]
                              by_cases ed : d = h.n
                              · subst ed; rw [HF.upd_same]; simp
                              · have : d = b := by simp at hd; omega
                                subst this
                                rw [HF.upd_ne _ _ ed, HF.upd_same, if_neg (by simpa using ed), Heap.get_set h d d _ hbn, if_pos rfl]
                            have hNn : ∀ d, (h.n ≤ d ∧ d < ((h.set b .dead).push (.cells (Blk.of (olds ++ news)) ce)).n) ↔ d = h.n := fun d => by simp; omega
                            obtain ⟨l, hl, hB⟩ := hI.rel b _ hHb rfl
                            have hB0 := hB
                            obtain ⟨arr, ⟨fz, hfz, ha⟩, hsz, hc⟩ := hB
                            have hfz := hfz hro
                            have hrs : ∀ d ∈ rs, H d = h.get d := fun d hd => hr d (.inl (by simp [hd]))
                            have hrs' : ∀ d ∈ rs', H d = h.get d := fun d hd => hr d (.inl (by simp [hd]))
                            have h2 := run_appSrc (w := w) hf (hzre σ).2 (hzre σ).1 hrs hI
                            have h3 := run_firstV (w := w) hfo hrs' hI
                            have hk : σ.k b = l.slk := Ren.k_eq hl
                            by_cases hreal : sLen + n ≤ sCap + l.slk
                            · -- in place
                              have hcap : sCap + l.slk - (sLen + n) + (sLen + n) = sCap + l.slk := by omega
                              have hnl : (V.reL σ news).length = n * i.size := by simp [V.reL_eq, hlen]
                              have hmul : (sLen + n) * i.size ≤ (sCap + l.slk) * i.size := Nat.mul_le_mul_right _ hreal
                              have hstore := run_storeCells_fz (P := P) l.blk (l.sh + (off + sLen * i.size)) ce hfz (V.reL σ news) 0 arr w rfl ha (by rw [hnl, hsz, hcells]; simp only [Nat.add_mul] at hmul ⊢; omega) (fun v hv' => by
                                rw [V.reL_eq] at hv'
                                obtain ⟨y, hy, rfl⟩ := List.mem_map.1 hv'
                                exact one_re (allOne_mem hone y hy))
                              have hA : reA σ (b, off + sLen * i.size) = ⟨l.blk, l.sh + (off + sLen * i.size), none⟩ := by simp [reA, Ren.b_eq hl, Ren.s_eq hl]
                              have hle := Ren.le_upd hfn.1 ⟨l.blk, l.sh + off, sCap + l.slk - (sLen + n)⟩
                              have hrun := run_append_in (ty := o.type) (a := reA σ (b, off)) (sCap := sCap + l.slk) ht hi h2.2 hreal (by rw [addr_add, hA]; exact hstore)
                              have honO : ∀ v ∈ olds ++ news, v.on (σ.upd h.n ⟨l.blk, l.sh + off, sCap + l.slk - (sLen + n)⟩) := by
                                intro v hv'
                                rcases List.mem_append.1 hv' with hv' | hv'
                                · exact (V.on_le hle v ((V.onL_iff _ _).1 h3.1 v hv')).1
                                · exact (V.on_le hle v ((V.onL_iff _ _).1 h2.1 v hv')).1
                              refine ⟨_, _, _, _, _, whole he (by simpa [V.re, hk] using hrun), .inl rfl, ⟨on_new _ _ _, ?_⟩, goes_move hI ⟨_, hHb, rfl⟩ hl hfn.1 hfn.2 (l.sh + off) (sCap + l.slk - (sLen + n)) hNn (by simp) rfl (by simp) (fun k hk => setRow_other w _ k _ hk) rfl rfl rfl ?_, hnew⟩
                              · simp only [V.re, reA_new, Ren.k_eq (Ren.upd_same σ h.n _), Bool.false_eq_true, if_false]
                                simp [reA, Ren.b_eq hl, Ren.s_eq hl]; omega
                              · rw [setRow_heap w l.blk arr _ ce fz ha]
                                have hcut : l.sh + (off + sLen * i.size) + 0 + (V.reL σ news).length ≤ arr.size := by rw [hnl, hsz, hcells]; simp only [Nat.add_mul] at hmul ⊢; omega
                                refine ⟨_, ⟨fz, fun _ => hfz.of_size (by simp; omega), rfl⟩, ?_, fun j hj => ?_⟩
                                · simp [Blk.of, holen, hlen, hsz, hcells, V.reL_eq]
                                  have : (sCap + l.slk - (sLen + n)) * i.size = (sCap + l.slk) * i.size - (sLen + n) * i.size := Nat.sub_mul _ _ _
                                  rw [this]
                                  simp only [Nat.add_mul] at hmul ⊢
                                  omega
                                · have hj' : j < (olds ++ news).length := hj
                                  have hjl : j < sLen * i.size + n * i.size := by simpa [holen, hlen] using hj'
                                  rw [Blk.get_of _ j hj']
                                  have hgd : (olds ++ news).getD j undefV = (olds ++ news)[j] := by simp [List.getD, List.getElem?_eq_getElem hj']
                                  rw [hgd]
                                  have hon1 := honO _ (List.getElem_mem hj')
                                  refine ⟨hon1, ?_⟩
                                  dsimp only
                                  rw [List.getElem?_toArray, ← List.append_assoc, splice_get _ _ _ _ (by rw [hnl]; simp; rw [hsz, hcells]; simp only [Nat.add_mul] at hmul ⊢; omega), hnl]
                                  by_cases hjo : j < olds.length
                                  · rw [if_neg (by omega), List.getElem_append_left hjo]
                                    have hov := (V.onL_iff _ _).1 h3.1 _ (List.getElem_mem hjo)
                                    rw [(V.on_le hle _ hov).2, Array.getElem?_toList, Nat.add_assoc]
                                    -- the old cells are those of the block
                                    have hge : off + sLen * i.size ≤ c.size ∧ olds = c.gets off (sLen * i.size) := by
                                      unfold firstV at hfo
                                      simp only [hg] at hfo
                                      split at hfo
                                      · rename_i hb1; cases hfo; exact ⟨Nat.le_of_ble_eq_true hb1, rfl⟩
                                      · cases hfo
                                    have := Blk.gets_get c (sLen * i.size) off j (by omega)
                                    rw [← hge.2, List.getElem?_eq_getElem hjo, Option.some.injEq] at this
                                    rw [this]
                                    exact (hc (off + j) (by omega)).2
                                  · rw [if_pos (by omega), List.getElem_append_right (by omega)]
                                    have hjn : j - olds.length < news.length := by omega
                                    have hov := (V.onL_iff _ _).1 h2.1 _ (List.getElem_mem hjn)
                                    rw [(V.on_le hle _ hov).2, V.reL_eq, List.getElem?_map]
                                    rw [show l.sh + off + j - (l.sh + (off + sLen * i.size)) = j - olds.length by omega, List.getElem?_eq_getElem hjn]
                                    rfl
                            · -- a new array
                              have hI' : Inv P H σ w.drew := hI.heap rfl
                              have h2' := run_appSrc (w := w) (w' := w.drew) hf (hzre σ).2 (hzre σ).1 hrs hI'
                              have h3' := run_firstV (w := w.drew) hfo hrs' hI'
                              have hrun := run_append_out (ty := o.type) (s := some (reA σ (b, off))) (sCap := sCap + l.slk) ht hi (hzero σ) h2'.2 (by simpa [V.re, hk] using h3'.2) (by omega) h63 hfit
                              have hgc := grownCap_ge w (sLen + n) (sCap + l.slk) ce
                              have hle := Ren.le_upd hfn.1 ⟨w.drew.heap.size, 0, grownCap w (sLen + n) (sCap + l.slk) ce - (sLen + n)⟩
                              have honO : ∀ v ∈ olds ++ news, v.on σ := by
                                intro v hv'
                                rcases List.mem_append.1 hv' with hv' | hv'
                                · exact (V.onL_iff _ _).1 h3.1 v hv'
                                · exact (V.onL_iff _ _).1 h2.1 v hv'
                              have hre : V.reL (σ.upd h.n ⟨w.drew.heap.size, 0, grownCap w (sLen + n) (sCap + l.slk) ce - (sLen + n)⟩) (olds ++ news) = V.reL σ olds ++ V.reL σ news := by
                                rw [(V.onL_le hle _ ((V.onL_iff _ _).2 honO)).2]; simp [V.reL_eq]
                              have g := goes_kill_push (N := fun d => h.n ≤ d ∧ d < ((h.set b .dead).push (.cells (Blk.of (olds ++ news)) ce)).n) (W := (· ∈ [b])) hI' ⟨_, hHb, rfl⟩ hfn.1 hfn.2 (grownCap w (sLen + n) (sCap + l.slk) ce - (sLen + n)) hNn (by simp) rfl
                                (brel_app (zs := Builtin.zeroCells (z.re σ).cells (grownCap w (sLen + n) (sCap + l.slk) ce - (sLen + n))) (hzsz _ _) (fun v hv' => (V.on_le hle v (honO v hv')).1))
                              rw [hre] at g
                              have e1 : (V.reL σ olds ++ V.reL σ news).toArray = (V.reL σ olds).toArray ++ (V.reL σ news).toArray := by simp
                              rw [e1] at g
                              refine ⟨σ.upd h.n ⟨w.drew.heap.size, 0, grownCap w (sLen + n) (sCap + l.slk) ce - (sLen + n)⟩, _, HF.upd (HF.upd H b .dead) h.n (.cells (Blk.of (olds ++ news)) ce), _, _, whole he (by simpa [V.re, hk] using hrun), .inl rfl, ⟨on_new _ _ _, ?_⟩, { g with }, hnew⟩
                              simp only [V.re, reA_new, Ren.k_eq (Ren.upd_same σ h.n _), Bool.false_eq_true, if_false]
                              simp; omega
                          · cases hv
                        · cases hv
                      · cases hv
                    · cases hv
                  · rename_i hne
                    cases hv
                    refine PrimOk.make rfl (fun H σ w ρ he hr hI hn0 => ?_) (fun d hd => (List.mem_append.1 hd).elim (appSrcV_lt hf d) (firstV_lt hfo d))
                    have hrs : ∀ d ∈ rs, H d = h.get d := fun d hd => hr d (by simp [hd])
                    have hrs' : ∀ d ∈ rs', H d = h.get d := fun d hd => hr d (by simp [hd])
                    have hI' : Inv P H σ w.drew := hI.heap rfl
                    have h2' := run_appSrc (w := w) (w' := w.drew) hf (hzre σ).2 (hzre σ).1 hrs hI'
                    have h3' := run_firstV (w := w.drew) hfo hrs' hI'
                    have hle := Ren.le_upd hn0 ⟨w.heap.size, 0, grownCap w (sLen + n) sCap e - (sLen + n)⟩
                    have hgc := grownCap_ge w (sLen + n) sCap e
                    have hS : ∃ a, (V.slice base sLen sCap ex).re σ = .slice a sLen sCap := by
                      rcases base with _ | ⟨b, off⟩
                      · exact ⟨_, rfl⟩
                      · cases ex with
                        | true => exact ⟨some (reA σ (b, off)), by simp [V.re]⟩
                        | false => exact (hne b off rfl rfl).elim
                    obtain ⟨a, hS⟩ := hS
                    have hrun := run_append_out (ty := o.type) (s := a) ht hi (hzero σ) h2'.2 (by rw [← hS]; exact h3'.2) hroom h63 hfit
                    have honO : ∀ v ∈ olds ++ news, v.on σ := by
                      intro v hv'
                      rcases List.mem_append.1 hv' with hv' | hv'
                      · exact (V.onL_iff _ _).1 h3'.1 v hv'
                      · exact (V.onL_iff _ _).1 h2'.1 v hv'
                    have hre : (V.reL (σ.upd h.n ⟨w.heap.size, 0, grownCap w (sLen + n) sCap e - (sLen + n)⟩) (olds ++ news)).toArray = (V.reL σ olds).toArray ++ (V.reL σ news).toArray := by
                      rw [(V.onL_le hle _ ((V.onL_iff _ _).2 honO)).2]; simp [V.reL_eq]
                    refine ⟨w.drew, .cells ((V.reL σ olds).toArray ++ (V.reL σ news).toArray ++ Builtin.zeroCells (z.re σ).cells (grownCap w (sLen + n) sCap e - (sLen + n))) e, grownCap w (sLen + n) sCap e - (sLen + n), rfl, rfl, rfl, rfl, ?_, on_new _ _ _, ?_⟩
                    · rw [← hre]
                      exact brel_app (hzsz _ _) (fun v hv' => (V.on_le hle v (honO v hv')).1)
                    · rw [whole he (by rw [hS]; exact hrun)]
                      simp only [V.re, reA_new, Ren.k_eq (Ren.upd_same σ h.n _), Bool.false_eq_true, if_false]
                      congr 2
                      simp; omega
                · cases hv
              · cases hv
          · cases hv
        · cases hv
      · rename_i a
        split at hv
        · rename_i rs hf
          cases hv
          refine PrimOk.read (fun H σ w ρ he hr hI => ⟨trivial, ?_⟩) (appSrcV_lt hf)
          have h2 := run_appSrc (w := w) hf (hzre σ).2 (hzre σ).1 hr hI
          have ha := args_re ho he hx
          rw [call_builtin ho, ha.2]
          have hst : (storeCells (a.add (0 * i.size)) (V.reL σ []).toArray.toList).run P w = .ok () w := by simp [V.reL, storeCells]
          have hrun := run_append_in (ty := o.type) (a := a) (sLen := 0) (sCap := 0) ht hi h2.2 (Nat.le_refl _) hst
          have hrun' : (Builtin.append_ #[t, u] o.type #[.slice (some a) 0 0, x.re σ]).run P w = .ok (.slice (some a) 0 0) w := by simpa using hrun
          simp only [builtin, V.reL, V.re, Sem.run_bind, hrun', Result.andThen_ok, Sem.run_pure]
        · cases hv
      · cases hv
    · cases hv
  · cases hv

end Go.Vm
