/- The log: numbers' forms, heads. -/
import Derived.Test.YtakgjjbmniilhaaA
set_option linter.unusedVariables false
set_option linter.unusedSimpArgs false
set_option linter.unusedSimpArgs false
set_option maxRecDepth 100000
set_option linter.unusedVariables false
set_option linter.unusedSimpArgs false
namespace Go.Proofs.Ytakgjjbmniilhaa
open Go Go.Vm
variable {h : Heap} {R W : Set'}
theorem cv3_42 {M : MP} {R W : Set'} {tm : Tm} {h : Heap} {K : V → Heap → Prop} (x : Operand) : LOp M R W tm h (.convert 3 42 x) K = onO (evV tm x) fun a => onO (convV M.P 3 42 a h) fun r => allB R r.2 ∧ K r.1 h := by
  apply LOp_convert; decide
theorem cvd3_42 {P : Program} {tm : Tm} {h : Heap} {K : V → Heap → Set' → Set' → Prop} (x : Operand) : LOpD P tm h (.convert 3 42 x) K = onO (evV tm x) fun a => onO (convV P 3 42 a h) fun r => K r.1 h (fun x => x ∈ r.2) (fun x => x ∈ ([] : List Nat)) := by
  apply LOpD_convert; decide
theorem c3_42 (h : Heap) (n : Int) : convV Try.prog 3 42 (.int .i64 n) h = some (.int .u64 (IntKind.u64.wrap n), []) := by simp only [convV, Try.underlying3, Try.underlying42]
theorem cv3_5 {M : MP} {R W : Set'} {tm : Tm} {h : Heap} {K : V → Heap → Prop} (x : Operand) : LOp M R W tm h (.convert 3 5 x) K = onO (evV tm x) fun a => onO (convV M.P 3 5 a h) fun r => allB R r.2 ∧ K r.1 h := by
  apply LOp_convert; decide
theorem cvd3_5 {P : Program} {tm : Tm} {h : Heap} {K : V → Heap → Set' → Set' → Prop} (x : Operand) : LOpD P tm h (.convert 3 5 x) K = onO (evV tm x) fun a => onO (convV P 3 5 a h) fun r => K r.1 h (fun x => x ∈ r.2) (fun x => x ∈ ([] : List Nat)) := by
  apply LOpD_convert; decide
theorem c3_5 (h : Heap) (n : Int) : convV Try.prog 3 5 (.int .i64 n) h = some (.int .u8 (IntKind.u8.wrap n), []) := by simp only [convV, Try.underlying3, Try.underlying5]
theorem cv42_2 {M : MP} {R W : Set'} {tm : Tm} {h : Heap} {K : V → Heap → Prop} (x : Operand) : LOp M R W tm h (.convert 42 2 x) K = onO (evV tm x) fun a => onO (convV M.P 42 2 a h) fun r => allB R r.2 ∧ K r.1 h := by
  apply LOp_convert; decide
theorem cvd42_2 {P : Program} {tm : Tm} {h : Heap} {K : V → Heap → Set' → Set' → Prop} (x : Operand) : LOpD P tm h (.convert 42 2 x) K = onO (evV tm x) fun a => onO (convV P 42 2 a h) fun r => K r.1 h (fun x => x ∈ r.2) (fun x => x ∈ ([] : List Nat)) := by
  apply LOpD_convert; decide
theorem c42_2 (h : Heap) (n : Int) : convV Try.prog 42 2 (.int .u64 n) h = some (.int .i64 (IntKind.i64.wrap n), []) := by simp only [convV, Try.underlying42, Try.underlying2]
theorem cv42_3 {M : MP} {R W : Set'} {tm : Tm} {h : Heap} {K : V → Heap → Prop} (x : Operand) : LOp M R W tm h (.convert 42 3 x) K = onO (evV tm x) fun a => onO (convV M.P 42 3 a h) fun r => allB R r.2 ∧ K r.1 h := by
  apply LOp_convert; decide
theorem cvd42_3 {P : Program} {tm : Tm} {h : Heap} {K : V → Heap → Set' → Set' → Prop} (x : Operand) : LOpD P tm h (.convert 42 3 x) K = onO (evV tm x) fun a => onO (convV P 42 3 a h) fun r => K r.1 h (fun x => x ∈ r.2) (fun x => x ∈ ([] : List Nat)) := by
  apply LOpD_convert; decide
theorem c42_3 (h : Heap) (n : Int) : convV Try.prog 42 3 (.int .u64 n) h = some (.int .i64 (IntKind.i64.wrap n), []) := by simp only [convV, Try.underlying42, Try.underlying3]
theorem cv42_5 {M : MP} {R W : Set'} {tm : Tm} {h : Heap} {K : V → Heap → Prop} (x : Operand) : LOp M R W tm h (.convert 42 5 x) K = onO (evV tm x) fun a => onO (convV M.P 42 5 a h) fun r => allB R r.2 ∧ K r.1 h := by
  apply LOp_convert; decide
theorem cvd42_5 {P : Program} {tm : Tm} {h : Heap} {K : V → Heap → Set' → Set' → Prop} (x : Operand) : LOpD P tm h (.convert 42 5 x) K = onO (evV tm x) fun a => onO (convV P 42 5 a h) fun r => K r.1 h (fun x => x ∈ r.2) (fun x => x ∈ ([] : List Nat)) := by
  apply LOpD_convert; decide
theorem c42_5 (h : Heap) (n : Int) : convV Try.prog 42 5 (.int .u64 n) h = some (.int .u8 (IntKind.u8.wrap n), []) := by simp only [convV, Try.underlying42, Try.underlying5]
theorem cv5_3 {M : MP} {R W : Set'} {tm : Tm} {h : Heap} {K : V → Heap → Prop} (x : Operand) : LOp M R W tm h (.convert 5 3 x) K = onO (evV tm x) fun a => onO (convV M.P 5 3 a h) fun r => allB R r.2 ∧ K r.1 h := by
  apply LOp_convert; decide
theorem cvd5_3 {P : Program} {tm : Tm} {h : Heap} {K : V → Heap → Set' → Set' → Prop} (x : Operand) : LOpD P tm h (.convert 5 3 x) K = onO (evV tm x) fun a => onO (convV P 5 3 a h) fun r => K r.1 h (fun x => x ∈ r.2) (fun x => x ∈ ([] : List Nat)) := by
  apply LOpD_convert; decide
theorem c5_3 (h : Heap) (n : Int) : convV Try.prog 5 3 (.int .u8 n) h = some (.int .i64 (IntKind.i64.wrap n), []) := by simp only [convV, Try.underlying5, Try.underlying3]
theorem cv5_42 {M : MP} {R W : Set'} {tm : Tm} {h : Heap} {K : V → Heap → Prop} (x : Operand) : LOp M R W tm h (.convert 5 42 x) K = onO (evV tm x) fun a => onO (convV M.P 5 42 a h) fun r => allB R r.2 ∧ K r.1 h := by
  apply LOp_convert; decide
theorem cvd5_42 {P : Program} {tm : Tm} {h : Heap} {K : V → Heap → Set' → Set' → Prop} (x : Operand) : LOpD P tm h (.convert 5 42 x) K = onO (evV tm x) fun a => onO (convV P 5 42 a h) fun r => K r.1 h (fun x => x ∈ r.2) (fun x => x ∈ ([] : List Nat)) := by
  apply LOpD_convert; decide
theorem c5_42 (h : Heap) (n : Int) : convV Try.prog 5 42 (.int .u8 n) h = some (.int .u64 (IntKind.u64.wrap n), []) := by simp only [convV, Try.underlying5, Try.underlying42]
attribute [go_sem ↓] cv3_42 cvd3_42 cv3_5 cvd3_5 cv42_2 cvd42_2 cv42_3 cvd42_3 cv42_5 cvd42_5 cv5_3 cvd5_3 cv5_42 cvd5_42
attribute [go_sem] c3_42 c3_5 c42_2 c42_3 c42_5 c5_3 c5_42

def BufC (cap nb n2 : Nat) (g : Heap) (v : V) (l : List V) : Prop := (l.length ≤ cap ∧ ∃ c, v = .slice (some (nb, 0)) l.length cap true ∧ g.get nb = some (.cells c 5) ∧ c.size = cap ∧ c.ro = false ∧ c.gets 0 l.length = l)
theorem gets_putA_app {c : Blk} {l news : List V} (hg : c.gets 0 l.length = l) (hs : l.length + news.length ≤ c.size) : (c.putA (0 + l.length * 1) news).gets 0 (l ++ news).length = l ++ news := by
  refine List.ext_getElem? fun j => ?_
  rw [List.length_append]
  by_cases hj : j < l.length + news.length
  · rw [Blk.gets_get _ _ _ _ hj, Blk.get_putA _ _ _ _ (by omega)]
    by_cases h1 : j < l.length
    · rw [if_neg (by omega), List.getElem?_append_left h1]
      have := Blk.gets_get c l.length 0 j h1
      rw [hg] at this
      exact this.symm
    · rw [if_pos (by omega), List.getElem?_append_right (by omega), List.getD_eq_getElem?_getD, show 0 + j - (0 + l.length * 1) = j - l.length by omega, List.getElem?_eq_getElem (by omega)]; rfl
  · rw [List.getElem?_eq_none (by rw [Blk.length_gets]; omega), List.getElem?_eq_none (by rw [List.length_append]; omega)]
theorem app_buf {cap nb n2 : Nat} {v x : V} {l news : List V} {rs : List Nat} (hb : BufC cap nb n2 h v l) (hx : lenOfV x = some news.length) (hf : firstV h 1 news.length x = some (news, rs)) (h1 : allOne news = true) (hc : l.length + news.length ≤ cap) :
    ∃ v' h' r w, appE 5 1 1 v x h = some ⟨v', h', r, w⟩ ∧ BufC cap nb n2 h' v' (l ++ news) ∧ h'.n = h.n ∧ (∀ b, b ≠ nb → h'.get b = h.get b) ∧ ∀ b ∈ w, b = nb := by
  obtain ⟨hl, c, rfl, hb, hs, hr, hg⟩ := hb
  have hlt := Heap.lt_of_get hb
  simp only [appE, hx, hf]
  rw [w_beq_t (show news.length = news.length * 1 by omega), w_ble_t hc]
  simp only [appendIn, hb, h1, hr]
  rw [w_ble_t (by omega)]
  exact ⟨_, _, _, _, rfl, ⟨by rw [List.length_append]; exact hc, _, by rw [List.length_append], by rw [w_set_eq hlt rfl], by rw [Blk.size_putA]; exact hs, by rw [Blk.ro_putA]; exact hr, gets_putA_app hg (by omega)⟩, by simp, fun b hne => by rw [w_set_ne hlt hne], fun b hb' => by simpa using hb'⟩
theorem BufC.lr {cap nb n2 : Nat} {g : Heap} {v : V} {l : List V} (hb : BufC cap nb n2 g v l) : LR g (fun b => b = nb) v l := by
  obtain ⟨hl, c, rfl, hb, hs, hr, hg⟩ := hb
  exact .inr ⟨nb, 0, cap, true, c, 5, rfl, rfl, hb, by omega, hg⟩
theorem BufC.old {cap nb n2 : Nat} {g g' : Heap} {v : V} {l : List V} (hb : BufC cap nb n2 g v l) (hk : ∀ b, b < g.n → g'.get b = g.get b) : BufC cap nb n2 g' v l := by
  obtain ⟨hl, c, rfl, hb, hs⟩ := hb
  exact ⟨hl, c, rfl, by rw [hk _ (Heap.lt_of_get hb)]; exact hb, hs⟩
theorem wrap8 (n : Nat) : IntKind.u8.wrap (n : Int) = ((n % 256 : Nat) : Int) := by
  simp only [IntKind.wrap, IntKind.signed, IntKind.bits]; simp
theorem ofInt8 (n : Nat) : BitVec.ofInt 8 (n : Int) = BitVec.ofNat 8 n := BitVec.ofInt_natCast 8 n
theorem or8 (w : BitVec 8) : (w ||| 128#8).toNat = w.toNat % 128 + 128 := by revert w; decide
theorem and8 (w : BitVec 8) : (w &&& 127#8).toNat = w.toNat % 128 := by revert w; decide
theorem or128 (n : Nat) : intBin .or .u8 (IntKind.u8.wrap (n : Int)) 128 = some (.int .u8 (((n % 128 + 128) % 256 : Nat) : Int)) := by
  rw [wrap8]
  show some (V.int .u8 (IntKind.u8.wrap ((BitVec.ofInt 8 ((n % 256 : Nat) : Int) ||| BitVec.ofInt 8 128).toNat : Int))) = _
  rw [ofInt8, show BitVec.ofInt 8 128 = 128#8 from rfl, or8, BitVec.toNat_ofNat, wrap8]
  congr 3; omega
theorem and127 (n : Nat) (hn : n < 256) : intBin .and .u8 (n : Int) 127 = some (.int .u8 ((n % 128 : Nat) : Int)) := by
  show some (V.int .u8 (IntKind.u8.wrap ((BitVec.ofInt 8 (n : Int) &&& BitVec.ofInt 8 127).toNat : Int))) = _
  rw [ofInt8, show BitVec.ofInt 8 127 = 127#8 from rfl, and8, BitVec.toNat_ofNat, wrap8]
  congr 3; omega
theorem wrap64 {n : Nat} (h : n < 18446744073709551616) : IntKind.u64.wrap (n : Int) = n := IntWalk.u64_in _ (by omega)
theorem shr7 (n : Nat) : intShift .shr .u64 (n : Int) 7 = some (.int .u64 ((n / 128 : Nat) : Int)) := by
  have h : Int.fdiv (n : Int) 128 = ((n / 128 : Nat) : Int) := by
    rw [Int.fdiv_eq_ediv_of_nonneg _ (by omega)]; rfl
  unfold intShift
  simp only [show ¬ ((7 : Int) < 0) by omega, if_false]
  exact congrArg (fun x => some (V.int .u64 x)) h
theorem or64 (a b : Nat) (ha : a < 18446744073709551616) (hb : b < 18446744073709551616) : intBin .or .u64 (a : Int) (b : Int) = some (.int .u64 ((a ||| b : Nat) : Int)) := by
  show some (V.int .u64 (IntKind.u64.wrap ((BitVec.ofInt 64 (a : Int) ||| BitVec.ofInt 64 (b : Int)).toNat : Int))) = _
  rw [BitVec.ofInt_natCast, BitVec.ofInt_natCast, BitVec.toNat_or, BitVec.toNat_ofNat, BitVec.toNat_ofNat, Nat.mod_eq_of_lt ha, Nat.mod_eq_of_lt hb, wrap64 (Nat.or_lt_two_pow (n := 64) ha hb)]
theorem shl64 (a s : Nat) (hs : s < 64) (h : a * 2 ^ s < 18446744073709551616) : intShift .shl .u64 (a : Int) (s : Int) = some (.int .u64 ((a * 2 ^ s : Nat) : Int)) := by
  unfold intShift
  simp only [show ¬ ((s : Int) < 0) by omega, if_false]
  rw [show min (s : Int).toNat IntKind.u64.bits = s by rw [show IntKind.u64.bits = 64 from rfl]; omega]
  have := wrap64 h
  rw [show ((a : Int) * 2 ^ s) = ((a * 2 ^ s : Nat) : Int) by simp, this]
theorem or_add {a b s : Nat} (ha : a < 2 ^ s) : a ||| b * 2 ^ s = a + b * 2 ^ s := by
  have := Nat.shiftLeft_add_eq_or_of_lt ha b
  rw [Nat.shiftLeft_eq] at this
  rw [Nat.or_comm, ← this, Nat.add_comm]
theorem first_lr' {S : Set'} {v : V} {l : List V} (hv : LR h S v l) : lenOfV v = some l.length ∧ ∃ rs, firstV h 1 l.length v = some (l, rs) := by
  obtain ⟨a, rs, b, _⟩ := first_lr hv
  exact ⟨a, rs, b⟩
set_option maxHeartbeats 4000000 in
theorem number_loop {Q : Ex → Fr → Heap → Prop} {t : List It} {g0 : Heap} {nb : Nat} {L : List V} (hW : ∀ b, nb ≤ b → W b) (hR : ∀ b, R b) (hnb : nb < g0.n)
    (hk : ∀ tr g v l m, tr.get 3 = some v → tr.get 0 = some (.int .u64 ((m : Nat) : Int)) → BufC 10 nb nb g v l → l.length ≤ 9 → Byt l → l ++ [bV m] = L → g0.n ≤ g.n → (∀ b, b < g0.n → b ≠ nb → g.get b = g0.get b) → resume (Try.prog : MP) R W none Q t (.exit 0) ⟨⟨20, tr⟩, []⟩ g)
    {tr : Tr V} {n : Nat} {v : V} (hn : n < 18446744073709551616) (hL : leb n = L) (t0 : tr.get 0 = some (.int .u64 (n : Int))) (t3 : tr.get 3 = some v) (hv : BufC 10 nb nb g0 v []) : GLoop (Try.prog : MP) R W none Q ir93_l0 t ⟨⟨20, tr⟩, []⟩ g0 := by
  refine GLoop.inv hm (fun k f g => f.mks = [] ∧ f.tm.n = 20 ∧ ∃ (v : V) (l : List V) (m : Nat), f.tm.get 3 = some v ∧ f.tm.get 0 = some (.int .u64 (m : Int)) ∧ BufC 10 nb nb g v l ∧ l.length + k = 9 ∧ m < 2 ^ (7 * k + 1) ∧ Byt l ∧ l ++ lebB k m = L ∧ g0.n ≤ g.n ∧ ∀ b, b < g0.n → b ≠ nb → g.get b = g0.get b) 9 ?_ ?_
  · exact ⟨rfl, rfl, v, [], n, t3, t0, hv, rfl, hn, Byt.nil, hL, Nat.le_refl _, fun _ _ _ => rfl⟩
  clear t0 t3 hv hn hL
  clear tr v n
  rintro k ⟨⟨n', tr⟩, mks⟩ g ⟨hmk, hn', v, l, m, t3, t0, hb, hlk, hmm, hby, hl, hgn, hold⟩
  simp only [Tm.get_mk] at hmk hn' t0 t3
  subst hmk hn'
  by_cases h127 : m ≤ 127
  · have hc : ¬ (127 : Int) < (m : Int) := by omega
    simp -implicitDefEqProofs (disch := (first | omega | (simp -implicitDefEqProofs only [szs, ne_eq] <;> omega) | fail)) only [go_sem, seval, ↓reduceIte, reduceCtorEq, ir93_l0, t0, t3, hc]
    refine hk _ g v l m (by simp -implicitDefEqProofs (disch := (first | omega | (simp -implicitDefEqProofs only [szs, ne_eq] <;> omega) | fail)) only [go_sem, seval, ↓reduceIte, reduceCtorEq, t3]) (by simp -implicitDefEqProofs (disch := (first | omega | (simp -implicitDefEqProofs only [szs, ne_eq] <;> omega) | fail)) only [go_sem, seval, ↓reduceIte, reduceCtorEq, t0]) hb (by omega) hby ?_ hgn hold
    rw [← hl]
    cases k with
    | zero => rfl
    | succ k => simp only [lebB, if_pos h127]
  · have hc : (127 : Int) < (m : Int) := by omega
    cases k with
    | zero => simp at hmm; omega
    | succ k =>
      have hpow : 2 ^ (7 * (k + 1) + 1) = 2 ^ (7 * k + 1) * 128 := by rw [show 7 * (k + 1) + 1 = 7 * k + 1 + 7 by omega, Nat.pow_add]
      simp only [lebB, if_neg h127] at hl
      obtain ⟨v', g', r', w', hap, hb', hn', hk', hw'⟩ := app_buf (news := [.int .u8 (((m % 128 + 128) % 256 : Nat) : Int)]) (h := g.push (.cells (Blk.of [.int .u8 (((m % 128 + 128) % 256 : Nat) : Int)]) 5)) (x := .slice (some (g.n, 0)) 1 1 true) (hb.old fun b hb => w_push_ne (by omega) _) rfl (first_one (w_push_eq rfl _)) rfl (by simp only [List.length_cons, List.length_nil]; omega)
      simp only [Heap.n_push] at hn'
      simp -implicitDefEqProofs (disch := (first | omega | (simp -implicitDefEqProofs only [szs, ne_eq] <;> omega) | fail)) only [go_sem, seval, ↓reduceIte, reduceCtorEq, ir93_l0, t0, t3, hc, ↓or128, ↓shr7, appendV_of ap_22, hap]
      refine ⟨allB_of fun b _ => hR b, allB_of fun b hb => hW b (by rw [hw' b hb]; exact Nat.le_refl _), k, by omega, v', l ++ [bV (m % 128 + 128)], m / 128, rfl, rfl, hb', by rw [List.length_append]; simp only [List.length_cons, List.length_nil]; omega, ?_, hby.app (Byt.cons (byt_bV _) Byt.nil), by rw [List.append_assoc]; exact hl, by omega, fun b h1 h2 => ?_⟩
      · rw [hpow] at hmm
        exact Nat.div_lt_of_lt_mul (by rw [Nat.mul_comm]; exact hmm)
      · rw [hk' b h2, w_push_ne (by omega)]
        exact hold b h1 h2
set_option maxHeartbeats 4000000 in
theorem number_ok {n : Nat} (hn : n < 18446744073709551616) (hR : ∀ b, R b) : SF Try.prog 93 [.int .u64 (n : Int)] h R W fun r g => LR g (fun b => h.n ≤ b) r (leb n) ∧ ∀ b, b < h.n → g.get b = h.get b := by
  refine SF.go hm Try.func93 ir93_eq ?_
  simp -implicitDefEqProofs (disch := (first | omega | (simp -implicitDefEqProofs only [szs, ne_eq] <;> omega) | fail)) only [go_sem, seval, ↓reduceIte, reduceCtorEq, ir93]
  refine number_loop (nb := h.n) (L := leb n) (fun b hb => .inl hb) (fun b => .inr (hR b)) (by simp) ?_ hn rfl (by simp -implicitDefEqProofs (disch := (first | omega | (simp -implicitDefEqProofs only [szs, ne_eq] <;> omega) | fail)) only [go_sem, seval, ↓reduceIte, reduceCtorEq]) (by simp -implicitDefEqProofs (disch := (first | omega | (simp -implicitDefEqProofs only [szs, ne_eq] <;> omega) | fail)) only [go_sem, seval, ↓reduceIte, reduceCtorEq]) ⟨by simp, _, rfl, w_push_eq rfl _, rfl, rfl, rfl⟩
  intro tr g v l m t3 t0 hb hl hby hL hgn hold
  simp only [Heap.n_push] at hgn hold
  obtain ⟨v', g', r', w', hap, hb', hn', hk', hw'⟩ := app_buf (news := [.int .u8 ((m % 256 : Nat) : Int)]) (h := g.push (.cells (Blk.of [.int .u8 ((m % 256 : Nat) : Int)]) 5)) (x := .slice (some (g.n, 0)) 1 1 true) (hb.old fun b hb => w_push_ne (by omega) _) rfl (first_one (w_push_eq rfl _)) rfl (by simp only [List.length_cons, List.length_nil]; omega)
  simp -implicitDefEqProofs (disch := (first | omega | (simp -implicitDefEqProofs only [szs, ne_eq] <;> omega) | fail)) only [go_sem, seval, ↓reduceIte, reduceCtorEq, t0, t3, wrap8, appendV_of ap_22, hap]
  refine ⟨allB_of fun b _ => .inr (hR b), allB_of fun b hb => .inl (by rw [hw' b hb]; exact Nat.le_refl _), ?_, fun b hb => ?_⟩
  · rw [← hL]
    exact hb'.lr.mono fun b _ h => by omega
  · rw [hk' b (by omega), w_push_ne (by omega), hold b (by omega) (by omega), w_push_ne (by omega)]
def PLs (h : Heap) (R : Set') (v : V) (ll : List (List V)) : Prop := ∃ vs, LR h R v vs ∧ vs.length = ll.length ∧ ∀ i l, ll[i]? = some l → LR h R (vs.getD i undefV) l
theorem PLs.same {h h' : Heap} {R : Set'} {v : V} {ll : List (List V)} (hp : PLs h R v ll) (hk : ∀ b, R b → b < h.n → h'.get b = h.get b) : PLs h' R v ll := by
  obtain ⟨vs, v1, v2, v3⟩ := hp
  exact ⟨vs, v1.same hk, v2, fun i l e => (v3 i l e).same hk⟩
theorem PLs.old {h h' : Heap} {R : Set'} {v : V} {ll : List (List V)} (hp : PLs h R v ll) (hk : ∀ b, b < h.n → h'.get b = h.get b) : PLs h' R v ll := hp.same fun b _ hb => hk b hb
theorem PLs.mono {h : Heap} {R R' : Set'} {v : V} {ll : List (List V)} (hp : PLs h R v ll) (hk : ∀ b, b < h.n → R b → R' b) : PLs h R' v ll := by
  obtain ⟨vs, v1, v2, v3⟩ := hp
  exact ⟨vs, v1.mono hk, v2, fun i l e => (v3 i l e).mono hk⟩
theorem PLs.nil (h : Heap) (R : Set') : PLs h R (.slice none 0 0 true) [] := ⟨[], .inl ⟨rfl, .inl rfl⟩, rfl, fun i l e => by simp at e⟩
theorem flatten_snoc {ll : List (List V)} {i : Nat} {l : List V} (h : ll[i]? = some l) : (ll.take (i + 1)).flatten = (ll.take i).flatten ++ l := by
  rw [List.take_add_one, h]; simp
theorem flatten_take_le (ll : List (List V)) (i : Nat) : (ll.take i).flatten.length ≤ ll.flatten.length := by
  have := congrArg (fun x => x.flatten.length) (List.take_append_drop i ll)
  simp only [List.flatten_append, List.length_append] at this
  omega
set_option maxHeartbeats 4000000 in
theorem join_ok {S : Set'} {v : V} {ll : List (List V)} (hv : PLs h S v ll) (hR : ∀ b, R b) (hl : ll.length ≤ 1000) (hf : ll.flatten.length ≤ 100000) (hb : ∀ l ∈ ll, Byt l) : SF Try.prog 72 [v] h R W fun r g => Own h.n g r ll.flatten 5 ∧ ∀ b, b < h.n → g.get b = h.get b := by
  obtain ⟨vs, hv, hvl, hvs⟩ := hv
  have hlen := hv.lenV Try.underlying45
  rw [hvl] at hlen
  refine SF.go hm Try.func72 ir72_eq ?_
  simp -implicitDefEqProofs (disch := (first | omega | (simp -implicitDefEqProofs only [szs, ne_eq] <;> omega) | fail)) only [go_sem, seval, ↓reduceIte, reduceCtorEq, ir72, ↓hlen]
  refine GLoop.inv hm (fun k f g => f.mks = [] ∧ f.tm.n = 18 ∧ f.tm.get 7 = some v ∧ f.tm.get 8 = some (.int .i64 (ll.length : Int)) ∧ ∃ (i : Nat) (w : V), i + k = ll.length ∧ f.tm.get 9 = some (.int .i64 (i : Int)) ∧ f.tm.get 3 = some w ∧ Own h.n g w (ll.take i).flatten 5 ∧ h.n ≤ g.n ∧ ∀ b, b < h.n → g.get b = h.get b) ll.length ?_ ?_
  · exact ⟨rfl, rfl, by simp -implicitDefEqProofs (disch := (first | omega | (simp -implicitDefEqProofs only [szs, ne_eq] <;> omega) | fail)) only [go_sem, seval, ↓reduceIte, reduceCtorEq], by simp -implicitDefEqProofs (disch := (first | omega | (simp -implicitDefEqProofs only [szs, ne_eq] <;> omega) | fail)) only [go_sem, seval, ↓reduceIte, reduceCtorEq], 0, _, by omega, by simp -implicitDefEqProofs (disch := (first | omega | (simp -implicitDefEqProofs only [szs, ne_eq] <;> omega) | fail)) only [go_sem, Nat.reduceAdd, Nat.reduceSub, Nat.reduceMul, Nat.reduceLT, Nat.reduceMod, Nat.reduceDiv, Nat.reduceEqDiff, Nat.reduceBEq, Nat.reduceLeDiff, ↓reduceIte, reduceCtorEq, Int.reduceAdd, Int.reduceSub, Int.reduceLT, Int.reduceLE, Int.reduceBEq, Int.reduceEq, Int.reduceToNat]; rfl, by simp -implicitDefEqProofs (disch := (first | omega | (simp -implicitDefEqProofs only [szs, ne_eq] <;> omega) | fail)) only [go_sem, seval, ↓reduceIte, reduceCtorEq], .inl ⟨rfl, .inr ⟨h.n, _, rfl, Nat.le_refl _, w_push_eq rfl _, rfl⟩⟩, by simp, fun b hb => w_push_ne (by omega) _⟩
  rintro k ⟨⟨n', tr⟩, mks⟩ g ⟨hmk, hn', t7, t8, i, w, hik, t9, t3, ho, hgn, hold⟩
  simp only [Tm.get_mk] at hmk hn' t7 t8 t9 t3
  subst hmk hn'
  by_cases hi : i < ll.length
  · have hc : (i : Int) < (ll.length : Int) := by omega
    obtain ⟨l, hli⟩ : ∃ l, ll[i]? = some l := ⟨_, List.getElem?_eq_getElem hi⟩
    have hvi := hvs i l hli
    obtain ⟨b, o, cap, ex, c, ce, e, hSb, hcb, hcs, hcg⟩ := (hv.old hold).get (show i < vs.length by omega)
    rw [hvl] at e hcs
    subst e
    have hRb := hR b
    have hi0 : (0 : Int) ≤ (i : Int) := by omega
    have hone := hvi.one
    have hcv := hvi.cells
    obtain ⟨hx, rs, hfi, _⟩ := first_lr (hvi.old hold)
    have hmem : l ∈ ll := List.mem_of_getElem? hli
    have hle := flatten_take_le ll (i + 1)
    rw [flatten_snoc hli, List.length_append] at hle
    obtain ⟨v', g', r', w', hap, ho', hn', hk', hw', _⟩ := app_own (bytes := 1) ho hgn hx hfi (hb l hmem).allOne (by omega) (by omega)
    rw [← flatten_snoc hli] at ho'
    have hr : allB (fun b => h.n ≤ b ∨ R b) r' := allB_of fun b _ => .inr (hR b)
    have hw : allB (fun b => h.n ≤ b ∨ W b) w' := allB_of fun b hb => .inl (hw' b hb)
    simp -implicitDefEqProofs (disch := (first | omega | (simp -implicitDefEqProofs only [szs, ne_eq] <;> omega) | fail)) only [go_sem, seval, ↓reduceIte, reduceCtorEq, ir72_l0, t7, t8, t9, t3, hc, hi0, hcb, hRb, hcg, ↓hone, appendV_of ap_22, hap]
    exact ⟨hr, hw, k - 1, by omega, i + 1, v', by omega, by simp, rfl, ho', by omega, fun b hb => by rw [hk' b hb, hold b hb]⟩
  · have hc : ¬ (i : Int) < (ll.length : Int) := by omega
    obtain rfl : i = ll.length := by omega
    rw [List.take_length] at ho
    simp -implicitDefEqProofs (disch := (first | omega | (simp -implicitDefEqProofs only [szs, ne_eq] <;> omega) | fail)) only [go_sem, seval, ↓reduceIte, reduceCtorEq, ir72_l0, t7, t8, t9, t3, hc]
    exact ⟨ho, hold⟩
end Go.Proofs.Ytakgjjbmniilhaa
