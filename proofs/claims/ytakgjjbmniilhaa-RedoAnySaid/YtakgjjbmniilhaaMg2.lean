/- The log: numbers' forms, heads. -/
import Derived.Test.YtakgjjbmniilhaaMg1
import Derived.Test.YtakgjjbmniilhaaDC
set_option linter.unusedVariables false
set_option maxRecDepth 100000
set_option linter.unusedVariables false
namespace Go.Proofs.Ytakgjjbmniilhaa
open Go Go.Vm
variable {h : Heap} {R W : Set'}
theorem cv3_42 {M : MP} {R W : Set'} {tm : Tm} {h : Heap} {K : V → Heap → Prop} (x : Operand) : LOp M R W tm h (.convert 3 42 x) K = onO (evV tm x) fun a => onO (kS M.P 3 42 a h) fun r => allB R r.2 ∧ K r.1 h := by
 apply xQ; decide
theorem cvd3_42 {P : Program} {tm : Tm} {h : Heap} {K : V → Heap → Set' → Set' → Prop} (x : Operand) : qV P tm h (.convert 3 42 x) K = onO (evV tm x) fun a => onO (kS P 3 42 a h) fun r => K r.1 h (fun x => x ∈ r.2) (fun x => x ∈ ([] : List Nat)) := by
 apply yX; decide
theorem c3_42 (h : Heap) (n : Int) : kS Try.prog 3 42 (.int .i64 n) h = some (.int .u64 (IntKind.u64.wrap n), []) := by simp only [kS, Try.underlying3, Try.underlying42]
theorem cv3_5 {M : MP} {R W : Set'} {tm : Tm} {h : Heap} {K : V → Heap → Prop} (x : Operand) : LOp M R W tm h (.convert 3 5 x) K = onO (evV tm x) fun a => onO (kS M.P 3 5 a h) fun r => allB R r.2 ∧ K r.1 h := by
 apply xQ; decide
theorem cvd3_5 {P : Program} {tm : Tm} {h : Heap} {K : V → Heap → Set' → Set' → Prop} (x : Operand) : qV P tm h (.convert 3 5 x) K = onO (evV tm x) fun a => onO (kS P 3 5 a h) fun r => K r.1 h (fun x => x ∈ r.2) (fun x => x ∈ ([] : List Nat)) := by
 apply yX; decide
theorem c3_5 (h : Heap) (n : Int) : kS Try.prog 3 5 (.int .i64 n) h = some (.int .u8 (IntKind.u8.wrap n), []) := by simp only [kS, Try.underlying3, Try.underlying5]
theorem cv42_2 {M : MP} {R W : Set'} {tm : Tm} {h : Heap} {K : V → Heap → Prop} (x : Operand) : LOp M R W tm h (.convert 42 2 x) K = onO (evV tm x) fun a => onO (kS M.P 42 2 a h) fun r => allB R r.2 ∧ K r.1 h := by
 apply xQ; decide
theorem cvd42_2 {P : Program} {tm : Tm} {h : Heap} {K : V → Heap → Set' → Set' → Prop} (x : Operand) : qV P tm h (.convert 42 2 x) K = onO (evV tm x) fun a => onO (kS P 42 2 a h) fun r => K r.1 h (fun x => x ∈ r.2) (fun x => x ∈ ([] : List Nat)) := by
 apply yX; decide
theorem c42_2 (h : Heap) (n : Int) : kS Try.prog 42 2 (.int .u64 n) h = some (.int .i64 (IntKind.i64.wrap n), []) := by simp only [kS, Try.underlying42, Try.underlying2]
theorem cv42_3 {M : MP} {R W : Set'} {tm : Tm} {h : Heap} {K : V → Heap → Prop} (x : Operand) : LOp M R W tm h (.convert 42 3 x) K = onO (evV tm x) fun a => onO (kS M.P 42 3 a h) fun r => allB R r.2 ∧ K r.1 h := by
 apply xQ; decide
theorem cvd42_3 {P : Program} {tm : Tm} {h : Heap} {K : V → Heap → Set' → Set' → Prop} (x : Operand) : qV P tm h (.convert 42 3 x) K = onO (evV tm x) fun a => onO (kS P 42 3 a h) fun r => K r.1 h (fun x => x ∈ r.2) (fun x => x ∈ ([] : List Nat)) := by
 apply yX; decide
theorem c42_3 (h : Heap) (n : Int) : kS Try.prog 42 3 (.int .u64 n) h = some (.int .i64 (IntKind.i64.wrap n), []) := by simp only [kS, Try.underlying42, Try.underlying3]
theorem cv42_5 {M : MP} {R W : Set'} {tm : Tm} {h : Heap} {K : V → Heap → Prop} (x : Operand) : LOp M R W tm h (.convert 42 5 x) K = onO (evV tm x) fun a => onO (kS M.P 42 5 a h) fun r => allB R r.2 ∧ K r.1 h := by
 apply xQ; decide
theorem c42_5 (h : Heap) (n : Int) : kS Try.prog 42 5 (.int .u64 n) h = some (.int .u8 (IntKind.u8.wrap n), []) := by simp only [kS, Try.underlying42, Try.underlying5]
theorem cv5_3 {M : MP} {R W : Set'} {tm : Tm} {h : Heap} {K : V → Heap → Prop} (x : Operand) : LOp M R W tm h (.convert 5 3 x) K = onO (evV tm x) fun a => onO (kS M.P 5 3 a h) fun r => allB R r.2 ∧ K r.1 h := by
 apply xQ; decide
theorem c5_3 (h : Heap) (n : Int) : kS Try.prog 5 3 (.int .u8 n) h = some (.int .i64 (IntKind.i64.wrap n), []) := by simp only [kS, Try.underlying5, Try.underlying3]
theorem cv5_42 {M : MP} {R W : Set'} {tm : Tm} {h : Heap} {K : V → Heap → Prop} (x : Operand) : LOp M R W tm h (.convert 5 42 x) K = onO (evV tm x) fun a => onO (kS M.P 5 42 a h) fun r => allB R r.2 ∧ K r.1 h := by
 apply xQ; decide
theorem c5_42 (h : Heap) (n : Int) : kS Try.prog 5 42 (.int .u8 n) h = some (.int .u64 (IntKind.u64.wrap n), []) := by simp only [kS, Try.underlying5, Try.underlying42]
attribute [go_sem ↓] cv3_42 cvd3_42 cv3_5 cvd3_5 cv42_2 cvd42_2 cv42_3 cvd42_3 cv42_5 cv5_3 cv5_42
attribute [go_sem] c3_42 c3_5 c42_2 c42_3 c42_5 c5_3 c5_42

def BufC (cap nb n2 : Nat) (g : Heap) (v : V) (l : List V) : Prop := (l.length ≤ cap ∧ ∃ c, v = .slice (some (nb, 0)) l.length cap true ∧ g.get nb = some (.cells c 5) ∧ c.size = cap ∧ c.ro = false ∧ c.gets 0 l.length = l)
theorem gets_putA_app {c : Blk} {l news : List V} (hg : c.gets 0 l.length = l) (hs : l.length + news.length ≤ c.size) : (c.jL (0 + l.length * 1) news).gets 0 (l ++ news).length = l ++ news := by
 refine List.ext_getElem? fun j => ?_
 rw [List.length_append]
 by_cases hj : j < l.length + news.length
 ·rw [Blk.qM _ _ _ _ hj, Blk.get_putA _ _ _ _ (by omega)]
  by_cases h1 : j < l.length
  ·rw [if_neg (by omega), List.getElem?_append_left h1]
   have := Blk.qM c l.length 0 j h1
   rw [hg] at this
   exact this.symm
  ·rw [if_pos (by omega), List.getElem?_append_right (by omega), List.getD_eq_getElem?_getD, show 0 + j - (0 + l.length * 1) = j - l.length by omega, List.getElem?_eq_getElem (by omega)]; rfl
 ·rw [List.getElem?_eq_none (by rw [Blk.qJ]; omega), List.getElem?_eq_none (by rw [List.length_append]; omega)]
theorem app_buf {cap nb n2 : Nat} {v x : V} {l news : List V} {rs : List Nat} (hb : BufC cap nb n2 h v l) (hx : xH x = some news.length) (hf : kT h 1 news.length x = some (news, rs)) (h1 : allOne news = true) (hc : l.length + news.length ≤ cap) :
  ∃ v' h' r w, appE 5 1 1 v x h = some ⟨v', h', r, w⟩ ∧ BufC cap nb n2 h' v' (l ++ news) ∧ h'.n = h.n ∧ (∀ b, b ≠ nb → h'.get b = h.get b) ∧ ∀ b ∈ w, b = nb := by
 obtain ⟨hl, c, rfl, hb, hs, hr, hg⟩ := hb
 have hlt := Heap.lt_of_get hb
 simp only [appE, hx, hf]
 rw [zL (show news.length = news.length * 1 by omega), qW hc]
 simp only [xY, hb, h1, hr]
 rw [qW (by omega)]
 exact ⟨_, _, _, _, rfl, ⟨by rw [List.length_append]; exact hc, _, by rw [List.length_append], by rw [qF hlt rfl], by rw [Blk.jR]; exact hs, by rw [Blk.yU]; exact hr, gets_putA_app hg (by omega)⟩, by simp, fun b hne => by rw [qB hlt hne], fun b hb' => by simpa using hb'⟩
theorem BufC.lr {cap nb n2 : Nat} {g : Heap} {v : V} {l : List V} (hb : BufC cap nb n2 g v l) : LR g (fun b => b = nb) v l := by
 obtain ⟨hl, c, rfl, hb, hs, hr, hg⟩ := hb
 exact .inr ⟨nb, 0, cap, true, c, 5, rfl, rfl, hb, by omega, hg⟩
theorem BufC.old {cap nb n2 : Nat} {g g' : Heap} {v : V} {l : List V} (hb : BufC cap nb n2 g v l) (hk : ∀ b, b < g.n → g'.get b = g.get b) : BufC cap nb n2 g' v l := by
 obtain ⟨hl, c, rfl, hb, hs⟩ := hb
 exact ⟨hl, c, rfl, by rw [hk _ (Heap.lt_of_get hb)]; exact hb, hs⟩
theorem wrap8 (n : Nat) : IntKind.u8.wrap (n : Int) = ((n % 256 : Nat) : Int) := by
 simp only [IntKind.wrap, IntKind.signed, IntKind.bits]; simp
theorem ofInt8 (n : Nat) : BitVec.ofInt 8 (n : Int) = BitVec.ofNat 8 n := BitVec.ofInt_natCast 8 n
theorem or8 (w : BitVec 8) : (w ||| 128#8).toNat = w.toNat % 128 + 128 := by revert w; decide
theorem and8 (w : BitVec 8) : (w &&& 127#8).toNat = w.toNat % 128 := by revert w; decide
theorem or128 (n : Nat) : intBin .or .u8 (IntKind.u8.wrap (n : Int)) 128 = some (.int .u8 (((n % 128 + 128) % 256 : Nat) : Int)) := by
 rw [wrap8]
 show some (V.int .u8 (IntKind.u8.wrap ((BitVec.ofInt 8 ((n % 256 : Nat) : Int) ||| BitVec.ofInt 8 128).toNat : Int))) = _
 rw [ofInt8, show BitVec.ofInt 8 128 = 128#8 from rfl, or8, BitVec.toNat_ofNat, wrap8]
 congr 3; omega
theorem and127 (n : Nat) (hn : n < 256) : intBin .and .u8 (n : Int) 127 = some (.int .u8 ((n % 128 : Nat) : Int)) := by
 show some (V.int .u8 (IntKind.u8.wrap ((BitVec.ofInt 8 (n : Int) &&& BitVec.ofInt 8 127).toNat : Int))) = _
 rw [ofInt8, show BitVec.ofInt 8 127 = 127#8 from rfl, and8, BitVec.toNat_ofNat, wrap8]
 congr 3; omega
theorem wrap64 {n : Nat} (h : n < 18446744073709551616) : IntKind.u64.wrap (n : Int) = n := IntWalk.u64_in _ (by omega)
theorem shr7 (n : Nat) : xW .shr .u64 (n : Int) 7 = some (.int .u64 ((n / 128 : Nat) : Int)) := by
 have h : Int.fdiv (n : Int) 128 = ((n / 128 : Nat) : Int) := by
  rw [Int.fdiv_eq_ediv_of_nonneg _ (by omega)]; rfl
 unfold xW
 simp only [show ¬ ((7 : Int) < 0) by omega, if_false]
 exact congrArg (fun x => some (V.int .u64 x)) h
theorem or64 (a b : Nat) (ha : a < 18446744073709551616) (hb : b < 18446744073709551616) : intBin .or .u64 (a : Int) (b : Int) = some (.int .u64 ((a ||| b : Nat) : Int)) := by
 show some (V.int .u64 (IntKind.u64.wrap ((BitVec.ofInt 64 (a : Int) ||| BitVec.ofInt 64 (b : Int)).toNat : Int))) = _
 rw [BitVec.ofInt_natCast, BitVec.ofInt_natCast, BitVec.toNat_or, BitVec.toNat_ofNat, BitVec.toNat_ofNat, Nat.mod_eq_of_lt ha, Nat.mod_eq_of_lt hb, wrap64 (Nat.or_lt_two_pow (n := 64) ha hb)]
theorem shl64 (a s : Nat) (hs : s < 64) (h : a * 2 ^ s < 18446744073709551616) : xW .shl .u64 (a : Int) (s : Int) = some (.int .u64 ((a * 2 ^ s : Nat) : Int)) := by
 unfold xW
 simp only [show ¬ ((s : Int) < 0) by omega, if_false]
 rw [show min (s : Int).toNat IntKind.u64.bits = s by rw [show IntKind.u64.bits = 64 from rfl]; omega]
 have := wrap64 h
 rw [show ((a : Int) * 2 ^ s) = ((a * 2 ^ s : Nat) : Int) by simp, this]
theorem or_add {a b s : Nat} (ha : a < 2 ^ s) : a ||| b * 2 ^ s = a + b * 2 ^ s := by
 have := Nat.shiftLeft_add_eq_or_of_lt ha b
 rw [Nat.shiftLeft_eq] at this
 rw [Nat.or_comm, ← this, Nat.add_comm]
theorem first_lr' {S : Set'} {v : V} {l : List V} (hv : LR h S v l) : xH v = some l.length ∧ ∃ rs, kT h 1 l.length v = some (l, rs) := by
 obtain ⟨a, rs, b, _⟩ := first_lr hv
 exact ⟨a, rs, b⟩
set_option maxHeartbeats 4000000 in
theorem number_loop {Q : Ex → Fr → Heap → Prop} {t : List It} {g0 : Heap} {nb : Nat} {L : List V} (hW : ∀ b, nb ≤ b → W b) (hR : ∀ b, R b) (hnb : nb < g0.n)
  (hk : ∀ tr g v l m, tr.get 3 = some v → tr.get 0 = some (.int .u64 ((m : Nat) : Int)) → BufC 10 nb nb g v l → l.length ≤ 9 → Byt l → l ++ [bV m] = L → g0.n ≤ g.n → (∀ b, b < g0.n → b ≠ nb → g.get b = g0.get b) → resume (Try.prog : MP) R W none Q t (.exit 0) ⟨⟨20, tr⟩, []⟩ g)
  {tr : Tr V} {n : Nat} {v : V} (hn : n < 18446744073709551616) (hL : leb n = L) (t0 : tr.get 0 = some (.int .u64 (n : Int))) (t3 : tr.get 3 = some v) (hv : BufC 10 nb nb g0 v []) : kE (Try.prog : MP) R W none Q ir93_l0 t ⟨⟨20, tr⟩, []⟩ g0 := by
 refine kE.inv hm (fun k f g => f.mks = [] ∧ f.tm.n = 20 ∧ ∃ (v : V) (l : List V) (m : Nat), f.tm.get 3 = some v ∧ f.tm.get 0 = some (.int .u64 (m : Int)) ∧ BufC 10 nb nb g v l ∧ l.length + k = 9 ∧ m < 2 ^ (7 * k + 1) ∧ Byt l ∧ l ++ lebB k m = L ∧ g0.n ≤ g.n ∧ ∀ b, b < g0.n → b ≠ nb → g.get b = g0.get b) 9 ?_ ?_
 ·exact ⟨rfl, rfl, v, [], n, t3, t0, hv, rfl, hn, Byt.nil, hL, Nat.le_refl _, fun _ _ _ => rfl⟩
 clear t0 t3 hv hn hL
 clear tr v n
 rintro k ⟨⟨n', tr⟩, mks⟩ g ⟨hmk, hn', v, l, m, t3, t0, hb, hlk, hmm, hby, hl, hgn, hold⟩
 simp only [Tm.kL] at hmk hn' t0 t3
 subst hmk hn'
 by_cases h127 : m ≤ 127
 ·have hc : ¬ (127 : Int) < (m : Int) := by omega
  simp -implicitDefEqProofs (disch := omega) only [go_sem, seval, ↓reduceIte, ir93_l0, t0, hc]
  refine hk _ g v l m (by simp -implicitDefEqProofs (disch := omega) only [go_sem, seval, ↓reduceIte, t3]) (by simp -implicitDefEqProofs (disch := omega) only [go_sem, seval, ↓reduceIte, reduceCtorEq, t0]) hb (by omega) hby ?_ hgn hold
  rw [← hl]
  cases k with
  | zero => rfl
  | succ k => simp only [lebB, if_pos h127]
 ·have hc : (127 : Int) < (m : Int) := by omega
  cases k with
  | zero => simp at hmm; omega
  | succ k =>
   have hpow : 2 ^ (7 * (k + 1) + 1) = 2 ^ (7 * k + 1) * 128 := by rw [show 7 * (k + 1) + 1 = 7 * k + 1 + 7 by omega, Nat.pow_add]
   simp only [lebB, if_neg h127] at hl
   obtain ⟨v', g', r', w', hap, hb', hn', hk', hw'⟩ := app_buf (news := [.int .u8 (((m % 128 + 128) % 256 : Nat) : Int)]) (h := g.push (.cells (Blk.of [.int .u8 (((m % 128 + 128) % 256 : Nat) : Int)]) 5)) (x := .slice (some (g.n, 0)) 1 1 true) (hb.old fun b hb => qC (by omega) _) rfl (yO (qH rfl _)) rfl (by simp only [List.length_cons, List.length_nil]; omega)
   simp only [Heap.qG] at hn'
   simp -implicitDefEqProofs (disch := omega) only [go_sem, seval, ↓reduceIte, reduceCtorEq, ir93_l0, t0, t3, hc, ↓or128, ↓shr7, qU jO, hap]
   refine ⟨qO fun b _ => hR b, qO fun b hb => hW b (by rw [hw' b hb]; exact Nat.le_refl _), k, by omega, v', l ++ [bV (m % 128 + 128)], m / 128, rfl, rfl, hb', by rw [List.length_append]; simp only [List.length_cons, List.length_nil]; omega, ?_, hby.app (Byt.cons (xI _) Byt.nil), by rw [List.append_assoc]; exact hl, by omega, fun b h1 h2 => ?_⟩
   ·rw [hpow] at hmm
    exact Nat.div_lt_of_lt_mul (by rw [Nat.mul_comm]; exact hmm)
   ·rw [hk' b h2, qC (by omega)]
    exact hold b h1 h2
set_option maxHeartbeats 4000000 in
theorem number_ok {n : Nat} (hn : n < 18446744073709551616) (hR : ∀ b, R b) : SF Try.prog 93 [.int .u64 (n : Int)] h R W fun r g => LR g (fun b => h.n ≤ b) r (leb n) ∧ ∀ b, b < h.n → g.get b = h.get b := by
 refine SF.go hm Try.func93 ir93_eq ?_
 simp -implicitDefEqProofs (disch := omega) only [go_sem, seval, ↓reduceIte, reduceCtorEq, ir93]
 refine number_loop (nb := h.n) (L := leb n) (fun b hb => .inl hb) (fun b => .inr (hR b)) (by simp) ?_ hn rfl (by simp -implicitDefEqProofs (disch := omega) only [go_sem, seval, ↓reduceIte]) (by simp -implicitDefEqProofs (disch := omega) only [go_sem, seval, ↓reduceIte, reduceCtorEq]) ⟨by simp, _, rfl, qH rfl _, rfl, rfl, rfl⟩
 intro tr g v l m t3 t0 hb hl hby hL hgn hold
 simp only [Heap.qG] at hgn hold
 obtain ⟨v', g', r', w', hap, hb', hn', hk', hw'⟩ := app_buf (news := [.int .u8 ((m % 256 : Nat) : Int)]) (h := g.push (.cells (Blk.of [.int .u8 ((m % 256 : Nat) : Int)]) 5)) (x := .slice (some (g.n, 0)) 1 1 true) (hb.old fun b hb => qC (by omega) _) rfl (yO (qH rfl _)) rfl (by simp only [List.length_cons, List.length_nil]; omega)
 simp -implicitDefEqProofs (disch := omega) only [go_sem, seval, ↓reduceIte, reduceCtorEq, t0, t3, wrap8, qU jO, hap]
 refine ⟨qO fun b _ => .inr (hR b), qO fun b hb => .inl (by rw [hw' b hb]; exact Nat.le_refl _), ?_, fun b hb => ?_⟩
 ·rw [← hL]
  exact hb'.lr.mono fun b _ h => by omega
 ·rw [hk' b (by omega), qC (by omega), hold b (by omega) (by omega), qC (by omega)]
def PLs (h : Heap) (R : Set') (v : V) (ll : List (List V)) : Prop := ∃ vs, LR h R v vs ∧ vs.length = ll.length ∧ ∀ i l, ll[i]? = some l → LR h R (vs.getD i qE) l
theorem flatten_snoc {ll : List (List V)} {i : Nat} {l : List V} (h : ll[i]? = some l) : (ll.take (i + 1)).flatten = (ll.take i).flatten ++ l := by
 rw [List.take_add_one, h]; simp
theorem flatten_take_le (ll : List (List V)) (i : Nat) : (ll.take i).flatten.length ≤ ll.flatten.length := by
 have := congrArg (fun x => x.flatten.length) (List.take_append_drop i ll)
 simp only [List.flatten_append, List.length_append] at this
 omega
set_option maxHeartbeats 4000000 in
theorem join_ok {S : Set'} {v : V} {ll : List (List V)} (hv : PLs h S v ll) (hR : ∀ b, R b) (hl : ll.length ≤ 1000) (hf : ll.flatten.length ≤ 100000) (hb : ∀ l ∈ ll, Byt l) : SF Try.prog 72 [v] h R W fun r g => Own h.n g r ll.flatten 5 ∧ ∀ b, b < h.n → g.get b = h.get b := by
 obtain ⟨vs, hv, hvl, hvs⟩ := hv
 have hlen := hv.lenV Try.underlying45
 rw [hvl] at hlen
 refine SF.go hm Try.func72 ir72_eq ?_
 simp -implicitDefEqProofs (disch := omega) only [go_sem, seval, ↓reduceIte, reduceCtorEq, ir72, ↓hlen]
 refine kE.inv hm (fun k f g => f.mks = [] ∧ f.tm.n = 18 ∧ f.tm.get 7 = some v ∧ f.tm.get 8 = some (.int .i64 (ll.length : Int)) ∧ ∃ (i : Nat) (w : V), i + k = ll.length ∧ f.tm.get 9 = some (.int .i64 (i : Int)) ∧ f.tm.get 3 = some w ∧ Own h.n g w (ll.take i).flatten 5 ∧ h.n ≤ g.n ∧ ∀ b, b < h.n → g.get b = h.get b) ll.length ?_ ?_
 ·exact ⟨rfl, rfl, by simp -implicitDefEqProofs (disch := omega) only [go_sem, seval, ↓reduceIte, reduceCtorEq], by simp -implicitDefEqProofs (disch := omega) only [go_sem, seval, ↓reduceIte, reduceCtorEq], 0, _, by omega, by simp -implicitDefEqProofs (disch := omega) only [go_sem, Nat.reduceSub, Nat.reduceMod, Nat.reduceDiv, ↓reduceIte, reduceCtorEq]; rfl, by simp -implicitDefEqProofs (disch := omega) only [go_sem, seval, ↓reduceIte, reduceCtorEq], .inl ⟨rfl, .inr ⟨h.n, _, rfl, Nat.le_refl _, qH rfl _, rfl⟩⟩, by simp, fun b hb => qC (by omega) _⟩
 rintro k ⟨⟨n', tr⟩, mks⟩ g ⟨hmk, hn', t7, t8, i, w, hik, t9, t3, ho, hgn, hold⟩
 simp only [Tm.kL] at hmk hn' t7 t8 t9 t3
 subst hmk hn'
 by_cases hi : i < ll.length
 ·have hc : (i : Int) < (ll.length : Int) := by omega
  obtain ⟨l, hli⟩ : ∃ l, ll[i]? = some l := ⟨_, List.getElem?_eq_getElem hi⟩
  have hvi := hvs i l hli
  obtain ⟨b, o, cap, ex, c, ce, e, hSb, hcb, hcs, hcg⟩ := (hv.old hold).get (show i < vs.length by omega)
  rw [hvl] at e hcs
  subst e
  have hRb := hR b
  have hi0 : (0 : Int) ≤ (i : Int) := by omega
  have hone := hvi.one
  have hcv := hvi.cells
  obtain ⟨hx, rs, hfi, _⟩ := first_lr (hvi.old hold)
  have hmem : l ∈ ll := List.mem_of_getElem? hli
  have hle := flatten_take_le ll (i + 1)
  rw [flatten_snoc hli, List.length_append] at hle
  obtain ⟨v', g', r', w', hap, ho', hn', hk', hw', _⟩ := jK (bytes := 1) ho hgn hx hfi (hb l hmem).allOne (by omega) (by omega)
  rw [← flatten_snoc hli] at ho'
  have hr : allB (fun b => h.n ≤ b ∨ R b) r' := qO fun b _ => .inr (hR b)
  have hw : allB (fun b => h.n ≤ b ∨ W b) w' := qO fun b hb => .inl (hw' b hb)
  simp -implicitDefEqProofs (disch := omega) only [go_sem, seval, ↓reduceIte, ir72_l0, t7, t8, t9, t3, hc, hi0, hcb, hRb, hcg, qU jO, hap]
  exact ⟨hr, hw, k - 1, by omega, i + 1, v', by omega, by simp, rfl, ho', by omega, fun b hb => by rw [hk' b hb, hold b hb]⟩
 ·have hc : ¬ (i : Int) < (ll.length : Int) := by omega
  obtain rfl : i = ll.length := by omega
  rw [List.take_length] at ho
  simp -implicitDefEqProofs (disch := omega) only [go_sem, seval, ↓reduceIte, ir72_l0, t8, t9, t3, hc]
  exact ⟨ho, hold⟩
end Go.Proofs.Ytakgjjbmniilhaa
set_option maxRecDepth 100000
set_option linter.unusedVariables false
namespace Go.Proofs.Ytakgjjbmniilhaa
open Go Go.Vm
variable {h : Heap} {R W : Set'}
def Hd.v (H : Hd) : List V := [.int .u64 (H.ep : Int), .int .u64 (H.si : Int), .int .u64 (H.ha : Int), .int .u64 (H.sz : Int), .int .u64 (H.fi : Int)]
def Hd.Lt (H : Hd) : Prop := H.ep < 18446744073709551616 ∧ H.si < 18446744073709551616 ∧ H.ha < 18446744073709551616 ∧ H.sz < 18446744073709551616 ∧ H.fi < 18446744073709551616
theorem LR.push (g : Heap) (l : List V) (e : TypeId) : LR (g.push (.cells (Blk.of l) e)) (fun k => k = g.n) (.slice (some (g.n, 0)) l.length l.length true) l := .inr ⟨g.n, 0, _, _, _, e, rfl, rfl, qH rfl _, by simp [Blk.of], by
 apply List.ext_getElem?
 intro j
 by_cases hj : j < l.length
 ·rw [Blk.qM _ _ _ _ hj, Nat.zero_add, Blk.get_of _ _ hj, List.getElem?_eq_getElem hj]
  simp [hj]
 ·rw [List.getElem?_eq_none (by rw [Blk.qJ]; omega), List.getElem?_eq_none (by omega)]⟩
theorem PLs.of {g : Heap} {S : Set'} {vs : List V} {ll : List (List V)} {e : TypeId} (hl : vs.length = ll.length) (h : ∀ i l, ll[i]? = some l → LR g S (vs.getD i qE) l) : PLs (g.push (.cells (Blk.of vs) e)) (fun k => k = g.n ∨ S k) (.slice (some (g.n, 0)) vs.length vs.length true) ll :=
 ⟨vs, (LR.push g vs e).mono fun b _ hb => .inl hb, hl, fun i l e => ((h i l e).old fun b hb => qC (by omega) _).mono fun b _ hb => .inr hb⟩
def noW : Set' := fun _ => False
def qR : Set' := fun _ => True
set_option maxHeartbeats 4000000 in
theorem put_ok {H : Hd} (hH : H.Lt) (hR : ∀ b, R b) : SF Try.prog 71 [.agg H.v] h R W fun r g => Own h.n g r (putH H) 5 ∧ ∀ b, b < h.n → g.get b = h.get b := by
 obtain ⟨l1, l2, l3, l4, l5⟩ := hH
 have C : ∀ {g : Heap} {n : Nat}, n < 18446744073709551616 → SF Try.prog 93 [.int .u64 (n : Int)] g qR noW fun r g' => LR g' (fun b => g.n ≤ b) r (leb n) ∧ g.n ≤ g'.n ∧ ∀ b, b < g.n → g'.get b = g.get b := fun hn => SF.mono ((number_ok hn (fun _ => trivial)).kept.foot (fun _ h => h) (fun _ h => h)) fun r g' hq => ⟨hq.1.1, hq.2.n, hq.1.2⟩
 refine SF.go hm Try.func71 ir71_eq ?_
 unfold Hd.v
 have e71 : (71 : Int) = ((71 : Nat) : Int) := rfl
 simp -implicitDefEqProofs (disch := omega) only [go_sem, seval, ↓reduceIte, reduceCtorEq, ir71]
 rw [e71]
 refine qN.of (C (by omega)) ?_
 rintro r1 g1 ⟨o1, n1, k1⟩
 simp only [Heap.qG] at n1 k1 o1
 have hb : g1.get h.n = some (.cells (Blk.of [.int .u64 (H.ep : Int), .int .u64 (H.si : Int), .int .u64 (H.ha : Int), .int .u64 (H.sz : Int), .int .u64 (H.fi : Int)]) 44) := by rw [k1 _ (by omega)]; exact qH rfl _
 simp -implicitDefEqProofs (disch := omega) only [go_sem, seval, ↓reduceIte, reduceCtorEq, qE, hb]
 refine qN.of (C l1) ?_
 rintro r2 g2 ⟨o2, n2, k2⟩
 have hb2 := (k2 h.n (by omega)).trans hb
 simp -implicitDefEqProofs (disch := omega) only [go_sem, seval, ↓reduceIte, reduceCtorEq, qE, hb2]
 refine qN.of (C l2) ?_
 rintro r3 g3 ⟨o3, n3, k3⟩
 have hb3 := (k3 h.n (by omega)).trans hb2
 simp -implicitDefEqProofs (disch := omega) only [go_sem, seval, ↓reduceIte, reduceCtorEq, qE, hb3]
 refine qN.of (C l3) ?_
 rintro r4 g4 ⟨o4, n4, k4⟩
 have hb4 := (k4 h.n (by omega)).trans hb3
 simp -implicitDefEqProofs (disch := omega) only [go_sem, seval, ↓reduceIte, reduceCtorEq, qE, hb4]
 refine qN.of (C l4) ?_
 rintro r5 g5 ⟨o5, n5, k5⟩
 have hb5 := (k5 h.n (by omega)).trans hb4
 simp -implicitDefEqProofs (disch := omega) only [go_sem, seval, ↓reduceIte, reduceCtorEq, qE, hb5]
 refine qN.of (C l5) ?_
 rintro r6 g6 ⟨o6, n6, k6⟩
 have hb6 := (k6 h.n (by omega)).trans hb5
 have q5 := o5.old k6
 have q4 := (o4.old k5).old k6
 have q3 := ((o3.old k4).old k5).old k6
 have q2 := (((o2.old k3).old k4).old k5).old k6
 have q1 := ((((o1.old k2).old k3).old k4).old k5).old k6
 have one1 := q1.one
 have one2 := q2.one
 have one3 := q3.one
 have one4 := q4.one
 have one5 := q5.one
 have one6 := o6.one
 have c1 := q1.cells
 have c2 := q2.cells
 have c3 := q3.cells
 have c4 := q4.cells
 have c5 := q5.cells
 have c6 := o6.cells
 simp -implicitDefEqProofs (disch := omega) only [go_sem, seval, ↓reduceIte, reduceCtorEq, ↓c1, ↓c2, ↓c3, ↓c4, ↓c5, ↓c6]
 have hp := PLs.of (g := g6) (S := fun b => h.n ≤ b) (vs := [r1, r2, r3, r4, r5, r6]) (ll := H.l.map leb) (e := 22) rfl fun i l hi => by
  have : i < 6 := by
   have := (List.getElem?_eq_some_iff.1 hi).1
   simpa [Hd.l] using this
  have hh : i = 0 ∨ i = 1 ∨ i = 2 ∨ i = 3 ∨ i = 4 ∨ i = 5 := by omega
  rcases hh with rfl | rfl | rfl | rfl | rfl | rfl <;> cases hi
  ·exact q1.mono fun b _ hb => by omega
  ·exact q2.mono fun b _ hb => by omega
  ·exact q3.mono fun b _ hb => by omega
  ·exact q4.mono fun b _ hb => by omega
  ·exact q5.mono fun b _ hb => by omega
  ·exact o6.mono fun b _ hb => by omega
 have hj : (joinB H).length ≤ 60 := joinB_len H
 refine qN.of (SF.foot (join_ok (R := qR) (W := noW) hp (fun _ => trivial) (by simp [Hd.l]) (by show (joinB H).length ≤ _; omega) (fun l hl => by
  obtain ⟨n, _, rfl⟩ := List.mem_map.1 hl
  exact byt_leb n)).kept (fun _ h => h) (fun _ h => h)) ?_
 rintro r7 g7 ⟨⟨o7, k7⟩, vf7⟩
 have n7 := vf7.n
 simp only [Heap.qG] at n7 k7 o7
 simp -implicitDefEqProofs (disch := omega) only [go_sem, seval, ↓reduceIte, reduceCtorEq]
 refine qN.of (SF.foot (sector_ok (R := qR) (W := noW) o7.lr (fun _ => trivial) (by show (joinB H).length ≤ _; omega) (byt_joinB H)) (fun _ h => h) (fun _ h => h)) ?_
 rintro r8 g8 ⟨o8, n8, k8⟩
 simp -implicitDefEqProofs (disch := omega) only [go_sem, seval, ↓reduceIte, reduceCtorEq]
 simp only [noW, List.not_mem_nil, or_false, false_or, and_false, false_implies, implies_true, not_false_eq_true, List.mem_cons, and_true, true_and]
 refine ⟨by and_intros <;> (intros; omega), by and_intros <;> (intros; exact .inr (hR _)), o8.mono (by omega), fun b hb => ?_⟩
 rw [k8 b (by omega), k7 b (by omega), qC (by omega), k6 b (by omega), k5 b (by omega), k4 b (by omega), k3 b (by omega), k2 b (by omega), k1 b (by omega), qC (by omega)]
structure RdAt (h : Heap) (b nb : Nat) (l : List V) (a : Nat) : Prop where
 cl : ∃ c, h.get b = some (.cells c 168) ∧ c.size = 2 ∧ c.ro = false ∧ c.get 0 = .slice (some (nb, 0)) l.length (l.length + 1) true ∧ c.get 1 = .int .i64 (a : Int)
 bf : ∃ c, h.get nb = some (.cells c 5) ∧ c.size = l.length + 1 ∧ c.gets 0 l.length = l
 ne : nb ≠ b
theorem RdAt.old {g : Heap} {b nb a : Nat} {l : List V} (hr : RdAt h b nb l a) (hk : ∀ k, k < h.n → g.get k = h.get k) : RdAt g b nb l a := by
 obtain ⟨⟨c, h1, h2⟩, ⟨c', h3, h4⟩, h5⟩ := hr
 exact ⟨⟨c, (hk _ (Heap.lt_of_get h1)).trans h1, h2⟩, ⟨c', (hk _ (Heap.lt_of_get h3)).trans h3, h4⟩, h5⟩
theorem rthere_ok {b nb a : Nat} {l : List V} (hr : RdAt h b nb l a) (hR : ∀ b, R b) : SF Try.prog 100 [.ptr (some (b, 0))] h R W fun r g => r = .bool true ∧ g = h := by
 obtain ⟨⟨c, hb, hs, _, hc, _⟩, _⟩ := hr
 have hRb := hR b
 refine SF.go hm Try.func100 ir100_eq ?_
 simp -implicitDefEqProofs (disch := omega) only [go_sem, seval, ↓reduceIte, reduceCtorEq, ir100, hb, hc, hRb]
theorem ropen_ok {S : Set'} {v : V} {l : List V} (hv : LR h S v l) (hR : ∀ b, R b) (hl : l.length ≤ 1000) (hb : Byt l) : SF Try.prog 89 [v] h R W fun r g => ∃ b nb, r = .ptr (some (b, 0)) ∧ RdAt g b nb l 0 ∧ h.n ≤ b ∧ h.n ≤ nb ∧ h.n ≤ g.n ∧ ∀ k, k < h.n → g.get k = h.get k := by
 have hlen := hv.lenV Try.underlying22
 have h0 : (0 : Int) ≤ (l.length : Int) + 1 := by omega
 have e1 : ((l.length : Int) + 1).toNat = l.length + 1 := by omega
 obtain ⟨hx, rs, hf, _⟩ := first_lr (hv.old (h' := h.push (.cells (Blk.rep (l.length + 1) [V.int .u8 0]) 5)) fun b hb => qC (by omega) _)
 obtain ⟨v', g', r', w', hap, hb', hn', hk', hw'⟩ := app_buf (cap := l.length + 1) (nb := h.n) (n2 := h.n) (l := []) (v := .slice (some (h.n, 0)) 0 (l.length + 1) true) (h := h.push (.cells (Blk.rep (l.length + 1) [V.int .u8 0]) 5)) ⟨by simp, _, rfl, qH rfl _, rfl, rfl, rfl⟩ hx hf hb.allOne (by simp only [List.length_nil]; omega)
 have hr : allB (fun b => h.n ≤ b ∨ R b) r' := qO fun b _ => .inr (hR b)
 have hw : allB (fun b => h.n ≤ b ∨ W b) w' := qO fun b hb => .inl (by rw [hw' b hb]; exact Nat.le_refl _)
 simp only [Heap.qG] at hn'
 obtain ⟨hl', c, rfl, h1, h2, h3, h4⟩ := hb'
 rw [List.nil_append] at hap h4
 refine SF.go hm Try.func89 ir89_eq ?_
 have hA : l.length ≤ 281474976710655 := by omega
 have hB : (l.length : Int) + 1 ≤ 9223372036854775807 := by omega
 simp -implicitDefEqProofs (disch := omega) only [go_sem, seval, ↓reduceIte, reduceCtorEq, ir89, ↓hlen, h0, e1, hA, hB, qU jO, hap]
 refine ⟨hr, hw, _, h.n, rfl, ⟨⟨_, qH rfl _, rfl, rfl, rfl, rfl⟩, ⟨c, ?_, h2, ?_⟩, by omega⟩, by omega, by omega, by omega, fun k hk => ?_⟩
 ·rw [qC (by omega)]; exact h1
 ·exact h4
 ·rw [qC (by omega), hk' k (by omega), qC (by omega)]
set_option maxHeartbeats 4000000 in
theorem rnum_ok {b nb a : Nat} {l : List V} (hr : RdAt h b nb l a) (hR : ∀ b, R b) (hW : W b) (hl : l.length ≤ 1000) (hb : Byt l) (ha : a ≤ l.length) : SF Try.prog 90 [.ptr (some (b, 0))] h R W fun r g => (∀ k, k < h.n → k ≠ b → g.get k = h.get k) ∧ g.n = h.n ∧ match rd (l.drop a) with
  | some (n, t) => r = .tuple [.int .u64 (n : Int), .int .i64 0] ∧ ∃ a', a' ≤ l.length ∧ l.drop a' = t ∧ RdAt g b nb l a'
  | none => r = .tuple [.int .u64 0, .int .i64 4] := by
 obtain ⟨⟨c, h1, h2, h3, h4, h5⟩, ⟨c', h6, h7, h8⟩, h9⟩ := hr
 have hRb := hR b
 have hRn := hR nb
 refine SF.go hm Try.func90 ir90_eq ?_
 simp -implicitDefEqProofs (disch := first | omega | (simp -implicitDefEqProofs only [szs, ne_eq] <;> omega) | fail) only [go_sem, seval, ↓reduceIte, reduceCtorEq, ir90]
 refine qK.of (rthere_ok ⟨⟨c, h1, h2, h3, h4, h5⟩, ⟨c', h6, h7, h8⟩, h9⟩ (fun b => .inr (hR b))) ?_
 rintro r g ⟨rfl, rfl⟩
 simp -implicitDefEqProofs (disch := first | omega | (simp -implicitDefEqProofs only [szs, ne_eq] <;> omega) | fail) only [go_sem, seval, ↓reduceIte, reduceCtorEq, h1, h5, hRb]
 refine kE.inv hm (fun k f g' => f.mks = [] ∧ f.tm.n = 61 ∧ g' = g ∧ f.tm.get 0 = some (.ptr (some (b, 0))) ∧ ∃ (p s m : Nat), p + k = l.length ∧ f.tm.get 4 = some (.int .u64 (m : Int)) ∧ f.tm.get 5 = some (.int .i64 (p : Int)) ∧ f.tm.get 6 = some (.int .u64 (s : Int)) ∧ m < 2 ^ s ∧ (∃ j, s = 7 * j ∧ j ≤ 9) ∧ rdB s m (l.drop p) = rd (l.drop a)) (l.length - a) ?_ ?_
 ·exact ⟨rfl, rfl, rfl, by simp -implicitDefEqProofs (disch := first | omega | (simp -implicitDefEqProofs only [szs, ne_eq] <;> omega) | fail) only [go_sem, seval, ↓reduceIte], a, 0, 0, by omega, by simp -implicitDefEqProofs (disch := first | omega | (simp -implicitDefEqProofs only [szs, ne_eq] <;> omega) | fail) only [go_sem, Nat.reduceSub, Nat.reduceMod, Nat.reduceDiv, ↓reduceIte, reduceCtorEq]; rfl, by simp -implicitDefEqProofs (disch := first | omega | (simp -implicitDefEqProofs only [szs, ne_eq] <;> omega) | fail) only [go_sem, seval, ↓reduceIte, reduceCtorEq], by simp -implicitDefEqProofs (disch := first | omega | (simp -implicitDefEqProofs only [szs, ne_eq] <;> omega) | fail) only [go_sem, Nat.reduceSub, Nat.reduceMod, Nat.reduceDiv, ↓reduceIte, reduceCtorEq]; rfl, by decide, ⟨0, rfl, by omega⟩, rfl⟩
 rintro k ⟨⟨n', tr⟩, mks⟩ g' ⟨hmk, hn', rfl, t0, p, s, m, hpk, t4, t5, t6, hms, ⟨j, hj, hj9⟩, hrd⟩
 simp only [Tm.kL] at hmk hn' t0 t4 t5 t6
 subst hmk hn'
 by_cases hp : p < l.length
 rotate_left
 ·have hc : ¬ (p : Int) < (l.length : Int) := by omega
  rw [List.drop_eq_nil_of_le (by omega)] at hrd
  simp -implicitDefEqProofs (disch := first | omega | (simp -implicitDefEqProofs only [szs, ne_eq] <;> omega) | fail) only [go_sem, seval, ↓reduceIte, reduceCtorEq, ir90_l0, t0, t5, h1, h4, hRb, hc]
  rw [← hrd]; trivial
 have hc : (p : Int) < (l.length : Int) := by omega
 have hp0 : (0 : Int) ≤ (p : Int) := by omega
 obtain ⟨hb1, hb2⟩ := bN_lt hb (List.getElem_mem hp)
 obtain ⟨n, hn⟩ : ∃ n, n = bN l[p] := ⟨_, rfl⟩
 rw [← hn] at hb1 hb2
 have hcp : c'.get p = .int .u8 (n : Int) := by
  have := Blk.qM c' l.length 0 p hp
  rw [h8, List.getElem?_eq_getElem hp, Nat.zero_add] at this
  rw [← Option.some.inj this]; exact hb2
 rw [List.drop_eq_getElem_cons hp] at hrd
 simp only [rdB, ← hn] at hrd
 by_cases hbad : (s = 63 ∧ 1 < n) ∨ (0 < s ∧ n = 0)
 ·rw [if_pos hbad] at hrd
  have fin : match rd (l.drop a) with
   | some (n, t) => V.tuple [.int .u64 0, .int .i64 4] = .tuple [.int .u64 (n : Int), .int .i64 0] ∧ ∃ a', a' ≤ l.length ∧ l.drop a' = t ∧ RdAt g' b nb l a'
   | none => True := by rw [← hrd]; trivial
  by_cases h63 : s = 63
  ·have q63 : ((s : Int) = 63) := by omega
   by_cases h1n : 1 < n
   ·have q1 : (1 : Int) < (n : Int) := by omega
    simp -implicitDefEqProofs (disch := first | omega | (simp -implicitDefEqProofs only [szs, ne_eq] <;> omega) | fail) only [go_sem, seval, ↓reduceIte, reduceCtorEq, ir90_l0, qE, t0, t5, t6, h1, h4, hRb, hc, hp0, h6, hRn, hcp, q63, q1]
    exact fin
   ·have q1 : ¬ (1 : Int) < (n : Int) := by omega
    have q0 : (n : Int) = 0 := by omega
    simp -implicitDefEqProofs (disch := first | omega | (simp -implicitDefEqProofs only [szs, ne_eq] <;> omega) | fail) only [go_sem, seval, ↓reduceIte, reduceCtorEq, ir90_l0, t0, t5, t6, h1, h4, hRb, hc, hp0, h6, hRn, hcp, q63, q0]
    exact fin
  ·have q63 : ¬ ((s : Int) = 63) := by omega
   have qs : (0 : Int) < (s : Int) := by omega
   have q0 : (n : Int) = 0 := by omega
   simp -implicitDefEqProofs (disch := first | omega | (simp -implicitDefEqProofs only [szs, ne_eq] <;> omega) | fail) only [go_sem, seval, ↓reduceIte, reduceCtorEq, ir90_l0, qE, t0, t5, t6, h1, h4, hRb, hc, hp0, h6, hRn, hcp, qs, q0]
   exact fin
 rw [if_neg hbad] at hrd
 have hs64 : s < 64 := by omega
 have hand := and127 n hb1
 have hm64 : m < 18446744073709551616 := Nat.lt_of_lt_of_le hms (Nat.pow_le_pow_right (by omega) (show s ≤ 64 by omega))
 have hx : n % 128 * 2 ^ s < 18446744073709551616 := by
  by_cases h63 : s = 63
  ·subst h63
   have : n ≤ 1 := by omega
   have : n % 128 ≤ 1 := by omega
   simp; omega
  ·have h1 : 2 ^ s ≤ 2 ^ 56 := Nat.pow_le_pow_right (by omega) (by omega)
   have h2 : n % 128 ≤ 127 := by omega
   have := Nat.mul_le_mul h2 h1
   simp at this ⊢; omega
 have hsh := shl64 (n % 128) s hs64 hx
 have hor := or64 m (n % 128 * 2 ^ s) hm64 hx
 rw [or_add hms] at hor
 have hw5 : IntKind.u64.wrap ((n % 128 : Nat) : Int) = ((n % 128 : Nat) : Int) := wrap64 (by omega)
 have qA : ¬ ((s : Int) = 63 ∧ (1 : Int) < (n : Int)) := by omega
 by_cases h128 : n < 128
 ·rw [if_pos h128] at hrd
  have q128 : (n : Int) < 128 := by omega
  by_cases hs0 : 0 < s
  ·have qs : (0 : Int) < (s : Int) := by omega
   have q0 : ¬ (n : Int) = 0 := by omega
   by_cases h63 : s = 63
   ·have q63 : (s : Int) = 63 := by omega
    have q1 : ¬ (1 : Int) < (n : Int) := by omega
    have hsh' := hsh
    rw [q63] at hsh'
    simp -implicitDefEqProofs (disch := first | omega | (simp -implicitDefEqProofs only [szs, ne_eq] <;> omega) | fail) only [go_sem, seval, ↓reduceIte, reduceCtorEq, ir90_l0, qE, t0, t4, t5, t6, h1, h2, h3, h4, hRb, hW, hc, hp0, h6, hRn, hcp, q63, q1, q128, ↓hand, ↓hsh', ↓hor, hw5]
    exact ⟨fun k _ hk => qB (Heap.lt_of_get h1) hk _, by
     rw [← hrd]
     exact ⟨rfl, p + 1, by omega, rfl, ⟨⟨_, qF (Heap.lt_of_get h1) rfl _, by rw [Blk.size_set]; exact h2, by rw [Blk.qY]; exact h3, by rw [Blk.get_set, if_neg (by omega)]; exact h4, by rw [Blk.get_set, if_pos rfl]; rfl⟩, ⟨c', by rw [qB (Heap.lt_of_get h1) h9]; exact h6, h7, h8⟩, h9⟩⟩⟩
   ·have q63 : ¬ (s : Int) = 63 := by omega
    simp -implicitDefEqProofs (disch := first | omega | (simp -implicitDefEqProofs only [szs, ne_eq] <;> omega) | fail) only [go_sem, seval, ↓reduceIte, reduceCtorEq, ir90_l0, qE, t0, t4, t5, t6, h1, h2, h3, h4, hRb, hW, hc, hp0, h6, hRn, hcp, qs, q128, ↓hand, ↓hsh, ↓hor, hw5]
    exact ⟨fun k _ hk => qB (Heap.lt_of_get h1) hk _, by
     rw [← hrd]
     exact ⟨rfl, p + 1, by omega, rfl, ⟨⟨_, qF (Heap.lt_of_get h1) rfl _, by rw [Blk.size_set]; exact h2, by rw [Blk.qY]; exact h3, by rw [Blk.get_set, if_neg (by omega)]; exact h4, by rw [Blk.get_set, if_pos rfl]; rfl⟩, ⟨c', by rw [qB (Heap.lt_of_get h1) h9]; exact h6, h7, h8⟩, h9⟩⟩⟩
  ·have qs : ¬ (0 : Int) < (s : Int) := by omega
   have q63 : ¬ (s : Int) = 63 := by omega
   simp -implicitDefEqProofs (disch := first | omega | (simp -implicitDefEqProofs only [szs, ne_eq] <;> omega) | fail) only [go_sem, seval, ↓reduceIte, reduceCtorEq, ir90_l0, qE, t0, t4, t5, t6, h1, h2, h3, h4, hRb, hW, hc, hp0, h6, hRn, hcp, qs, q128, ↓hand, ↓hsh, ↓hor, hw5]
   exact ⟨fun k _ hk => qB (Heap.lt_of_get h1) hk _, by
     rw [← hrd]
     exact ⟨rfl, p + 1, by omega, rfl, ⟨⟨_, qF (Heap.lt_of_get h1) rfl _, by rw [Blk.size_set]; exact h2, by rw [Blk.qY]; exact h3, by rw [Blk.get_set, if_neg (by omega)]; exact h4, by rw [Blk.get_set, if_pos rfl]; rfl⟩, ⟨c', by rw [qB (Heap.lt_of_get h1) h9]; exact h6, h7, h8⟩, h9⟩⟩⟩
 ·rw [if_neg h128] at hrd
  have q128 : ¬ (n : Int) < 128 := by omega
  have q0 : ¬ (n : Int) = 0 := by omega
  have h63 : s ≠ 63 := by omega
  have q63 : ¬ (s : Int) = 63 := by omega
  have hw7 : V.int .u64 (IntKind.u64.wrap ((s : Int) + 7)) = .int .u64 ((s + 7 : Nat) : Int) := by rw [show (s : Int) + 7 = ((s + 7 : Nat) : Int) by omega, wrap64 (by omega)]
  have hbd : m + n % 128 * 2 ^ s < 2 ^ (s + 7) := by
   rw [Nat.pow_add]
   have := Nat.mul_le_mul_right (2 ^ s) (show n % 128 ≤ 127 by omega)
   have e7 : 2 ^ 7 = 128 := by decide
   rw [e7]; omega
  by_cases hs0 : 0 < s
  ·have qs : (0 : Int) < (s : Int) := by omega
   simp -implicitDefEqProofs (disch := first | omega | (simp -implicitDefEqProofs only [szs, ne_eq] <;> omega) | fail) only [go_sem, seval, ↓reduceIte, reduceCtorEq, ir90_l0, qE, t0, t4, t5, t6, h1, h4, hRb, hc, hp0, h6, hRn, hcp, qs, q128, ↓hand, ↓hsh, ↓hor, hw5]
   exact ⟨k - 1, by omega, p + 1, s + 7, m + n % 128 * 2 ^ s, by omega, rfl, rfl, hw7, hbd, ⟨j + 1, by omega, by omega⟩, hrd⟩
  ·have qs : ¬ (0 : Int) < (s : Int) := by omega
   simp -implicitDefEqProofs (disch := first | omega | (simp -implicitDefEqProofs only [szs, ne_eq] <;> omega) | fail) only [go_sem, seval, ↓reduceIte, reduceCtorEq, ir90_l0, qE, t0, t4, t5, t6, h1, h4, hRb, hc, hp0, h6, hRn, hcp, qs, q128, ↓hand, ↓hsh, ↓hor, hw5]
   exact ⟨k - 1, by omega, p + 1, s + 7, m + n % 128 * 2 ^ s, by omega, rfl, rfl, hw7, hbd, ⟨j + 1, by omega, by omega⟩, hrd⟩
end Go.Proofs.Ytakgjjbmniilhaa
set_option maxRecDepth 100000
set_option linter.unusedVariables false
namespace Go.Proofs.Ytakgjjbmniilhaa
open Go Go.Vm
attribute [-go_sem] qQ
variable {h g : Heap} {R W M : Set'} {bd : Nat} {D : DS}
structure DkX (g : Heap) (M : Set') (bd : Nat) (D : DS) : Prop where
 ex : ∃ L, DiskAt g bd L D ∧ ∀ b, zZ bd L D b → M b
 lt : ∀ k, M k → k < g.n
structure Kept (g g' : Heap) (M : Set') : Prop where
 n : g.n ≤ g'.n
 k : ∀ k, k < g.n → ¬ M k → g'.get k = g.get k
def DkQ (g g' : Heap) (M : Set') (bd : Nat) (D : DS) : Prop := Kept g g' M ∧ ∃ M', DkX g' M' bd D ∧ ∀ k, M' k → M k ∨ g.n ≤ k
theorem DkX.same {g' : Heap} (hx : DkX g M bd D) (hn : g.n ≤ g'.n) (hk : ∀ k, M k → g'.get k = g.get k) : DkX g' M bd D := by
 obtain ⟨⟨L, hd, hf⟩, hl⟩ := hx
 exact ⟨⟨L, hd.same fun b hb _ => hk b (hf b hb), hf⟩, fun k h => Nat.lt_of_lt_of_le (hl k h) hn⟩
theorem DkX.old {g' : Heap} (hx : DkX g M bd D) (hn : g.n ≤ g'.n) (hk : ∀ k, k < g.n → g'.get k = g.get k) : DkX g' M bd D := hx.same hn fun k h => hk k (hx.lt k h)
theorem DkX.mk' {L : DL} (hd : DiskAt g bd L D) : DkX g (zZ bd L D) bd D := ⟨⟨L, hd, fun _ h => h⟩, hd.lt⟩
theorem DkX.pos (hx : DkX g M bd D) : 1 ≤ D.n ∧ D.n ≤ 4096 := by
 obtain ⟨⟨L, hd, _⟩, _⟩ := hx
 exact hd.pos
theorem DkX.sec (hx : DkX g M bd D) {s : Nat} (hs : s < D.n) : (D.seen s).length = 128 ∧ Byt (D.seen s) := by
 obtain ⟨⟨L, hd, _⟩, _⟩ := hx
 have := hd.seen hs
 exact ⟨this.1, this.2⟩
theorem new_dk {n : Int} (hn : 1 ≤ n ∧ n ≤ 4096) : SF Try.prog 8 [.int .i64 n] h R W fun v g => ∃ M bd, v = .tuple [.ptr (some (bd, 0)), .int .i64 0] ∧ DkX g M bd (DS.new n.toNat) ∧ (∀ k, M k → h.n ≤ k) ∧ h.n ≤ g.n ∧ ∀ k, k < h.n → g.get k = h.get k := by
 refine SF.mono (SF.foot (new_ok (R := R) (W := noW) hn).kept (fun _ h => h) fun _ h => h.elim) ?_
 rintro v g ⟨⟨L, rfl, h1, h2, hd⟩, vf⟩
 refine ⟨zZ (h.n + 2) L (DS.new n.toNat), _, rfl, DkX.mk' hd, fun k hk => ?_, vf.n, fun k hk => vf.get k hk fun h => h⟩
 rcases hk with rfl | rfl | rfl | ⟨x, hx, _⟩
 ·omega
 ·exact h1
 ·exact h2
 ·exact absurd rfl hx
theorem read_dk (hx : DkX h M bd D) (hR : ∀ b, R b) {s : Nat} (hs : s < D.n) : SF Try.prog 29 [.ptr (some (bd, 0)), .int .i64 s] h R W fun v g => ∃ b, v = .tuple [.slice (some (b, 0)) 128 128 true, .int .i64 0] ∧ LR g (fun k => h.n ≤ k) (.slice (some (b, 0)) 128 128 true) (D.seen s) ∧ h.n ≤ g.n ∧ ∀ b, b < h.n → g.get b = h.get b := by
 obtain ⟨⟨L, hd, _⟩, _⟩ := hx
 refine SF.mono (read_ok (R := R) (W := W) hd (fun b _ => hR b) hs).kept ?_
 rintro v g ⟨⟨b, rfl, ⟨c, c1, c2, c3, c4⟩, h1, h2, h3⟩, vf⟩
 have hsec := hd.seen hs
 have hl : (D.seen s).length = 128 := hsec.1
 refine ⟨b, rfl, .inr ⟨b, 0, 128, true, c, _, by rw [hl], h1, c1, by omega, by rw [hl]; exact c4⟩, vf.n, h3⟩
theorem write_dk {S : Set'} {v : V} {l : List V} (hx : DkX h M bd D) (hR : ∀ b, R b) (hW : ∀ b, M b → W b) {s : Nat} (hs : s < D.n) (hv : LR h S v l) (hl : l.length = 128) (hb : Byt l) (few : (D.pe s).length < 1000000000) : SF Try.prog 30 [.ptr (some (bd, 0)), .int .i64 s, v] h R W fun r g => r = .int .i64 0 ∧ DkQ h g M bd (D.write s l) := by
 obtain ⟨⟨L, hd, hf⟩, hlt⟩ := hx
 have hsv : SecV h v l := by
  rcases hv with ⟨rfl, _⟩ | ⟨b, o, cap, ex, c, ce, rfl, _, h1, h2, h3⟩
  ·cases hl
  ·rw [hl] at h2 h3 ⊢
   exact ⟨b, o, cap, ex, c, ce, rfl, h1, h2, h3⟩
 refine SF.mono (SF.foot (write_ok (R := R) (W := zZ bd L D) hd (fun b _ => hR b) (fun _ h => h) hs hsv (fun b _ _ _ _ _ => hR b) ⟨hl, hb⟩ few).kept (fun _ h => h) fun b h => hW b (hf b h)) ?_
 rintro r g ⟨⟨rfl, nb, hn, hd'⟩, vf⟩
 refine ⟨rfl, ⟨vf.n, fun k h1 h2 => vf.get k h1 fun h3 => h2 (hf k h3)⟩, _, DkX.mk' hd', fun k hk => ?_⟩
 rcases zZ.write hk with h1 | h1
 ·exact .inl (hf k h1)
 ·exact .inr (by omega)
theorem flush_dk (hx : DkX h M bd D) (hR : ∀ b, R b) (hW : ∀ b, M b → W b) {a m : Nat} (ham : a + m ≤ D.n) : SF Try.prog 38 [.ptr (some (bd, 0)), .int .i64 a, .int .i64 m] h R W fun r g => r = .int .i64 0 ∧ DkQ h g M bd (D.flush a m) := by
 obtain ⟨⟨L, hd, hf⟩, hlt⟩ := hx
 refine SF.mono (SF.foot (flush_ok (R := R) (W := zZ bd L D) hd (fun b _ => hR b) (fun _ h => h) ham).kept (fun _ h => h) fun b h => hW b (hf b h)) ?_
 rintro r g ⟨⟨rfl, hd'⟩, vf⟩
 exact ⟨rfl, ⟨vf.n, fun k h1 h2 => vf.get k h1 fun h3 => h2 (hf k h3)⟩, _, DkX.mk' hd', fun k hk => .inl (hf k (zZ.flush hk))⟩
theorem copy_dk (hx : DkX h M bd D) (hR : ∀ b, R b) : SF ⟨Try.prog, true⟩ 28 [.ptr (some (bd, 0))] h R W fun v g => ∃ M' bd', v = .ptr (some (bd', 0)) ∧ DkX g M' bd' D ∧ (∀ k, M' k → h.n ≤ k) ∧ h.n ≤ g.n ∧ ∀ k, k < h.n → g.get k = h.get k := by
 obtain ⟨⟨L, hd, hf⟩, hlt⟩ := hx
 refine SF.mono (copy_ok hd hR) ?_
 rintro v g ⟨bd', L', rfl, hd', h1, h2, h3⟩
 exact ⟨_, _, rfl, DkX.mk' hd', fun k hk => (h1 k hk).1, h2, h3⟩
theorem size_dk (hx : DkX h M bd D) (hR : ∀ b, R b) : SF Try.prog 58 [.ptr (some (bd, 0))] h R W fun v g => v = .int .i64 D.n ∧ g = h := by
 obtain ⟨⟨L, hd, hf⟩, hlt⟩ := hx
 obtain ⟨c, h1, hs, _, c0, _⟩ := hd.d
 have hp := hd.pos
 have hRb := hR bd
 refine SF.go hm Try.func58 ir58_eq ?_
 simp -implicitDefEqProofs (disch := omega) only [go_sem, seval, ↓reduceIte, reduceCtorEq, ir58]
 refine qK.of (there_ok hd (.inr hRb)) ?_
 rintro v g ⟨rfl, rfl⟩
 simp -implicitDefEqProofs (disch := omega) only [go_sem, seval, ↓reduceIte, reduceCtorEq, h1, c0, hRb]
end Go.Proofs.Ytakgjjbmniilhaa
