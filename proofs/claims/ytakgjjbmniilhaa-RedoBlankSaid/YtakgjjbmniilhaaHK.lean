/- The log: Append. -/
import Derived.Test.YtakgjjbmniilhaaHJ
set_option linter.unusedVariables false
set_option linter.unusedSimpArgs false
set_option linter.unusedSimpArgs false
set_option maxRecDepth 100000
set_option linter.unusedVariables false
set_option linter.unusedSimpArgs false
namespace Go.Proofs.Ytakgjjbmniilhaa
open Go Go.Vm
attribute [-go_sem] sz_101
variable {h g : Heap} {R W M N : Set'} {bd lp fr ct : Nat} {D : DS} {G : LgS}
def capOk : V → Prop
  | .slice _ n c _ => n ≤ c
  | _ => True
theorem cut_lr {S : Set'} {v : V} {l : List V} (hv : LR h S v l) (hc : capOk v) {k : Nat} (hk : k ≤ l.length) : ∃ v', sliceV Try.prog 22 v none (some (k : Int)) none = some v' ∧ LR h S v' (l.take k) := by
  have hlt : (l.take k).length = k := by rw [List.length_take]; omega
  rcases hv with ⟨rfl, rfl | ⟨a, rfl⟩⟩ | ⟨b, o, cap, ex, c, ce, rfl, hR, hb, hs, hg⟩
  · obtain rfl : k = 0 := by simpa using hk
    exact ⟨_, by simp only [sliceV, Try.underlying22, sz_5]; rfl, .inl ⟨rfl, .inl rfl⟩⟩
  · obtain rfl : k = 0 := by simpa using hk
    exact ⟨_, by simp only [sliceV, Try.underlying22, sz_5]; rfl, .inl ⟨rfl, .inr ⟨a, rfl⟩⟩⟩
  · have hcl : l.length ≤ cap := hc
    have hbv : boundsV l.length cap none (some (k : Int)) none = some (0, k, cap) := by
      simp only [boundsV, Int.toNat_natCast]
      rw [if_pos (by omega)]
    refine ⟨.slice (some (b, o)) k cap ex, ?_, .inr ⟨b, o, cap, ex, c, ce, by rw [hlt], hR, hb, by omega, ?_⟩⟩
    · simp only [sliceV, Try.underlying22, sz_5, hbv]
      cases ex with
      | true => simp only [Nat.zero_mul, Nat.sub_zero]; cases Nat.beq cap 0 <;> rfl
      | false => rw [if_pos ⟨hcl, .inr trivial⟩]; rfl
    · rw [hlt]
      refine Blk.gets_ext (fun j hj => ?_) hlt.symm
      rw [hlt] at hj
      have := Blk.gets_get c l.length o j (by omega)
      rw [hg] at this
      rw [List.getD_eq_getElem?_getD, List.getElem?_take, if_pos hj, this]; rfl
theorem rest_lr {S : Set'} {v : V} {l : List V} (hv : LR h S v l) (hc : capOk v) {k : Nat} (hk : k ≤ l.length) : ∃ v', sliceV Try.prog 22 v (some (k : Int)) none none = some v' ∧ (k < l.length → LR h S v' (l.drop k) ∧ capOk v') := by
  rcases hv with ⟨rfl, rfl | ⟨a, rfl⟩⟩ | ⟨b, o, cap, ex, c, ce, rfl, hR, hb, hs, hg⟩
  · obtain rfl : k = 0 := by simpa using hk
    exact ⟨_, by simp only [sliceV, Try.underlying22, sz_5]; rfl, fun h => by cases h⟩
  · obtain rfl : k = 0 := by simpa using hk
    exact ⟨_, by simp only [sliceV, Try.underlying22, sz_5]; rfl, fun h => by cases h⟩
  · have hcl : l.length ≤ cap := hc
    have hbv : boundsV l.length cap (some (k : Int)) none none = some (k, l.length, cap) := by
      simp only [boundsV, Int.toNat_natCast]
      rw [if_pos (by omega)]
    by_cases hkl : k < l.length
    · have hbe : Nat.beq cap k = false := w_beq_f (by omega)
      have hbl : Nat.blt k cap = true := w_blt_t (by omega)
      refine ⟨.slice (some (b, o + k * 1)) (l.length - k) (cap - k) ex, ?_, fun _ => ⟨.inr ⟨b, o + k, cap - k, ex, c, ce, by rw [List.length_drop, Nat.mul_one], hR, hb, by rw [List.length_drop]; omega, ?_⟩, by show _ ≤ _; omega⟩⟩
      · simp only [sliceV, Try.underlying22, sz_5, hbv]
        cases ex with
        | true => simp only [hbe]
        | false => simp only [hbl]; rw [if_pos ⟨hcl, .inl trivial⟩]
      · refine Blk.gets_ext (fun j hj => ?_) rfl
        rw [List.length_drop] at hj
        have := Blk.gets_get c l.length o (k + j) (by omega)
        rw [hg] at this
        rw [List.getD_eq_getElem?_getD, List.getElem?_drop, this, show o + k + j = o + (k + j) by omega]; rfl
    · obtain rfl : k = l.length := by omega
      cases ex with
      | true => exact ⟨_, by simp only [sliceV, Try.underlying22, sz_5, hbv]; rfl, fun h => by omega⟩
      | false =>
        by_cases h1 : l.length < cap ∨ l.length = 0
        · refine ⟨_, by simp only [sliceV, Try.underlying22, sz_5, hbv]; rw [if_pos ⟨hcl, h1.imp (fun h => w_blt_t h) id⟩], fun h => by omega⟩
        · have hb2 : Nat.blt l.length cap = false := w_blt_f (by omega)
          refine ⟨_, by simp only [sliceV, Try.underlying22, sz_5, hbv]; rw [if_neg (by rw [hb2]; rintro ⟨_, h2 | h2⟩; cases h2; omega), if_pos ⟨by omega, trivial⟩], fun h => by omega⟩
def chunkB (l : List V) (i : Nat) : List V := (l.drop (108 * i)).take 108
def appW (D : DS) (fr ct : Nat) (G : LgS) (l : List V) (n : Nat) : Nat → DS
  | 0 => D
  | i + 1 => (appW D fr ct G l n i).write (fr + 2 + G.H.ha * ((ct - 2) / 2) + G.at' + i) (partB G.nx G.H.ep i n (chunkB l i))
theorem appW_n (D : DS) (fr ct : Nat) (G : LgS) (l : List V) (n : Nat) : ∀ k, (appW D fr ct G l n k).n = D.n
  | 0 => rfl
  | k + 1 => appW_n D fr ct G l n k
theorem appW_pe (D : DS) (fr ct : Nat) (G : LgS) (l : List V) (n : Nat) : ∀ k s, fr + 2 + G.H.ha * ((ct - 2) / 2) + G.at' + k ≤ s → (appW D fr ct G l n k).pe s = D.pe s
  | 0, _, _ => rfl
  | k + 1, s, h => by
    show (if s = _ then _ else _) = _
    rw [if_neg (by omega)]
    exact appW_pe D fr ct G l n k s (by omega)
set_option maxHeartbeats 8000000 in
theorem app_loop {Q : Ex → Fr → Heap → Prop} {t : List It} {g2 : Heap} {bb n : Nat} {S : Set'} {v : V} {l : List V} {tr : Tr V} {ca : Blk} (hR : ∀ b, R b) (hW : ∀ k, M k ∨ g2.n ≤ k → W k)
    (hx : DkX g2 M bd D) (hl : LgX g2 N lp bd fr ct G) (hMN : ∀ k, N k → ¬ M k)
    (t0 : tr.get 0 = some (.ptr (some (lp, 0)))) (t6 : tr.get 6 = some (.int .i64 (n : Int))) (t8 : tr.get 8 = some (.ptr (some (bb, 0)))) (t10 : tr.get 10 = some v) (t36 : tr.get 36 = some (.int .i64 (n : Int))) (t37 : tr.get 37 = some (.int .i64 0)) (t1 : tr.get 1 = some v)
    (a1 : g2.get bb = some (.cells ca 86)) (a2 : ca.size = 2) (a3 : ca.get 0 = .int .i64 ((fr + 2 : Nat) : Int)) (a4 : ca.get 1 = .int .i64 ((fr + 2 + (ct - 2) / 2 : Nat) : Int)) (hbb : ¬ M bb)
    (hv : LR g2 S v l) (hS : ∀ k, S k → k < g2.n ∧ ¬ M k) (hcap : capOk v) (hby : Byt l)
    (hc : 16 ≤ ct ∧ fr + ct ≤ D.n) (hD : D.n ≤ 4096) (hha : G.H.ha < 2) (hn : n + G.at' ≤ (ct - 2) / 2) (hln : n = max 1 ((l.length + 107) / 108)) (hn64 : n ≤ 64) (hnx : G.nx < 18446744073709551616 ∧ G.H.ep < 18446744073709551616) (few : ∀ s, (D.pe s).length < 1000000000)
    (hk : ∀ tr g M', tr.get 0 = some (.ptr (some (lp, 0))) → tr.get 1 = some v → tr.get 6 = some (.int .i64 (n : Int)) → g2.n ≤ g.n → (∀ k, k < g2.n → ¬ M k → g.get k = g2.get k) → DkX g M' bd (appW D fr ct G l n n) → (∀ k, M' k → M k ∨ g2.n ≤ k) → resume (Try.prog : MP) R W none Q t (.exit 1) ⟨⟨116, tr⟩, []⟩ g) :
    GLoop (Try.prog : MP) R W none Q ir13_l0 t ⟨⟨116, tr⟩, []⟩ g2 := by
  refine GLoop.inv hm (fun k f g => f.mks = [] ∧ f.tm.n = 116 ∧ f.tm.get 0 = some (.ptr (some (lp, 0))) ∧ f.tm.get 1 = some v ∧ f.tm.get 6 = some (.int .i64 (n : Int)) ∧ f.tm.get 8 = some (.ptr (some (bb, 0))) ∧ f.tm.get 36 = some (.int .i64 (n : Int)) ∧ ∃ (i : Nat) (w : V) (Mi : Set'), i + k = n ∧ f.tm.get 37 = some (.int .i64 (i : Int)) ∧ f.tm.get 10 = some w ∧ (i < n → LR g S w (l.drop (108 * i)) ∧ capOk w) ∧ g2.n ≤ g.n ∧ (∀ k, k < g2.n → ¬ M k → g.get k = g2.get k) ∧ DkX g Mi bd (appW D fr ct G l n i) ∧ ∀ k, Mi k → M k ∨ g2.n ≤ k) n ?_ ?_
  · exact ⟨rfl, rfl, t0, t1, t6, t8, t36, 0, v, M, by omega, t37, t10, fun _ => ⟨hv, hcap⟩, Nat.le_refl _, fun _ _ _ => rfl, hx, fun k hk => .inl hk⟩
  clear t0 t1 t6 t8 t10 t36 t37
  clear tr
  rintro k ⟨⟨n', tr⟩, mks⟩ g ⟨hmk, hn', t0, t1, t6, t8, t36, i, w, Mi, hik, t37, t10, hw, hng, kg, hxi, hMi⟩
  simp only [Tm.get_mk] at hmk hn' t0 t1 t6 t8 t36 t37 t10
  subst hmk hn'
  by_cases hi : i < n
  rotate_left
  · have hci : ¬ (i : Int) < (n : Int) := by omega
    obtain rfl : i = n := by omega
    simp -implicitDefEqProofs (disch := (first | omega | (simp -implicitDefEqProofs only [szs, ne_eq] <;> omega) | fail)) only [go_sem, seval, ↓reduceIte, reduceCtorEq, ir13_l0, t0, t6, t8, t10, t36, t37, hci]
    exact hk _ _ Mi (by simp -implicitDefEqProofs (disch := (first | omega | (simp -implicitDefEqProofs only [szs, ne_eq] <;> omega) | fail)) only [go_sem, seval, ↓reduceIte, reduceCtorEq, t0]) (by simp -implicitDefEqProofs (disch := (first | omega | (simp -implicitDefEqProofs only [szs, ne_eq] <;> omega) | fail)) only [go_sem, seval, ↓reduceIte, reduceCtorEq, t1]) (by simp -implicitDefEqProofs (disch := (first | omega | (simp -implicitDefEqProofs only [szs, ne_eq] <;> omega) | fail)) only [go_sem, seval, ↓reduceIte, reduceCtorEq, t6]) hng kg hxi hMi
  have hci : (i : Int) < (n : Int) := by omega
  obtain ⟨hwl, hwc⟩ := hw hi
  obtain ⟨⟨cl, v11, rv, vs, hl⟩, hlt, hNl⟩ := hl
  have l1 := hl.l1
  have l2 := hl.l2
  have k0 := hl.k0
  have k8 := hl.k8
  have k9 := hl.k9
  have nM := hMN lp hNl
  have c3 : cl.get 3 = .int .u64 (G.H.ep : Int) := hd_get hl.k3 (j := 0) (by omega)
  have c5 : cl.get 5 = .int .u64 (G.H.ha : Int) := hd_get hl.k3 (j := 2) (by omega)
  have hA : (G.H.ha : Int) < ((2 : Nat) : Int) := by omega
  have hA0 : (0 : Int) ≤ (G.H.ha : Int) := by omega
  have ag : ca.get G.H.ha = .int .i64 ((fr + 2 + G.H.ha * ((ct - 2) / 2) : Nat) : Int) := by
    have : G.H.ha = 0 ∨ G.H.ha = 1 := by omega
    rcases this with e | e <;> rw [e]
    · rw [a3, Nat.zero_mul, Nat.add_zero]
    · rw [a4, Nat.one_mul]
  have e1 : ((fr + 2 + G.H.ha * ((ct - 2) / 2) : Nat) : Int) + (G.at' : Int) = ((fr + 2 + G.H.ha * ((ct - 2) / 2) + G.at' : Nat) : Int) := by omega
  have e2 : ((fr + 2 + G.H.ha * ((ct - 2) / 2) + G.at' : Nat) : Int) + (i : Int) = ((fr + 2 + G.H.ha * ((ct - 2) / 2) + G.at' + i : Nat) : Int) := by omega
  have hsn : fr + 2 + G.H.ha * ((ct - 2) / 2) + G.at' + i < D.n := by
    have : G.H.ha * ((ct - 2) / 2) + (G.at' + i) < 2 * ((ct - 2) / 2) := by
      have : G.H.ha = 0 ∨ G.H.ha = 1 := by omega
      rcases this with e | e <;> rw [e] <;> omega
    omega
  have hmulu : fr + 2 + G.H.ha * ((ct - 2) / 2) + G.at' + i < 4096 := by omega
  have hbl : G.H.ha < ca.size := by omega
  have L1 := (kg lp (Heap.lt_of_get l1) nM).trans l1
  have A1 := (kg bb (Heap.lt_of_get a1) hbb).trans a1
  have ra := hR lp
  have rb := hR bb
  have hll := Heap.lt_of_get L1
  have hlb := Heap.lt_of_get A1
  have hdl : (l.drop (108 * i)).length = l.length - 108 * i := List.length_drop
  obtain ⟨kk, ekk⟩ : ∃ kk, kk = min (l.length - 108 * i) 108 := ⟨_, rfl⟩
  have hlen := hwl.lenV Try.underlying22
  rw [hdl] at hlen
  obtain ⟨w1, hs1, hw1⟩ := cut_lr hwl hwc (k := kk) (by rw [hdl]; omega)
  obtain ⟨w2, hs2, hw2⟩ := rest_lr hwl hwc (k := kk) (by rw [hdl]; omega)
  have hmin : (if (108 : Int) < ((l.length - 108 * i : Nat) : Int) then (108 : Int) else ((l.length - 108 * i : Nat) : Int)) = (kk : Int) := by
    split <;> omega
  have hch : (l.drop (108 * i)).take kk = chunkB l i := by
    unfold chunkB
    by_cases h1 : l.length - 108 * i ≤ 108
    · rw [List.take_of_length_le (by omega), List.take_of_length_le (by omega)]
    · rw [show kk = 108 by omega]
  rw [hch] at hw1
  have ei : IntKind.u8.wrap (i : Int) = (i : Int) := by rw [wrap8, Nat.mod_eq_of_lt (by omega)]
  have en : IntKind.u8.wrap (n : Int) = (n : Int) := by rw [wrap8, Nat.mod_eq_of_lt (by omega)]
  simp -implicitDefEqProofs (disch := (first | omega | (simp -implicitDefEqProofs only [szs, ne_eq] <;> omega) | fail)) only [go_sem, Nat.reduceAdd, Nat.reduceSub, Nat.reduceMul, Nat.reduceLT, Nat.reduceMod, Nat.reduceDiv, Nat.reduceEqDiff, Nat.reduceBEq, Nat.reduceLeDiff, ↓reduceIte, reduceCtorEq, Int.reduceAdd, Int.reduceSub, Int.reduceLT, Int.reduceLE, Int.reduceBEq, Int.reduceEq, Int.reduceToNat, ir13_l0, undefV, t0, t1, t6, t8, t10, t36, t37, hci, ↓hlen, ↓hmin, L1, l2, k0, k8, k9, c3, c5, hA, hA0, A1, a2, hbl, ag, e1, e2, ra, rb, ↓cv3_5, ↓cvd3_5, c3_5, ei, en, hs1]
  refine GCallD.of (SF.foot (part_ok (R := allR) (W := noW) (num := G.nx) (ep := G.H.ep) (pl := i) (of := n) (by omega) (by omega) hw1 (by unfold chunkB; rw [List.length_take]; omega) ((hby.drop _).take _) (fun _ => trivial)).kept (fun _ h => h) (fun _ h => h)) ?_
  rintro r1 g1 ⟨⟨o1, n1, k1⟩, _⟩
  simp -implicitDefEqProofs (disch := (first | omega | (simp -implicitDefEqProofs only [szs, ne_eq] <;> omega) | fail)) only [go_sem, seval, ↓reduceIte, reduceCtorEq, undefV, t0, t1, t6, t8, t10, t36, t37]
  have hcl : (chunkB l i).length ≤ 108 := by unfold chunkB; rw [List.length_take]; omega
  refine GCallD.of (R' := allR) (W' := Mi) ((write_dk (R := allR) (W := Mi) (hxi.old n1 k1) (fun _ => trivial) (fun _ h => h) (by rw [appW_n]; exact hsn) o1.lr (part_len _ _ _ _ hcl) (byt_part _ _ _ _ ((hby.drop _).take _)) (by rw [appW_pe D fr ct G l n i _ (Nat.le_refl _)]; exact few _)).foot (fun _ h => h) (fun _ h => h)) ?_
  rintro r2 g3 ⟨rfl, ⟨n3, k3⟩, M3, hx3, hM3⟩
  simp -implicitDefEqProofs (disch := (first | omega | (simp -implicitDefEqProofs only [szs, ne_eq] <;> omega) | fail)) only [go_sem, seval, ↓reduceIte, reduceCtorEq, undefV, t0, t1, t6, t8, t10, t36, t37, hs2]
  refine ⟨by (and_intros; all_goals (intro b hb hc; simp only [noW, allR, List.not_mem_nil, and_false, false_and, false_or, or_false, List.mem_singleton] at hb hc <;> omega)), ⟨fun _ => ra, fun _ => ra, fun _ => rb, fun _ => ra, fun _ => ra, fun _ => ra, fun b _ _ => hR b, fun b _ h => h.elim, fun b _ _ => hR b, fun b _ h => hW b (hMi b h)⟩, k - 1, by omega, i + 1, w2, M3, by omega, by simp, rfl, fun h1 => ?_, by omega, fun k h1 h2 => ?_, hx3, fun k hk => ?_⟩
  · have hkk : kk = 108 := by omega
    obtain ⟨q1, q2⟩ := hw2 (by omega)
    rw [List.drop_drop, hkk, show 108 * i + 108 = 108 * (i + 1) by omega] at q1
    refine ⟨q1.same fun b hb hbn => ?_, q2⟩
    obtain ⟨s1, s2⟩ := hS b hb
    rw [k3 b (by omega) fun h3 => (hMi b h3).elim s2 fun h4 => by omega, k1 b hbn]
  · rw [k3 k (by omega) fun h3 => (hMi k h3).elim h2 fun h4 => by omega, k1 k (by omega), kg k h1 h2]
  · rcases hM3 k hk with h1 | h1
    · exact hMi k h1
    · exact .inr (by omega)
end Go.Proofs.Ytakgjjbmniilhaa
