/- FramesPlay: the two pools do alike. -/
import Derived.Test.YtfgdpgagcnelpaaRE
set_option linter.unusedVariables false
set_option linter.unusedSimpArgs false
set_option linter.unusedSimpArgs false
set_option maxRecDepth 100000
set_option linter.unusedVariables false
set_option linter.unusedSimpArgs false
namespace Go.Proofs.Ytfgdpgagcnelpaa
open Go Go.Vm
theorem byte_none {h : Heap} {R W : Set'} {bp : Nat} {L : PL} {S : PS} (hp : PoolAt h bp L S) (hR : ∀ b, R b) (k at' : Int) (ha : 0 ≤ at' ∧ at' < 256) (ho : ¬ Owned S k) :
    SF Try.prog 18 [.ptr (some (bp, 0)), .int .i64 k, .int .i64 at'] h R W fun v h' => v = .tuple [.int .u8 0, .int .i64 6] ∧ h' = h := by
  refine SF.go hm Try.func18 ir18_eq ?_
  simp -implicitDefEqProofs (disch := (first | omega | (simp -implicitDefEqProofs only [szs, ne_eq] <;> omega) | fail)) only [go_sem, Nat.reduceAdd, Nat.reduceSub, Nat.reduceMul, Nat.reduceLT, Nat.reduceMod, Nat.reduceDiv, Nat.reduceEqDiff, Nat.reduceBEq, Nat.reduceLeDiff, ↓reduceIte, reduceCtorEq, Int.reduceAdd, Int.reduceSub, Int.reduceLT, Int.reduceLE, Int.reduceBEq, Int.reduceEq, Int.reduceToNat, ir18]
  refine GCall.of (there_ok hp (.inr (hR _))) ?_
  rintro v h' ⟨rfl, rfl⟩
  simp -implicitDefEqProofs (disch := (first | omega | (simp -implicitDefEqProofs only [szs, ne_eq] <;> omega) | fail)) only [go_sem, Nat.reduceAdd, Nat.reduceSub, Nat.reduceMul, Nat.reduceLT, Nat.reduceMod, Nat.reduceDiv, Nat.reduceEqDiff, Nat.reduceBEq, Nat.reduceLeDiff, ↓reduceIte, reduceCtorEq, Int.reduceAdd, Int.reduceSub, Int.reduceLT, Int.reduceLE, Int.reduceBEq, Int.reduceEq, Int.reduceToNat]
  refine GCall.of (place_ok at') ?_
  rintro v h' ⟨rfl, rfl⟩
  rw [decide_eq_true ha]
  simp -implicitDefEqProofs (disch := (first | omega | (simp -implicitDefEqProofs only [szs, ne_eq] <;> omega) | fail)) only [go_sem, Nat.reduceAdd, Nat.reduceSub, Nat.reduceMul, Nat.reduceLT, Nat.reduceMod, Nat.reduceDiv, Nat.reduceEqDiff, Nat.reduceBEq, Nat.reduceLeDiff, ↓reduceIte, reduceCtorEq, Int.reduceAdd, Int.reduceSub, Int.reduceLT, Int.reduceLE, Int.reduceBEq, Int.reduceEq, Int.reduceToNat]
  refine GCall.of (at_no hp (.inr (hR _)) (.inr (hR _)) k ho) ?_
  rintro v h' ⟨rfl, rfl⟩
  simp -implicitDefEqProofs (disch := (first | omega | (simp -implicitDefEqProofs only [szs, ne_eq] <;> omega) | fail)) only [go_sem, Nat.reduceAdd, Nat.reduceSub, Nat.reduceMul, Nat.reduceLT, Nat.reduceMod, Nat.reduceDiv, Nat.reduceEqDiff, Nat.reduceBEq, Nat.reduceLeDiff, ↓reduceIte, reduceCtorEq, Int.reduceAdd, Int.reduceSub, Int.reduceLT, Int.reduceLE, Int.reduceBEq, Int.reduceEq, Int.reduceToNat]
theorem byte_uni {h : Heap} {R W : Set'} {bp : Nat} {L : PL} {S : PS} (hp : PoolAt h bp L S) (hR : ∀ b, R b) (k at' : Int) :
    SF Try.prog 18 [.ptr (some (bp, 0)), .int .i64 k, .int .i64 at'] h R W fun v h' => v = .tuple (if ¬ (0 ≤ at' ∧ at' < 256) then [.int .u8 0, .int .i64 2] else if ¬ Owned S k then [.int .u8 0, .int .i64 6] else [.int .u8 (S.byt k.toNat at'.toNat), .int .i64 0]) ∧ h' = h := by
  by_cases ha : 0 ≤ at' ∧ at' < 256
  · rw [if_neg (fun h => h ha)]
    by_cases ho : Owned S k
    · rw [if_neg (fun h => h ho)]
      obtain ⟨k0, k1, k2⟩ := ho
      obtain ⟨i, rfl⟩ := Int.eq_ofNat_of_zero_le k0
      obtain ⟨j, rfl⟩ := Int.eq_ofNat_of_zero_le ha.1
      exact byte_at hp (hR _) (hR _) (by omega) k2 (by omega)
    · rw [if_pos ho]
      exact byte_none hp hR k at' ha ho
  · rw [if_pos ha]
    exact byte_bad hp (hR _) k at' ha
/-- What both pools do alike: the answer, the state behind. -/
structure BothT (dd : Bool) (S : PS) (fp fr : FuncId) (args : List V) (r : V) (S' : PS) : Prop where
  w : WF S'
  n : S'.n = S.n
  na : S'.na = S.na
  p : ∀ {h : Heap} {R W : Set'} {bp : Nat} {L : PL}, PoolAt h bp L S → (∀ b, R b) → W L.fb → W L.ub → SF ⟨Try.prog, dd⟩ fp (.ptr (some (bp, 0)) :: args) h R W fun v h' => v = r ∧ PoolAt h' bp L S'
  r : ∀ {h : Heap} {R W : Set'} {n0 rd : Nat} {rl : RL} {bv : Nat → V}, RPool h n0 rd rl S bv → (∀ b, R b) → (∀ b, n0 ≤ b → W b) → SF ⟨Try.prog, dd⟩ fr (.ptr (some (rd, 0)) :: args) h R W fun v h' => v = r ∧ ∃ bv', RPool h' n0 rd rl S' bv'
theorem grant_both {dd : Bool} {S : PS} (w : WF S) (k : Int) : ∃ x y S', BothT dd S 11 45 [.int .i64 k] (.tuple [.int .i64 x, .int .i64 y]) S' := by
  by_cases hk : 0 ≤ k ∧ k < S.na
  · obtain ⟨a, rfl⟩ := Int.eq_ofNat_of_zero_le hk.1
    have ha : a < S.na := by omega
    by_cases he : S.us a = S.qu a
    · refine ⟨0, 5, S, w, rfl, rfl, fun hp hR _ _ => ?_, fun hr hR _ => ?_⟩
      · refine (grant_full hp (hR _) (hR _) (hR _) ha he).any.mono ?_
        rintro v h' ⟨rfl, rfl⟩; exact ⟨rfl, hp⟩
      · refine (rgrant_full hr w hR ha he).any.mono ?_
        rintro v h' ⟨rfl, rfl⟩; exact ⟨rfl, _, hr⟩
    · have hlt : S.us a < S.qu a := by have := w.le a ha; omega
      obtain ⟨i, hi, h0, hl⟩ := w.least ha hlt
      have hu := w.us a ha
      have hc := cnt_in (fun i => decide (S.ho i ≠ 0 ∧ S.ow i = (a : Nat))) S.n
      have hn := w.n
      refine ⟨i, 0, S.grant i a, w.grant ha hlt hi h0, rfl, rfl, fun hp hR hf hu' => ?_, fun hr hR hW => ?_⟩
      · exact (grant_at hp (hR _) (hR _) (hR _) (hR _) hf hu' ha he (by omega) hi h0 hl).any
      · exact (rgrant_at hr w hR hW ha hlt hi h0 hl).any
  · refine ⟨0, 2, S, w, rfl, rfl, fun hp hR _ _ => ?_, fun hr hR _ => ?_⟩
    · refine (grant_bad hp (hR _) k hk).any.mono ?_
      rintro v h' ⟨rfl, rfl⟩; exact ⟨rfl, hp⟩
    · refine (rgrant_bad hr hR k hk).any.mono ?_
      rintro v h' ⟨rfl, rfl⟩; exact ⟨rfl, _, hr⟩
theorem hold_both {dd : Bool} {S : PS} (w : WF S) (k : Int) : ∃ x S', BothT dd S 12 46 [.int .i64 k] (.int .i64 x) S' := by
  by_cases ho : Owned S k
  · obtain ⟨h0, h1, h2⟩ := id ho
    obtain ⟨i, rfl⟩ := Int.eq_ofNat_of_zero_le h0
    have hi : i < S.n := by omega
    have h2 : S.ho i ≠ 0 := h2
    have hb := w.ho i hi
    by_cases hl : S.ho i = 65535
    · refine ⟨5, S, w, rfl, rfl, fun hp hR _ _ => ?_, fun hr hR hW => ?_⟩
      · refine (hold_full hp (hR _) (hR _) i hi hl).any.mono ?_
        rintro v h' ⟨rfl, rfl⟩; exact ⟨rfl, hp⟩
      · refine (rhold_ok hr w hR (hW _ hr.lt.2.2.1) i).any.mono ?_
        rintro v h' ⟨rfl, hr'⟩
        simp only [Int.toNat_natCast] at hr' ⊢
        rw [if_neg (fun h => h ho), if_pos hl]
        rw [if_neg (fun h => h.2 hl)] at hr'
        exact ⟨rfl, _, hr'⟩
    · refine ⟨0, S.setHo i (S.ho i + 1), w.setHo hi h2 (by omega) (by omega), rfl, rfl, fun hp hR hf _ => ?_, fun hr hR hW => ?_⟩
      · exact (hold_ok hp (hR _) (hR _) hf i hi h2 hl hb).any
      · refine (rhold_ok hr w hR (hW _ hr.lt.2.2.1) i).any.mono ?_
        rintro v h' ⟨rfl, hr'⟩
        simp only [Int.toNat_natCast] at hr' ⊢
        rw [if_neg (fun h => h ho), if_neg hl]
        rw [if_pos ⟨ho, hl⟩] at hr'
        exact ⟨rfl, _, hr'⟩
  · refine ⟨6, S, w, rfl, rfl, fun hp hR _ _ => ?_, fun hr hR hW => ?_⟩
    · refine (hold_no hp (hR _) (hR _) k ho).any.mono ?_
      rintro v h' ⟨rfl, rfl⟩; exact ⟨rfl, hp⟩
    · refine (rhold_ok hr w hR (hW _ hr.lt.2.2.1) k).any.mono ?_
      rintro v h' ⟨rfl, hr'⟩
      rw [if_pos ho]
      rw [if_neg (fun h => ho h.1)] at hr'
      exact ⟨rfl, _, hr'⟩
theorem drop_both {dd : Bool} {S : PS} (w : WF S) (k : Int) : ∃ x y S', BothT dd S 13 47 [.int .i64 k] (.tuple [.bool x, .int .i64 y]) S' := by
  by_cases ho : Owned S k
  · obtain ⟨h0, h1, h2⟩ := id ho
    obtain ⟨i, rfl⟩ := Int.eq_ofNat_of_zero_le h0
    have hi : i < S.n := by omega
    have h2 : S.ho i ≠ 0 := h2
    have hb := w.ho i hi
    by_cases hl : S.ho i = 1
    · obtain ⟨ha0, ha1⟩ := w.ow i hi h2
      obtain ⟨a, ha⟩ := Int.eq_ofNat_of_zero_le ha0
      have ha1 : a < S.na := by omega
      refine ⟨true, 0, (S.setHo i 0).setUs a (S.us a - 1), w.free1 hi h2 ha ha1, rfl, rfl, fun hp hR hf hu => ?_, fun hr hR hW => ?_⟩
      · exact (drop_last hp (hR _) (hR _) (hR _) hf hu i a hi ha1 ha hl (w.us_pos hi h2 ha ha1)).any
      · refine (rdrop_ok hr w hR (hW _ hr.lt.2.2.1) i).any.mono ?_
        rintro v h' ⟨rfl, hr'⟩
        simp only [Int.toNat_natCast] at hr' ⊢
        rw [if_neg (fun h => h ho), decide_eq_true hl]
        rw [if_pos ho, hl] at hr'
        exact ⟨rfl, _, hr'.congr rfl rfl (fun _ _ => rfl) (fun _ _ => rfl) (fun _ _ => rfl) (fun _ _ _ _ _ => rfl)⟩
    · refine ⟨false, 0, S.setHo i (S.ho i - 1), w.setHo hi h2 (by omega) (by omega), rfl, rfl, fun hp hR hf hu => ?_, fun hr hR hW => ?_⟩
      · exact (drop_more hp (hR _) (hR _) hf i hi (by omega)).any
      · refine (rdrop_ok hr w hR (hW _ hr.lt.2.2.1) i).any.mono ?_
        rintro v h' ⟨rfl, hr'⟩
        simp only [Int.toNat_natCast] at hr' ⊢
        rw [if_neg (fun h => h ho), decide_eq_false hl]
        rw [if_pos ho] at hr'
        exact ⟨rfl, _, hr'⟩
  · refine ⟨false, 6, S, w, rfl, rfl, fun hp hR _ _ => ?_, fun hr hR hW => ?_⟩
    · refine (drop_no hp (hR _) (hR _) k ho).any.mono ?_
      rintro v h' ⟨rfl, rfl⟩; exact ⟨rfl, hp⟩
    · refine (rdrop_ok hr w hR (hW _ hr.lt.2.2.1) k).any.mono ?_
      rintro v h' ⟨rfl, hr'⟩
      rw [if_pos ho]
      rw [if_neg ho] at hr'
      exact ⟨rfl, _, hr'⟩
theorem drops_both {S : PS} (w : WF S) (k : Int) : ∃ x y S', BothT true S 21 48 [.int .i64 k] (.tuple [.int .i64 x, .int .i64 y]) S' := by
  by_cases hk : 0 ≤ k ∧ k < S.na
  · obtain ⟨a, rfl⟩ := Int.eq_ofNat_of_zero_le hk.1
    have ha : a < S.na := by omega
    refine ⟨S.us a, 0, S.drops a, w.drops ha, rfl, rfl, fun hp hR hf hu => drops_ok hp w hR hf hu ha, fun hr hR hW => ?_⟩
    refine (rdrops_ok hr w hR hW ha).any.mono ?_
    rintro v h' ⟨rfl, hr'⟩; exact ⟨rfl, _, hr'⟩
  · refine ⟨0, 2, S, w, rfl, rfl, fun hp hR hf hu => drops_bad hp hR k hk, fun hr hR hW => ?_⟩
    refine (rdrops_bad hr hR k hk).any.mono ?_
    rintro v h' ⟨rfl, rfl⟩; exact ⟨rfl, _, hr⟩
theorem copy_both {dd : Bool} {S : PS} (w : WF S) (k l : Int) : ∃ x S', BothT dd S 28 53 [.int .i64 k, .int .i64 l] (.int .i64 x) S' := by
  by_cases ho : Owned S k ∧ Owned S l
  · obtain ⟨⟨a0, a1, a2⟩, ⟨b0, b1, b2⟩⟩ := ho
    obtain ⟨i, rfl⟩ := Int.eq_ofNat_of_zero_le a0
    obtain ⟨j, rfl⟩ := Int.eq_ofNat_of_zero_le b0
    exact ⟨0, S.cpy i j, w.cpy i j, rfl, rfl, fun hp hR hf hu => (copy_at hp hR hf (by omega) (by omega) a2 b2).any, fun hr hR hW => (rcopy_at hr w hR hW (by omega) (by omega) a2 b2).any⟩
  · refine ⟨6, S, w, rfl, rfl, fun hp hR _ _ => ?_, fun hr hR hW => ?_⟩
    · refine (copy_no hp hR k l ho).any.mono ?_
      rintro v h' ⟨rfl, rfl⟩; exact ⟨rfl, hp⟩
    · refine (rcopy_no hr w hR k l ho).any.mono ?_
      rintro v h' ⟨rfl, rfl⟩; exact ⟨rfl, _, hr⟩
/-- What both answer of bytes that are put: the program's of lent ones. -/
theorem put_both {dd : Bool} {S : PS} (w : WF S) (k at' : Int) {m : Nat} (hm8 : m ≤ 1048576) (g : Nat → Int) : ∃ x S', WF S' ∧ S'.n = S.n ∧ S'.na = S.na ∧
    (∀ {h : Heap} {R W : Set'} {bp : Nat} {L : PL} {v : V} {nb : Nat}, PoolAt h bp L S → LentV h v nb m g → (∀ b, R b) → W L.fb → SF ⟨Try.prog, dd⟩ 17 [.ptr (some (bp, 0)), .int .i64 k, .int .i64 at', v] h R W fun r h' => r = .int .i64 x ∧ PoolAt h' bp L S') ∧
    (∀ {h : Heap} {R W Rv : Set'} {n0 rd : Nat} {rl : RL} {bv : Nat → V} {v : V}, RPool h n0 rd rl S bv → BytesV h Rv v m g → (∀ b, Rv b → b < n0) → (∀ b, R b) → (∀ i b y, i < S.n → bv i = .slice (some (b, 0)) 256 256 y → W b) → SF ⟨Try.prog, dd⟩ 50 [.ptr (some (rd, 0)), .int .i64 k, .int .i64 at', v] h R W fun r h' => r = .int .i64 x ∧ RPool h' n0 rd rl S' bv) := by
  by_cases hk : 0 ≤ at' ∧ at' < 256 ∧ m ≤ 256 - at'
  · by_cases ho : Owned S k
    · obtain ⟨k0, k1, k2⟩ := ho
      obtain ⟨i, rfl⟩ := Int.eq_ofNat_of_zero_le k0
      obtain ⟨j, rfl⟩ := Int.eq_ofNat_of_zero_le hk.1
      have hi : i < S.n := by omega
      refine ⟨0, S.put i j m g, w.put i j m g, rfl, rfl, fun hp hv hR hf => (putL_at hp hR hf hv (by omega) k2 (by omega) (by omega)).any, fun hr hv hRv hR hW => (rput_at hr w hR (fun b y e => hW i b y hi e) hv hRv hi k2 (by omega) (by omega)).any⟩
    · refine ⟨6, S, w, rfl, rfl, fun hp hv hR hf => ?_, fun hr hv hRv hR hW => ?_⟩
      · refine (putL_none hp hR hv hm8 k at' hk ho).any.mono ?_
        rintro v h' ⟨rfl, rfl⟩; exact ⟨rfl, hp⟩
      · refine (rput_none hr w hR hv k at' hk ho).any.mono ?_
        rintro v h' ⟨rfl, rfl⟩; exact ⟨rfl, hr⟩
  · refine ⟨2, S, w, rfl, rfl, fun hp hv hR hf => ?_, fun hr hv hRv hR hW => ?_⟩
    · refine (putL_bad hp hR hv hm8 k at' hk).any.mono ?_
      rintro v h' ⟨rfl, rfl⟩; exact ⟨rfl, hp⟩
    · refine (rput_bad hr hR hv k at' hk).any.mono ?_
      rintro v h' ⟨rfl, rfl⟩; exact ⟨rfl, hr⟩
end Go.Proofs.Ytfgdpgagcnelpaa
