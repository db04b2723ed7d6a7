/- The log, plainly: bytes, heads, records. No program here. -/
import Derived.Test.YtakgjjbmniilhaaV4
set_option linter.unusedVariables false
set_option linter.unusedSimpArgs false
set_option linter.unusedSimpArgs false
set_option maxRecDepth 100000
set_option linter.unusedVariables false
set_option linter.unusedSimpArgs false
namespace Go.Proofs.Ytakgjjbmniilhaa
open Go Go.Vm
def Byt (l : List V) : Prop := ∀ v ∈ l, ∃ n : Int, v = .int .u8 n ∧ 0 ≤ n ∧ n ≤ 255
def bN : V → Nat
  | .int .u8 n => n.toNat
  | _ => 0
def bV (n : Nat) : V := .int .u8 ((n % 256 : Nat) : Int)
theorem bN_bV (n : Nat) : bN (bV n) = n % 256 := by simp [bN, bV]; omega
theorem bN_lt {l : List V} (hl : Byt l) {v : V} (hv : v ∈ l) : bN v < 256 ∧ v = .int .u8 (bN v : Int) := by
  obtain ⟨n, rfl, h1, h2⟩ := hl v hv
  simp only [bN]
  exact ⟨by omega, by rw [Int.toNat_of_nonneg h1]⟩
theorem byt_bV (n : Nat) : ∃ m : Int, bV n = .int .u8 m ∧ 0 ≤ m ∧ m ≤ 255 := ⟨_, rfl, by omega, by omega⟩
theorem Byt.nil : Byt [] := fun _ h => by cases h
theorem Byt.app {a b : List V} (ha : Byt a) (hb : Byt b) : Byt (a ++ b) := fun v hv => (List.mem_append.1 hv).elim (ha v) (hb v)
theorem Byt.cons {a : V} {b : List V} (ha : ∃ n : Int, a = .int .u8 n ∧ 0 ≤ n ∧ n ≤ 255) (hb : Byt b) : Byt (a :: b) := fun v hv => by
  rcases List.mem_cons.1 hv with rfl | h
  · exact ha
  · exact hb v h
theorem Byt.sub {a b : List V} (hb : Byt b) (h : ∀ v ∈ a, v ∈ b) : Byt a := fun v hv => hb v (h v hv)
theorem Byt.take {b : List V} (hb : Byt b) (k : Nat) : Byt (b.take k) := hb.sub fun _ h => List.mem_of_mem_take h
theorem Byt.drop {b : List V} (hb : Byt b) (k : Nat) : Byt (b.drop k) := hb.sub fun _ h => List.mem_of_mem_drop h
theorem Byt.allOne : ∀ {l : List V}, Byt l → allOne l = true
  | [], _ => rfl
  | v :: r, h => by
    obtain ⟨n, rfl, _⟩ := h v (by simp)
    exact allOne (l := r) fun v hv => h v (by simp [hv])
def zB (k : Nat) : List V := List.replicate k (.int .u8 0)
theorem zB_len (k : Nat) : (zB k).length = k := by simp [zB]
theorem byt_zB (k : Nat) : Byt (zB k) := fun v hv => ⟨0, (List.mem_replicate.1 hv).2, by omega, by omega⟩
def padB (l : List V) : List V := l ++ zB (128 - l.length)
theorem padB_len {l : List V} (h : l.length ≤ 128) : (padB l).length = 128 := by simp [padB, zB]; omega
theorem byt_padB {l : List V} (h : Byt l) : Byt (padB l) := h.app (byt_zB _)
def lebB : Nat → Nat → List V
  | 0, n => [bV n]
  | k + 1, n => if n ≤ 127 then [bV n] else bV (n % 128 + 128) :: lebB k (n / 128)
def leb (n : Nat) : List V := lebB 9 n
theorem lebB_len : ∀ (k n : Nat), 1 ≤ (lebB k n).length ∧ (lebB k n).length ≤ k + 1
  | 0, n => by simp [lebB]
  | k + 1, n => by
    unfold lebB
    split
    · simp
    · have := lebB_len k (n / 128); simp; omega
theorem leb_len (n : Nat) : (leb n).length ≤ 10 := (lebB_len 9 n).2
theorem byt_lebB : ∀ (k n : Nat), Byt (lebB k n)
  | 0, n => Byt.cons (byt_bV n) Byt.nil
  | k + 1, n => by
    unfold lebB
    split
    · exact Byt.cons (byt_bV n) Byt.nil
    · exact Byt.cons (byt_bV _) (byt_lebB k _)
theorem byt_leb (n : Nat) : Byt (leb n) := byt_lebB 9 n
def rdB : Nat → Nat → List V → Option (Nat × List V)
  | _, _, [] => none
  | s, a, c :: r => if (s = 63 ∧ 1 < bN c) ∨ (0 < s ∧ bN c = 0) then none
    else if bN c < 128 then some (a + bN c % 128 * 2 ^ s, r) else rdB (s + 7) (a + bN c % 128 * 2 ^ s) r
def rd (l : List V) : Option (Nat × List V) := rdB 0 0 l
theorem rd_lebB : ∀ (k s a n : Nat) (r : List V), s + 7 * k = 63 → n < 2 ^ (7 * k + 1) → (0 < s → 0 < n) → rdB s a (lebB k n ++ r) = some (a + n * 2 ^ s, r)
  | 0, s, a, n, r, hs, hn, hp => by
    obtain rfl : s = 63 := by omega
    have hn2 : n ≤ 1 := by simp at hn; omega
    have hp := hp (by omega)
    obtain rfl : n = 1 := by omega
    simp [lebB, rdB, bN_bV]
  | k + 1, s, a, n, r, hs, hn, hp => by
    unfold lebB
    split
    · rename_i h127
      have e : n % 256 = n := Nat.mod_eq_of_lt (by omega)
      simp only [List.singleton_append, rdB, bN_bV, e]
      rw [if_neg (by omega), if_pos (by omega), Nat.mod_eq_of_lt (by omega)]
    · rename_i h127
      have e : (n % 128 + 128) % 256 = n % 128 + 128 := Nat.mod_eq_of_lt (by omega)
      simp only [List.cons_append, rdB, bN_bV, e]
      have e2 : (n % 128 + 128) % 128 = n % 128 := by omega
      rw [if_neg (by omega), if_neg (by omega), e2, rd_lebB k (s + 7) _ (n / 128) r (by omega) ?_ (fun _ => by omega)]
      · have h3 : 2 ^ (s + 7) = 2 ^ s * 128 := by rw [Nat.pow_add]
        have h4 : n = n % 128 + 128 * (n / 128) := by omega
        rw [h3, Nat.add_assoc]
        congr 2
        conv => rhs; rw [h4, Nat.add_mul]
        congr 1
        rw [Nat.mul_comm (2 ^ s) 128, ← Nat.mul_assoc, Nat.mul_comm (n / 128) 128]
      · have : 2 ^ (7 * (k + 1) + 1) = 2 ^ (7 * k + 1) * 128 := by rw [show 7 * (k + 1) + 1 = 7 * k + 1 + 7 by omega, Nat.pow_add]
        rw [this] at hn
        exact Nat.div_lt_of_lt_mul (by rw [Nat.mul_comm]; exact hn)
theorem rd_leb {n : Nat} (hn : n < 18446744073709551616) (r : List V) : rd (leb n ++ r) = some (n, r) := by
  have := rd_lebB 9 0 0 n r (by omega) (by simpa using hn) (by omega)
  simpa [rd, leb] using this
def rdL : Nat → List V → Option (List Nat)
  | 0, _ => some []
  | k + 1, l => match rd l with
    | none => none
    | some (n, r) => match rdL k r with
      | none => none
      | some ns => some (n :: ns)
structure Hd where
  ep : Nat
  si : Nat
  ha : Nat
  sz : Nat
  fi : Nat
  deriving DecidableEq
def Hd.l (h : Hd) : List Nat := [71, h.ep, h.si, h.ha, h.sz, h.fi]
def joinB (h : Hd) : List V := (h.l.map leb).flatten
def putH (h : Hd) : List V := padB (joinB h)
theorem joinB_len (h : Hd) : (joinB h).length ≤ 60 := by
  have h0 := leb_len 71
  have h1 := leb_len h.ep
  have h2 := leb_len h.si
  have h3 := leb_len h.ha
  have h4 := leb_len h.sz
  have h5 := leb_len h.fi
  simp [joinB, Hd.l]; omega
theorem byt_joinB (h : Hd) : Byt (joinB h) := by
  intro v hv
  simp only [joinB, List.mem_flatten, List.mem_map] at hv
  obtain ⟨l, ⟨n, _, rfl⟩, hv⟩ := hv
  exact byt_leb n v hv
theorem putH_len (h : Hd) : (putH h).length = 128 := padB_len (by have := joinB_len h; omega)
theorem byt_putH (h : Hd) : Byt (putH h) := byt_padB (byt_joinB h)
open Classical in
noncomputable def headA (b : List V) : Option Hd := match rdL 6 b with
  | some [m, ep, si, ha, sz, fi] => if m = 71 ∧ si ≤ ep ∧ ha < 2 ∧ 1 ≤ fi ∧ putH ⟨ep, si, ha, sz, fi⟩ = b then some ⟨ep, si, ha, sz, fi⟩ else none
  | _ => none
structure Hd.Ok (h : Hd) : Prop where
  ep : h.ep < 18446744073709551616
  si : h.si ≤ h.ep
  ha : h.ha < 2
  sz : h.sz < 18446744073709551616
  fi : 1 ≤ h.fi ∧ h.fi < 18446744073709551616
theorem rdL_join : ∀ (L : List Nat) (r : List V), (∀ n ∈ L, n < 18446744073709551616) → rdL L.length ((L.map leb).flatten ++ r) = some L
  | [], _, _ => rfl
  | n :: L, r, h => by
    simp only [List.length_cons, List.map_cons, List.flatten_cons, List.append_assoc, rdL, rd_leb (h n (by simp)), rdL_join L r fun m hm => h m (by simp [hm])]
theorem head_put {h : Hd} (ho : h.Ok) : headA (putH h) = some h := by
  have e : rdL 6 (putH h) = some h.l := rdL_join h.l _ fun n hn => by
    have := ho.ep; have := ho.si; have := ho.ha; have := ho.sz; have := ho.fi
    simp only [Hd.l, List.mem_cons, List.not_mem_nil, or_false] at hn
    rcases hn with rfl | rfl | rfl | rfl | rfl | rfl <;> omega
  unfold headA
  rw [e]
  exact if_pos ⟨rfl, ho.si, ho.ha, ho.fi.1, rfl⟩
theorem headA_some {b : List V} {h : Hd} (e : headA b = some h) : putH h = b ∧ h.si ≤ h.ep ∧ h.ha < 2 ∧ 1 ≤ h.fi := by
  unfold headA at e
  split at e
  · split at e
    · rename_i hc
      cases e
      exact ⟨hc.2.2.2.2, hc.2.1, hc.2.2.1, hc.2.2.2.1⟩
    · cases e
  · cases e
theorem putH_ne (h : Hd) : putH h ≠ zB 128 := fun e => by
  have h1 : (putH h)[0]? = some (bV 71) := rfl
  rw [e] at h1
  have h2 : (zB 128)[0]? = some (.int .u8 0) := rfl
  rw [h2] at h1
  have h3 := congrArg bN (Option.some.inj h1)
  rw [bN_bV] at h3
  exact absurd h3 (by decide)
def mayH (n i : Nat) (h : Hd) : Prop := h.ep ≠ 0 ∧ h.ep % 2 = i ∧ h.ep ≤ 4611686018427387904 ∧ h.fi ≤ 4611686018427387904 ∧ h.sz ≤ n * 120
instance (n i : Nat) (h : Hd) : Decidable (mayH n i h) := by unfold mayH; exact inferInstance
def h00 : Hd := ⟨0, 0, 0, 0, 1⟩
open Classical in
noncomputable def whichS (n i : Nat) (b : List V) (out : Hd) : Option Hd := if b = zB 128 then some out else match headA b with
  | none => none
  | some h => if mayH n i h then some (if out.ep < h.ep then h else out) else none
noncomputable def whichA (n : Nat) (b0 b1 : List V) : Option Hd := (whichS n 0 b0 h00).bind (whichS n 1 b1)
def bigB (n : Nat) : List V := [bV (n / 72057594037927936), bV (n / 281474976710656), bV (n / 1099511627776), bV (n / 4294967296), bV (n / 16777216), bV (n / 65536), bV (n / 256), bV n]
def numB (l : List V) : Nat := l.foldl (fun n c => n * 256 + bN c) 0
theorem bigB_len (n : Nat) : (bigB n).length = 8 := rfl
theorem byt_bigB (n : Nat) : Byt (bigB n) := by
  unfold bigB
  repeat refine Byt.cons (byt_bV _) ?_
  exact Byt.nil
theorem num_big {n : Nat} (hn : n < 18446744073709551616) : numB (bigB n) = n := by
  simp only [numB, bigB, List.foldl, bN_bV]
  omega
def partB (num ep pl of : Nat) (dat : List V) : List V := padB (bigB num ++ bigB ep ++ [bV pl, bV of, bV dat.length] ++ dat)
theorem part_len (num ep pl of : Nat) {dat : List V} (h : dat.length ≤ 108) : (partB num ep pl of dat).length = 128 := padB_len (by simp [bigB_len]; omega)
theorem byt_part (num ep pl of : Nat) {dat : List V} (h : Byt dat) : Byt (partB num ep pl of dat) := byt_padB (((byt_bigB _).app (byt_bigB _)).app (Byt.cons (byt_bV _) (Byt.cons (byt_bV _) (Byt.cons (byt_bV _) Byt.nil))) |>.app h)
structure Rc where
  num : Nat
  ep : Nat
  pl : Nat
  of : Nat
  dat : List V
def bAt (b : List V) (i : Nat) : Nat := bN (b.getD i undefV)
def okR (n pl of : Nat) : Prop := n ≤ 108 ∧ 1 ≤ of ∧ of ≤ 64 ∧ pl < of ∧ (pl + 1 < of → n = 108) ∧ (1 < of → n ≠ 0)
instance (n pl of : Nat) : Decidable (okR n pl of) := by unfold okR; exact inferInstance
def rawR (b : List V) : Rc := ⟨numB (b.take 8), numB ((b.drop 8).take 8), bAt b 16, bAt b 17, (b.drop 19).take (bAt b 18)⟩
def Rc.put (r : Rc) : List V := partB r.num r.ep r.pl r.of r.dat
open Classical in
noncomputable def recA (b : List V) : Option Rc := if okR (bAt b 18) (bAt b 16) (bAt b 17) ∧ (rawR b).put = b then some (rawR b) else none
theorem recA_some {b : List V} {r : Rc} (h : recA b = some r) : r = rawR b ∧ okR (bAt b 18) r.pl r.of ∧ r.put = b := by
  unfold recA at h
  split at h
  · rename_i hc
    cases h
    exact ⟨rfl, hc.1, hc.2⟩
  · cases h
theorem part_parts (num ep pl of : Nat) (dat : List V) : (partB num ep pl of dat).take 8 = bigB num ∧ ((partB num ep pl of dat).drop 8).take 8 = bigB ep ∧ (partB num ep pl of dat).drop 16 = [bV pl, bV of, bV dat.length] ++ dat ++ zB (128 - (19 + dat.length)) := by
  have e : partB num ep pl of dat = bigB num ++ (bigB ep ++ ([bV pl, bV of, bV dat.length] ++ dat ++ zB (128 - (19 + dat.length)))) := by
    unfold partB padB
    simp only [List.append_assoc, List.length_append, bigB_len, List.length_cons, List.length_nil]
    congr 5
    omega
  rw [e]
  refine ⟨?_, ?_, ?_⟩
  · rw [List.take_append_of_le_length (by simp [bigB_len]), List.take_of_length_le (by simp [bigB_len])]
  · rw [show (8 : Nat) = (bigB num).length from rfl, List.drop_left, show (bigB num).length = (bigB ep).length from rfl, List.take_left]
  · rw [← List.append_assoc, show (16 : Nat) = (bigB num ++ bigB ep).length from rfl, List.drop_left]
theorem bAt_drop (b : List V) (k i : Nat) : bAt (b.drop k) i = bAt b (k + i) := by
  unfold bAt
  rw [List.getD_eq_getElem?_getD, List.getD_eq_getElem?_getD, List.getElem?_drop]
theorem raw_part {num ep pl of : Nat} {dat : List V} (hn : num < 18446744073709551616) (he : ep < 18446744073709551616) (hp : pl < 256) (ho : of < 256) (hd : dat.length ≤ 108) : rawR (partB num ep pl of dat) = ⟨num, ep, pl, of, dat⟩ ∧ bAt (partB num ep pl of dat) 18 = dat.length := by
  obtain ⟨h1, h2, h3⟩ := part_parts num ep pl of dat
  have b16 : bAt (partB num ep pl of dat) 16 = pl := by
    rw [show (16 : Nat) = 16 + 0 from rfl, ← bAt_drop, h3]
    exact (bN_bV pl).trans (Nat.mod_eq_of_lt hp)
  have b17 : bAt (partB num ep pl of dat) 17 = of := by
    rw [show (17 : Nat) = 16 + 1 from rfl, ← bAt_drop, h3]
    exact (bN_bV of).trans (Nat.mod_eq_of_lt ho)
  have b18 : bAt (partB num ep pl of dat) 18 = dat.length := by
    rw [show (18 : Nat) = 16 + 2 from rfl, ← bAt_drop, h3]
    exact (bN_bV _).trans (Nat.mod_eq_of_lt (by omega))
  refine ⟨?_, b18⟩
  unfold rawR
  rw [h1, h2, b16, b17, b18, num_big hn, num_big he, show (19 : Nat) = 16 + 3 from rfl, ← List.drop_drop, h3]
  congr 1
  rw [List.append_assoc, show (3 : Nat) = [bV pl, bV of, bV dat.length].length from rfl, List.drop_left, List.take_left]
theorem rec_part {num ep pl of : Nat} {dat : List V} (hn : num < 18446744073709551616) (he : ep < 18446744073709551616) (ho : okR dat.length pl of) : recA (partB num ep pl of dat) = some ⟨num, ep, pl, of, dat⟩ := by
  have ho0 := ho
  obtain ⟨h1, h2, h3, h4, _⟩ := ho
  obtain ⟨r1, r2⟩ := raw_part hn he (show pl < 256 by omega) (show of < 256 by omega) h1
  have b16 : bAt (partB num ep pl of dat) 16 = pl := congrArg Rc.pl r1
  have b17 : bAt (partB num ep pl of dat) 17 = of := congrArg Rc.of r1
  unfold recA
  rw [r2, b16, b17, r1]
  exact if_pos ⟨ho0, rfl⟩
end Go.Proofs.Ytakgjjbmniilhaa
