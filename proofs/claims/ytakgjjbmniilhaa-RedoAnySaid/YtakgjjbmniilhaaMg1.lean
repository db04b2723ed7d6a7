/- The log, plainly: bytes, heads, records. No program here. -/
import Derived.Test.YtakgjjbmniilhaaV4
import Derived.Test.YtakgjjbmniilhaaTy
import Derived.Test.YtakgjjbmniilhaaIrP
import Derived.Test.YtakgjjbmniilhaaDX
import Derived.IntWalk
set_option linter.unusedVariables false
set_option maxRecDepth 100000
set_option linter.unusedVariables false
namespace Go.Proofs.Ytakgjjbmniilhaa
open Go Go.Vm
def Byt (l : List V) : Prop := ∀ v ∈ l, ∃ n : Int, v = .int .u8 n ∧ 0 ≤ n ∧ n ≤ 255
def bN : V → Nat
 | .int .u8 n => n.toNat
 | _ => 0
def bV (n : Nat) : V := .int .u8 ((n % 256 : Nat) : Int)
theorem bN_bV (n : Nat) : bN (bV n) = n % 256 := by simp [bN, bV]; omega
theorem bN_lt {l : List V} (hl : Byt l) {v : V} (hv : v ∈ l) : bN v < 256 ∧ v = .int .u8 (bN v : Int) := by
 obtain ⟨n, rfl, h1, h2⟩ := hl v hv
 simp only [bN]
 exact ⟨by omega, by rw [Int.toNat_of_nonneg h1]⟩
theorem xI (n : Nat) : ∃ m : Int, bV n = .int .u8 m ∧ 0 ≤ m ∧ m ≤ 255 := ⟨_, rfl, by omega, by omega⟩
theorem Byt.nil : Byt [] := fun _ h => by cases h
theorem Byt.app {a b : List V} (ha : Byt a) (hb : Byt b) : Byt (a ++ b) := fun v hv => (List.mem_append.1 hv).elim (ha v) (hb v)
theorem Byt.cons {a : V} {b : List V} (ha : ∃ n : Int, a = .int .u8 n ∧ 0 ≤ n ∧ n ≤ 255) (hb : Byt b) : Byt (a :: b) := fun v hv => by
 rcases List.mem_cons.1 hv with rfl | h
 ·exact ha
 ·exact hb v h
theorem Byt.sub {a b : List V} (hb : Byt b) (h : ∀ v ∈ a, v ∈ b) : Byt a := fun v hv => hb v (h v hv)
theorem Byt.take {b : List V} (hb : Byt b) (k : Nat) : Byt (b.take k) := hb.sub fun _ h => List.mem_of_mem_take h
theorem Byt.drop {b : List V} (hb : Byt b) (k : Nat) : Byt (b.drop k) := hb.sub fun _ h => List.mem_of_mem_drop h
theorem Byt.allOne : ∀ {l : List V}, Byt l → allOne l = true
 | [], _ => rfl
 | v :: r, h => by
  obtain ⟨n, rfl, _⟩ := h v (by simp)
  exact allOne (l := r) fun v hv => h v (by simp [hv])
def zB (k : Nat) : List V := List.replicate k (.int .u8 0)
theorem zB_len (k : Nat) : (zB k).length = k := by simp [zB]
theorem byt_zB (k : Nat) : Byt (zB k) := fun v hv => ⟨0, (List.mem_replicate.1 hv).2, by omega, by omega⟩
def padB (l : List V) : List V := l ++ zB (128 - l.length)
theorem padB_len {l : List V} (h : l.length ≤ 128) : (padB l).length = 128 := by simp [padB, zB]; omega
theorem byt_padB {l : List V} (h : Byt l) : Byt (padB l) := h.app (byt_zB _)
def lebB : Nat → Nat → List V
 | 0, n => [bV n]
 | k + 1, n => if n ≤ 127 then [bV n] else bV (n % 128 + 128) :: lebB k (n / 128)
def leb (n : Nat) : List V := lebB 9 n
theorem lebB_len : ∀ (k n : Nat), 1 ≤ (lebB k n).length ∧ (lebB k n).length ≤ k + 1
 | 0, n => by simp [lebB]
 | k + 1, n => by
  unfold lebB
  split
  ·simp
  ·have := lebB_len k (n / 128); simp; omega
theorem leb_len (n : Nat) : (leb n).length ≤ 10 := (lebB_len 9 n).2
theorem byt_lebB : ∀ (k n : Nat), Byt (lebB k n)
 | 0, n => Byt.cons (xI n) Byt.nil
 | k + 1, n => by
  unfold lebB
  split
  ·exact Byt.cons (xI n) Byt.nil
  ·exact Byt.cons (xI _) (byt_lebB k _)
theorem byt_leb (n : Nat) : Byt (leb n) := byt_lebB 9 n
def rdB : Nat → Nat → List V → Option (Nat × List V)
 | _, _, [] => none
 | s, a, c :: r => if (s = 63 ∧ 1 < bN c) ∨ (0 < s ∧ bN c = 0) then none
  else if bN c < 128 then some (a + bN c % 128 * 2 ^ s, r) else rdB (s + 7) (a + bN c % 128 * 2 ^ s) r
def rd (l : List V) : Option (Nat × List V) := rdB 0 0 l
theorem rd_lebB : ∀ (k s a n : Nat) (r : List V), s + 7 * k = 63 → n < 2 ^ (7 * k + 1) → (0 < s → 0 < n) → rdB s a (lebB k n ++ r) = some (a + n * 2 ^ s, r)
 | 0, s, a, n, r, hs, hn, hp => by
  obtain rfl : s = 63 := by omega
  have hn2 : n ≤ 1 := by simp at hn; omega
  have hp := hp (by omega)
  obtain rfl : n = 1 := by omega
  simp [lebB, rdB, bN_bV]
 | k + 1, s, a, n, r, hs, hn, hp => by
  unfold lebB
  split
  ·rename_i h127
   have e : n % 256 = n := Nat.mod_eq_of_lt (by omega)
   simp only [List.singleton_append, rdB, bN_bV, e]
   rw [if_neg (by omega), if_pos (by omega), Nat.mod_eq_of_lt (by omega)]
  ·rename_i h127
   have e : (n % 128 + 128) % 256 = n % 128 + 128 := Nat.mod_eq_of_lt (by omega)
   simp only [List.cons_append, rdB, bN_bV, e]
   have e2 : (n % 128 + 128) % 128 = n % 128 := by omega
   rw [if_neg (by omega), if_neg (by omega), e2, rd_lebB k (s + 7) _ (n / 128) r (by omega) ?_ (fun _ => by omega)]
   ·have h3 : 2 ^ (s + 7) = 2 ^ s * 128 := by rw [Nat.pow_add]
    have h4 : n = n % 128 + 128 * (n / 128) := by omega
    rw [h3, Nat.add_assoc]
    congr 2
    conv => rhs; rw [h4, Nat.add_mul]
    congr 1
    rw [Nat.mul_comm (2 ^ s) 128, ← Nat.mul_assoc, Nat.mul_comm (n / 128) 128]
   ·have : 2 ^ (7 * (k + 1) + 1) = 2 ^ (7 * k + 1) * 128 := by rw [show 7 * (k + 1) + 1 = 7 * k + 1 + 7 by omega, Nat.pow_add]
    rw [this] at hn
    exact Nat.div_lt_of_lt_mul (by rw [Nat.mul_comm]; exact hn)
theorem rd_leb {n : Nat} (hn : n < 18446744073709551616) (r : List V) : rd (leb n ++ r) = some (n, r) := by
 have := rd_lebB 9 0 0 n r (by omega) (by simpa using hn) (by omega)
 simpa [rd, leb] using this
def rdL : Nat → List V → Option (List Nat)
 | 0, _ => some []
 | k + 1, l => match rd l with
  | none => none
  | some (n, r) => match rdL k r with
   | none => none
   | some ns => some (n :: ns)
structure Hd where
 ep : Nat
 si : Nat
 ha : Nat
 sz : Nat
 fi : Nat
 deriving DecidableEq
def Hd.l (h : Hd) : List Nat := [71, h.ep, h.si, h.ha, h.sz, h.fi]
def joinB (h : Hd) : List V := (h.l.map leb).flatten
def putH (h : Hd) : List V := padB (joinB h)
theorem joinB_len (h : Hd) : (joinB h).length ≤ 60 := by
 have h0 := leb_len 71
 have h1 := leb_len h.ep
 have h2 := leb_len h.si
 have h3 := leb_len h.ha
 have h4 := leb_len h.sz
 have h5 := leb_len h.fi
 simp [joinB, Hd.l]; omega
theorem byt_joinB (h : Hd) : Byt (joinB h) := by
 intro v hv
 simp only [joinB, List.mem_flatten, List.mem_map] at hv
 obtain ⟨l, ⟨n, _, rfl⟩, hv⟩ := hv
 exact byt_leb n v hv
theorem putH_len (h : Hd) : (putH h).length = 128 := padB_len (by have := joinB_len h; omega)
theorem byt_putH (h : Hd) : Byt (putH h) := byt_padB (byt_joinB h)
open Classical in
noncomputable def headA (b : List V) : Option Hd := match rdL 6 b with
 | some [m, ep, si, ha, sz, fi] => if m = 71 ∧ si ≤ ep ∧ ha < 2 ∧ 1 ≤ fi ∧ putH ⟨ep, si, ha, sz, fi⟩ = b then some ⟨ep, si, ha, sz, fi⟩ else none
 | _ => none
structure Hd.Ok (h : Hd) : Prop where
 ep : h.ep < 18446744073709551616
 si : h.si ≤ h.ep
 ha : h.ha < 2
 sz : h.sz < 18446744073709551616
 fi : 1 ≤ h.fi ∧ h.fi < 18446744073709551616
theorem rdL_join : ∀ (L : List Nat) (r : List V), (∀ n ∈ L, n < 18446744073709551616) → rdL L.length ((L.map leb).flatten ++ r) = some L
 | [], _, _ => rfl
 | n :: L, r, h => by
  simp only [List.length_cons, List.map_cons, List.flatten_cons, List.append_assoc, rdL, rd_leb (h n (by simp)), rdL_join L r fun m hm => h m (by simp [hm])]
theorem head_put {h : Hd} (ho : h.Ok) : headA (putH h) = some h := by
 have e : rdL 6 (putH h) = some h.l := rdL_join h.l _ fun n hn => by
  have := ho.ep; have := ho.si; have := ho.ha; have := ho.sz; have := ho.fi
  simp only [Hd.l, List.mem_cons, List.not_mem_nil, or_false] at hn
  rcases hn with rfl | rfl | rfl | rfl | rfl | rfl <;> omega
 unfold headA
 rw [e]
 exact if_pos ⟨rfl, ho.si, ho.ha, ho.fi.1, rfl⟩
theorem headA_some {b : List V} {h : Hd} (e : headA b = some h) : putH h = b ∧ h.si ≤ h.ep ∧ h.ha < 2 ∧ 1 ≤ h.fi := by
 unfold headA at e
 split at e
 ·split at e
  ·rename_i hc
   cases e
   exact ⟨hc.2.2.2.2, hc.2.1, hc.2.2.1, hc.2.2.2.1⟩
  ·cases e
 ·cases e
theorem putH_ne (h : Hd) : putH h ≠ zB 128 := fun e => by
 have h1 : (putH h)[0]? = some (bV 71) := rfl
 rw [e] at h1
 have h2 : (zB 128)[0]? = some (.int .u8 0) := rfl
 rw [h2] at h1
 have h3 := congrArg bN (Option.some.inj h1)
 rw [bN_bV] at h3
 exact absurd h3 (by decide)
def mayH (n i : Nat) (h : Hd) : Prop := h.ep ≠ 0 ∧ h.ep % 2 = i ∧ h.ep ≤ 4611686018427387904 ∧ h.fi ≤ 4611686018427387904 ∧ h.sz ≤ n * 120
instance (n i : Nat) (h : Hd) : Decidable (mayH n i h) := by unfold mayH; exact inferInstance
def h00 : Hd := ⟨0, 0, 0, 0, 1⟩
open Classical in
noncomputable def zW (n i : Nat) (b : List V) (out : Hd) : Option Hd := if b = zB 128 then some out else match headA b with
 | none => none
 | some h => if mayH n i h then some (if out.ep < h.ep then h else out) else none
noncomputable def jZ (n : Nat) (b0 b1 : List V) : Option Hd := (zW n 0 b0 h00).bind (zW n 1 b1)
def zK (n : Nat) : List V := [bV (n / 72057594037927936), bV (n / 281474976710656), bV (n / 1099511627776), bV (n / 4294967296), bV (n / 16777216), bV (n / 65536), bV (n / 256), bV n]
def jQ (l : List V) : Nat := l.foldl (fun n c => n * 256 + bN c) 0
theorem yI (n : Nat) : (zK n).length = 8 := rfl
theorem yS (n : Nat) : Byt (zK n) := by
 unfold zK
 repeat refine Byt.cons (xI _) ?_
 exact Byt.nil
theorem num_big {n : Nat} (hn : n < 18446744073709551616) : jQ (zK n) = n := by
 simp only [jQ, zK, List.foldl, bN_bV]
 omega
def kV (num ep pl of : Nat) (dat : List V) : List V := padB (zK num ++ zK ep ++ [bV pl, bV of, bV dat.length] ++ dat)
theorem part_len (num ep pl of : Nat) {dat : List V} (h : dat.length ≤ 108) : (kV num ep pl of dat).length = 128 := padB_len (by simp [yI]; omega)
theorem yT (num ep pl of : Nat) {dat : List V} (h : Byt dat) : Byt (kV num ep pl of dat) := byt_padB (((yS _).app (yS _)).app (Byt.cons (xI _) (Byt.cons (xI _) (Byt.cons (xI _) Byt.nil))) |>.app h)
structure Rc where
 num : Nat
 ep : Nat
 pl : Nat
 of : Nat
 dat : List V
def bAt (b : List V) (i : Nat) : Nat := bN (b.getD i qE)
def okR (n pl of : Nat) : Prop := n ≤ 108 ∧ 1 ≤ of ∧ of ≤ 64 ∧ pl < of ∧ (pl + 1 < of → n = 108) ∧ (1 < of → n ≠ 0)
instance (n pl of : Nat) : Decidable (okR n pl of) := by unfold okR; exact inferInstance
def jA (b : List V) : Rc := ⟨jQ (b.take 8), jQ ((b.drop 8).take 8), bAt b 16, bAt b 17, (b.drop 19).take (bAt b 18)⟩
def Rc.put (r : Rc) : List V := kV r.num r.ep r.pl r.of r.dat
open Classical in
noncomputable def jT (b : List V) : Option Rc := if okR (bAt b 18) (bAt b 16) (bAt b 17) ∧ (jA b).put = b then some (jA b) else none
theorem recA_some {b : List V} {r : Rc} (h : jT b = some r) : r = jA b ∧ okR (bAt b 18) r.pl r.of ∧ r.put = b := by
 unfold jT at h
 split at h
 ·rename_i hc
  cases h
  exact ⟨rfl, hc.1, hc.2⟩
 ·cases h
theorem part_parts (num ep pl of : Nat) (dat : List V) : (kV num ep pl of dat).take 8 = zK num ∧ ((kV num ep pl of dat).drop 8).take 8 = zK ep ∧ (kV num ep pl of dat).drop 16 = [bV pl, bV of, bV dat.length] ++ dat ++ zB (128 - (19 + dat.length)) := by
 have e : kV num ep pl of dat = zK num ++ (zK ep ++ ([bV pl, bV of, bV dat.length] ++ dat ++ zB (128 - (19 + dat.length)))) := by
  unfold kV padB
  simp only [List.append_assoc, List.length_append, yI, List.length_cons, List.length_nil]
  congr 5
  omega
 rw [e]
 refine ⟨?_, ?_, ?_⟩
 ·rw [List.take_append_of_le_length (by simp [yI]), List.take_of_length_le (by simp [yI])]
 ·rw [show (8 : Nat) = (zK num).length from rfl, List.drop_left, show (zK num).length = (zK ep).length from rfl, List.take_left]
 ·rw [← List.append_assoc, show (16 : Nat) = (zK num ++ zK ep).length from rfl, List.drop_left]
theorem bAt_drop (b : List V) (k i : Nat) : bAt (b.drop k) i = bAt b (k + i) := by
 unfold bAt
 rw [List.getD_eq_getElem?_getD, List.getD_eq_getElem?_getD, List.getElem?_drop]
theorem raw_part {num ep pl of : Nat} {dat : List V} (hn : num < 18446744073709551616) (he : ep < 18446744073709551616) (hp : pl < 256) (ho : of < 256) (hd : dat.length ≤ 108) : jA (kV num ep pl of dat) = ⟨num, ep, pl, of, dat⟩ ∧ bAt (kV num ep pl of dat) 18 = dat.length := by
 obtain ⟨h1, h2, h3⟩ := part_parts num ep pl of dat
 have b16 : bAt (kV num ep pl of dat) 16 = pl := by
  rw [show (16 : Nat) = 16 + 0 from rfl, ← bAt_drop, h3]
  exact (bN_bV pl).trans (Nat.mod_eq_of_lt hp)
 have b17 : bAt (kV num ep pl of dat) 17 = of := by
  rw [show (17 : Nat) = 16 + 1 from rfl, ← bAt_drop, h3]
  exact (bN_bV of).trans (Nat.mod_eq_of_lt ho)
 have b18 : bAt (kV num ep pl of dat) 18 = dat.length := by
  rw [show (18 : Nat) = 16 + 2 from rfl, ← bAt_drop, h3]
  exact (bN_bV _).trans (Nat.mod_eq_of_lt (by omega))
 refine ⟨?_, b18⟩
 unfold jA
 rw [h1, h2, b16, b17, b18, num_big hn, num_big he, show (19 : Nat) = 16 + 3 from rfl, ← List.drop_drop, h3]
 congr 1
 rw [List.append_assoc, show (3 : Nat) = [bV pl, bV of, bV dat.length].length from rfl, List.drop_left, List.take_left]
theorem rec_part {num ep pl of : Nat} {dat : List V} (hn : num < 18446744073709551616) (he : ep < 18446744073709551616) (ho : okR dat.length pl of) : jT (kV num ep pl of dat) = some ⟨num, ep, pl, of, dat⟩ := by
 have ho0 := ho
 obtain ⟨h1, h2, h3, h4, _⟩ := ho
 obtain ⟨r1, r2⟩ := raw_part hn he (show pl < 256 by omega) (show of < 256 by omega) h1
 have b16 : bAt (kV num ep pl of dat) 16 = pl := congrArg Rc.pl r1
 have b17 : bAt (kV num ep pl of dat) 17 = of := congrArg Rc.of r1
 unfold jT
 rw [r2, b16, b17, r1]
 exact if_pos ⟨ho0, rfl⟩
end Go.Proofs.Ytakgjjbmniilhaa
set_option maxRecDepth 100000
set_option linter.unusedVariables false
namespace Go.Proofs.Ytakgjjbmniilhaa
open Go Go.Vm
structure LS where
 wn : Nat
 we : Nat
 wp : Nat
 wo : Nat
 rc : List V
 cn : Nat
 rs : List (List V)
 at' : Nat
 nx : Nat
def badL (he : Nat) (s : LS) (r : Rc) : Prop := r.num ≠ s.wn ∨ r.pl ≠ s.wp ∨ (r.pl = 0 ∧ (r.ep < s.we ∨ he < r.ep)) ∨ (0 < r.pl ∧ (r.ep ≠ s.we ∨ r.of ≠ s.wo))
instance (he : Nat) (s : LS) (r : Rc) : Decidable (badL he s r) := by unfold badL; exact inferInstance
def yB (s : LS) (r : Rc) : LS := if r.pl + 1 = r.of then ⟨s.nx + 1, r.ep, 0, 0, [], 0, s.rs ++ [s.rc ++ r.dat], s.at' + (s.cn + 1), s.nx + 1⟩ else ⟨r.num, r.ep, r.pl + 1, r.of, s.rc ++ r.dat, s.cn + 1, s.rs, s.at', s.nx⟩
noncomputable def jU (sec : Nat → List V) (he : Nat) : Nat → Nat → LS → LS
 | 0, _, s => s
 | k + 1, i, s => match jT (sec i) with
  | none => s
  | some r => if badL he s r then s else jU sec he k (i + 1) (yB s r)
def LS.fin (s : LS) : List (List V) × Nat × Nat := (s.rs, s.at', s.nx)
def kN (nx we : Nat) (rs : List (List V)) (at' : Nat) : LS := ⟨nx, we, 0, 0, [], 0, rs, at', nx⟩
noncomputable def tailR (sec : Nat → List V) (lim num ep of : Nat) : Nat → Nat → Nat → List V → Option (List V)
 | 0, _, _, out => some out
 | k + 1, p, i, out => if lim ≤ p then none else match jT (sec p) with
  | none => none
  | some r => if r.num = num ∧ r.ep = ep ∧ r.pl = i ∧ r.of = of then tailR sec lim num ep of k (p + 1) (i + 1) (out ++ r.dat) else none
noncomputable def zO (sec : Nat → List V) (lim a num : Nat) : Option (Nat × List V × Nat) := if lim ≤ a then none else match jT (sec a) with
 | none => none
 | some r => if r.num = num ∧ r.pl = 0 then (tailR sec lim num r.ep r.of (r.of - 1) (a + 1) 1 r.dat).map fun out => (r.ep, out, r.of) else none
theorem run_mid (sec : Nat → List V) (he lim nx e of a : Nat) (rs : List (List V)) : ∀ (k i : Nat) (out : List V), i + k = of → 1 ≤ i → 1 ≤ k →
  (jU sec he (lim - (a + i)) (a + i) ⟨nx, e, i, of, out, i, rs, a, nx⟩).fin = match tailR sec lim nx e of k (a + i) i out with
   | some b => (jU sec he (lim - (a + of)) (a + of) (kN (nx + 1) e (rs ++ [b]) (a + of))).fin
   | none => (rs, a, nx)
 | 0, i, out, _, _, hk => by omega
 | k + 1, i, out, hik, hi, _ => by
  unfold tailR
  by_cases hl : lim ≤ a + i
  ·rw [if_pos hl, show lim - (a + i) = 0 by omega]; rfl
  ·rw [if_neg hl, show lim - (a + i) = lim - (a + i + 1) + 1 by omega]
   rw [jU]
   cases hr : jT (sec (a + i)) with
   | none => rfl
   | some r =>
    by_cases hc : r.num = nx ∧ r.ep = e ∧ r.pl = i ∧ r.of = of
    ·obtain ⟨rfl, rfl, rfl, rfl⟩ := hc
     have hb : ¬ badL he ⟨r.num, r.ep, r.pl, r.of, out, r.pl, rs, a, r.num⟩ r := by unfold badL; simp; omega
     simp only [if_neg hb, and_self, if_true]
     by_cases hk : k = 0
     ·subst hk
      have ho : r.pl + 1 = r.of := by omega
      unfold yB
      rw [if_pos ho, show a + r.pl + 1 = a + r.of by omega]
      simp only [tailR, kN, ho]
     ·unfold yB
      rw [if_neg (by omega)]
      have := run_mid sec he lim r.num r.ep r.of a rs k (r.pl + 1) (out ++ r.dat) (by omega) (by omega) (by omega)
      rw [show a + r.pl + 1 = a + (r.pl + 1) by omega]
      exact this
    ·have hb : badL he ⟨nx, e, i, of, out, i, rs, a, nx⟩ r := by
      unfold badL
      by_cases h1 : r.num = nx
      ·by_cases h2 : r.pl = i
       ·exact .inr (.inr (.inr ⟨by omega, by
         by_cases h3 : r.ep = e
         ·exact .inr fun h4 => hc ⟨h1, h3, h2, h4⟩
         ·exact .inl h3⟩))
       ·exact .inr (.inl h2)
      ·exact .inl h1
     simp only [if_pos hb, if_neg hc]; rfl
theorem recA_of {b : List V} {r : Rc} (h : jT b = some r) : 1 ≤ r.of ∧ r.of ≤ 64 ∧ r.pl < r.of := by
 obtain ⟨_, ⟨_, h2, h3, h4, _⟩, _⟩ := recA_some h
 exact ⟨h2, h3, h4⟩
theorem run_fresh (sec : Nat → List V) (he lim nx we a : Nat) (rs : List (List V)) :
  (jU sec he (lim - a) a (kN nx we rs a)).fin = match zO sec lim a nx with
   | some (e, b, n) => if e < we ∨ he < e then (rs, a, nx) else (jU sec he (lim - (a + n)) (a + n) (kN (nx + 1) e (rs ++ [b]) (a + n))).fin
   | none => (rs, a, nx) := by
 unfold zO
 by_cases hl : lim ≤ a
 ·rw [if_pos hl, show lim - a = 0 by omega]; rfl
 ·rw [if_neg hl, show lim - a = lim - (a + 1) + 1 by omega]
  rw [jU]
  cases hr : jT (sec a) with
  | none => rfl
  | some r =>
   obtain ⟨o1, o2, o3⟩ := recA_of hr
   by_cases hc : r.num = nx ∧ r.pl = 0
   ·obtain ⟨rfl, hp⟩ := hc
    by_cases he' : r.ep < we ∨ he < r.ep
    ·have hb : badL he (kN r.num we rs a) r := .inr (.inr (.inl ⟨hp, he'⟩))
     simp only [if_pos hb, hp, and_self, if_true]
     cases tailR sec lim r.num r.ep r.of (r.of - 1) (a + 1) 1 r.dat with
     | none => rfl
     | some b => simp only [Option.map_some, if_pos he']; rfl
    ·have hb : ¬ badL he (kN r.num we rs a) r := by unfold badL kN; simp; omega
     simp only [if_neg hb, hp, and_self, if_true]
     by_cases h1 : r.of = 1
     ·unfold yB
      rw [if_pos (by omega), show r.of - 1 = 0 by omega]
      simp only [tailR, Option.map_some, if_neg he', h1]
      rfl
     ·unfold yB
      rw [if_neg (by omega)]
      have := run_mid sec he lim r.num r.ep r.of a rs (r.of - 1) 1 r.dat (by omega) (by omega) (by omega)
      rw [hp]
      simp only [kN, List.nil_append]
      rw [this]
      cases tailR sec lim r.num r.ep r.of (r.of - 1) (a + 1) 1 r.dat with
      | none => rfl
      | some b => simp only [Option.map_some, if_neg he']; rfl
   ·have hb : badL he (kN nx we rs a) r := by
     unfold badL kN
     by_cases h1 : r.num = nx
     ·exact .inr (.inl fun h2 => hc ⟨h1, h2⟩)
     ·exact .inl h1
    simp only [if_pos hb, if_neg hc]; rfl
theorem record_of {sec : Nat → List V} {lim a num e n : Nat} {b : List V} (h : zO sec lim a num = some (e, b, n)) : 1 ≤ n ∧ n ≤ 64 ∧ a < lim := by
 unfold zO at h
 split at h
 ·cases h
 ·split at h
  ·cases h
  ·rename_i hr
   split at h
   ·rw [Option.map_eq_some_iff] at h
    obtain ⟨_, _, h⟩ := h
    cases h
    have := recA_of hr
    omega
   ·cases h
end Go.Proofs.Ytakgjjbmniilhaa
set_option maxRecDepth 100000
set_option linter.unusedVariables false
namespace Go.Proofs.Ytakgjjbmniilhaa
open Go Go.Vm
variable {h : Heap} {R W : Set'}
theorem Own.lrf {n0 : Nat} {h : Heap} {v : V} {l : List V} {e : TypeId} (ho : Own n0 h v l e) : LR h (fun b => n0 ≤ b ∧ ∃ c, h.get b = some (.cells c e)) v l := by
 rcases ho with ⟨rfl, rfl | ⟨b, c, rfl, hb0, hb, _⟩⟩ | ⟨b, x, c, h0, rfl, hb0, hb, hs, _, hg⟩
 ·exact .inl ⟨rfl, .inl rfl⟩
 ·exact .inr ⟨b, 0, 0, true, c, e, rfl, ⟨hb0, c, hb⟩, hb, by simp, rfl⟩
 ·exact .inr ⟨b, 0, _, x, c, e, rfl, ⟨hb0, c, hb⟩, hb, by omega, hg⟩
theorem src_3 : srcOk Try.prog 3 = false := by kernel_rfl
theorem inf_5 : ∃ i, Try.prog.info? 5 = some i ∧ i.size = 1 ∧ i.bytes = 1 := ⟨_, rfl, rfl, rfl⟩
theorem zve_5 : zeroV Try.prog 5 = some (.int .u8 0) := by kernel_rfl
theorem make_app {base : Option (Nat × Nat)} {sLen sCap : Nat} {ex : Bool} {k : Nat} {h : Heap} (hk : k ≤ 100000) : appendV Try.prog 22 3 (.slice base sLen sCap ex) (.int .i64 (k : Int)) h = match Nat.ble (sLen + k) sCap with
  | true => xY h base sLen sCap ex 1 k (List.replicate k (.int .u8 0)) []
  | false => match kT h 1 sLen (.slice base sLen sCap ex) with
   | some (olds, rs') => match Nat.beq olds.length (sLen * 1), Nat.ble ((sLen + k) * 1) 140737488355328, Nat.ble (sLen + k) 9223372036854775807 with
    | true, true, true => yM h 5 base sCap ex 1 (sLen + k) olds (List.replicate k (.int .u8 0)) ([] ++ rs')
    | _, _, _ => none
   | none => none := by
 obtain ⟨i, hi, h1, h2⟩ := inf_5
 have hs : appSrcV Try.prog 3 i (.int .u8 0) (.int .i64 (k : Int)) h = some (k, List.replicate k (.int .u8 0), []) := by
  unfold appSrcV
  rw [src_3]
  simp only [Try.underlying3, V.qZ, h1, h2, Int.toNat_natCast]
  rw [if_pos (by omega), zL (rfl : 1 = 1), qW (show k ≤ 9223372036854775807 by omega), qW (show k * 1 ≤ 140737488355328 by omega)]
 unfold appendV
 simp only [Try.underlying22, hi, zve_5, hs, List.length_replicate, h1, h2, V.qZ, List.length_cons, List.length_nil]
 rw [zL (show k = k * 1 by omega), zL (show 0 + 1 = 1 from rfl)]
 simp only []
 cases Nat.ble (sLen + k) sCap with
 | true => rfl
 | false =>
  simp only []
  cases kT h 1 sLen (.slice base sLen sCap ex) with
  | none => rfl
  | some r =>
   simp only []
   cases Nat.beq r.1.length (sLen * 1) <;> cases Nat.ble ((sLen + k) * 1) 140737488355328 <;> cases Nat.ble (sLen + k) 9223372036854775807 <;> rfl
theorem allOne_zero : ∀ k, allOne (List.replicate k (V.int .u8 0)) = true
 | 0 => rfl
 | k + 1 => by rw [List.replicate_succ]; simp only [allOne, V.one, allOne_zero k]
theorem app_zero {n0 k : Nat} {h : Heap} {v : V} {l : List V} (ho : Own n0 h v l 5) (hn : n0 ≤ h.n) (hk : k ≤ 100000) (hl : l.length ≤ 100000) : ∃ v' h' r w, appendV Try.prog 22 3 v (.int .i64 (k : Int)) h = some ⟨v', h', r, w⟩ ∧ Own n0 h' v' (l ++ List.replicate k (.int .u8 0)) 5 ∧ h.n ≤ h'.n ∧ (∀ b, b < n0 → h'.get b = h.get b) ∧ ∀ b ∈ w, n0 ≤ b := by
 have hrl : (List.replicate k (V.int .u8 0)).length = k := List.length_replicate
 have h1 := allOne_zero k
 rcases ho with ⟨rfl, rfl | ⟨b, c, rfl, hb0, hb, hr⟩⟩ | ⟨b, x, c, h0, rfl, hb0, hb, hs, hr, hg⟩
 ·rw [make_app hk, List.nil_append]
  by_cases k0 : k = 0
  ·subst k0
   exact ⟨_, _, _, _, rfl, .inl ⟨rfl, .inl rfl⟩, Nat.le_refl _, fun _ _ => rfl, fun b hb => by cases hb⟩
  ·rw [w_ble_f (by omega)]
   simp only [kT, List.length_nil]
   rw [zL (by omega), qW (by omega), qW (by omega)]
   refine ⟨_, _, _, _, rfl, .inr ⟨h.n, false, Blk.of (List.replicate k (.int .u8 0)), fun e => by have := congrArg List.length e; simp at this; omega, by rw [hrl, Nat.zero_add], hn, by rw [qH rfl]; rfl, rfl, rfl, xK _ rfl⟩, by simp, fun b hb => by rw [qC (by omega)], fun b hb => by cases hb⟩
 ·have hlt := Heap.lt_of_get hb
  rw [make_app hk, List.nil_append]
  by_cases k0 : k = 0
  ·subst k0
   rw [qW (by omega)]
   simp only [xY, hb, List.replicate_zero, List.length_nil, allOne, hr]
   rw [qW (by omega)]
   refine ⟨_, _, _, _, rfl, .inl ⟨rfl, .inr ⟨b, _, rfl, hb0, by rw [qF hlt rfl], by rw [Blk.yU]; exact hr⟩⟩, by simp, fun b' hb' => by rw [qB hlt (by omega)], fun b' hb' => by simp at hb'; omega⟩
  ·rw [w_ble_f (by omega)]
   simp only [kT, hb]
   rw [qW (by omega)]
   simp only [Nat.zero_mul, w_gets_zero, List.length_nil]
   rw [zL rfl, qW (by omega), qW (by omega)]
   refine ⟨_, _, _, _, rfl, .inr ⟨h.n, false, Blk.of (List.replicate k (.int .u8 0)), fun e => by have := congrArg List.length e; simp at this; omega, by rw [hrl, Nat.zero_add], hn, by rw [qH rfl]; rfl, rfl, rfl, xK _ rfl⟩, by simp, fun b hb => by rw [qC (by omega)], fun b hb => by cases hb⟩
 ·have hlt := Heap.lt_of_get hb
  rw [make_app hk]
  by_cases k0 : k = 0
  ·subst k0
   rw [qW (by omega)]
   simp only [xY, hb, List.replicate_zero, List.length_nil, allOne, hr, List.append_nil, Nat.add_zero]
   rw [qW (by omega)]
   refine ⟨_, _, _, _, rfl, .inr ⟨b, x, c.jL (0 + l.length * 1) [], h0, rfl, hb0, by rw [qF hlt rfl], by rw [Blk.jR]; exact hs, by rw [Blk.yU]; exact hr, ?_⟩, by simp, fun b' hb' => by rw [qB hlt (by omega)], fun b' hb' => by simp at hb'; omega⟩
   rw [Blk.putA_short _ _ (by simp)]
   exact hg
  ·rw [w_ble_f (by omega)]
   simp only [kT, hb]
   rw [qW (by omega)]
   simp only [Nat.mul_one, hg]
   rw [zL rfl, qW (by omega), qW (by omega)]
   have hne : l ++ List.replicate k (V.int .u8 0) ≠ [] := by simp [h0]
   have hll : (l ++ List.replicate k (V.int .u8 0)).length = l.length + k := by simp
   cases x with
   | true =>
    refine ⟨_, _, _, _, rfl, .inr ⟨h.n, false, Blk.of (l ++ List.replicate k (.int .u8 0)), hne, by rw [hll], hn, by rw [qH rfl], rfl, rfl, xK _ rfl⟩, by simp, fun b' hb' => by rw [qC (by omega)], fun b hb => by cases hb⟩
   | false =>
    simp only [yM, hb, h1, hr]
    rw [zL (by omega)]
    refine ⟨_, _, _, _, rfl, .inr ⟨h.n, false, Blk.of (l ++ List.replicate k (.int .u8 0)), hne, by rw [hll], hn, by rw [qH (by simp)], rfl, rfl, xK _ rfl⟩, by simp, fun b' hb' => by rw [qC (by rw [Heap.n_set]; omega), qB hlt (by omega)], fun b' hb' => by simp at hb'; omega⟩
theorem clone42 {h : Heap} {R W S : Set'} {v : V} {l : List V} (hv : LR h S v l) (hR : ∀ b, R b) (hl : l.length ≤ 1000000) (h1 : allOne l = true) : SF Try.prog 42 [v] h R W fun r h' => Own h.n h' r l 5 ∧ ∀ b, b < h.n → h'.get b = h.get b := by
 refine SF.go hm Try.func42 ir42_eq ?_
 obtain ⟨hx, rs, hf, hrs⟩ := first_lr (hv.old (h' := h.push (.cells (Blk.of []) 5)) fun b hb => qC (by omega) _)
 obtain ⟨v', h', r, w, hap, ho, hn, hk, hw, _⟩ := jK (n0 := h.n) (h := h.push (.cells (Blk.of []) 5)) (v := .slice (some (h.n, 0)) 0 0 true) (l := []) (e := 5) (bytes := 1) (.inl ⟨rfl, .inr ⟨h.n, _, rfl, Nat.le_refl _, qH rfl _, rfl⟩⟩) (by simp only [Heap.qG]; omega) hx hf h1 (by simp only [List.length_nil]; omega) (by simp only [List.length_nil]; omega)
 rw [List.nil_append] at ho
 have hrR : allB (fun b => h.n ≤ b ∨ R b) r := qO fun b hb => .inr (hR b)
 have hwW : allB (fun b => h.n ≤ b ∨ W b) w := qO fun b hb => .inl (hw b hb)
 rcases hv with ⟨rfl, rfl | ⟨a, rfl⟩⟩ | ⟨b, o, cap, ex, c, ce, rfl, hR, hb, hs, hg⟩
 ·simp -implicitDefEqProofs (disch := omega) only [go_sem, seval, ↓reduceIte, reduceCtorEq, ir42]
  exact .inl ⟨rfl, .inl rfl⟩
 ·simp -implicitDefEqProofs (disch := omega) only [go_sem, seval, ↓reduceIte, reduceCtorEq, ir42, qU jO, hap]
  exact ⟨hrR, hwW, ho, fun b hb => by rw [hk b hb, qC (by omega)]⟩
 ·simp -implicitDefEqProofs (disch := omega) only [go_sem, seval, ↓reduceIte, reduceCtorEq, ir42, qU jO, hap]
  exact ⟨hrR, hwW, ho, fun b hb => by rw [hk b hb, qC (by omega)]⟩
theorem sector_ok {S : Set'} {v : V} {l : List V} (hv : LR h S v l) (hR : ∀ b, R b) (hl : l.length ≤ 128) (hb : Byt l) : SF Try.prog 37 [v] h R W fun r g => Own h.n g r (padB l) 5 ∧ h.n ≤ g.n ∧ ∀ b, b < h.n → g.get b = h.get b := by
 have hlen := hv.lenV Try.underlying22
 refine SF.go hm Try.func37 ir37_eq ?_
 simp -implicitDefEqProofs (disch := omega) only [go_sem, seval, ↓reduceIte, reduceCtorEq, ir37]
 refine qK.of (clone42 hv (fun b => .inr (hR b)) (by omega) hb.allOne).kept ?_
 rintro r g ⟨⟨ho, hk⟩, vf⟩
 have hn := vf.n
 have e1 : (128 : Int) - (l.length : Int) = ((128 - l.length : Nat) : Int) := by omega
 obtain ⟨v', g', r', w', hap, ho', hn', hk', hw'⟩ := app_zero (k := 128 - l.length) ho hn (by omega) (by omega)
 have hr : allB (fun b => h.n ≤ b ∨ R b) r' := qO fun b _ => .inr (hR b)
 have hw : allB (fun b => h.n ≤ b ∨ W b) w' := qO fun b hb => .inl (hw' b hb)
 simp -implicitDefEqProofs (disch := omega) only [go_sem, seval, ↓reduceIte, reduceCtorEq, ↓hlen, e1, hap]
 exact ⟨hr, hw, ho', by omega, fun b hb => by rw [hk' b hb, hk b hb]⟩
end Go.Proofs.Ytakgjjbmniilhaa
