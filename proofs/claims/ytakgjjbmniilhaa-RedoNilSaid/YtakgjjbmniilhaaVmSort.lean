/- slices.Sort of integers as a contract of the machine's, out of the library's own proof of it. -/
import Derived.Test.YtakgjjbmniilhaaVmBB
import Derived.Shelf.SortM.Plain
import Derived.Sort.OwnSortedInts
set_option linter.unusedVariables false
set_option linter.unusedSimpArgs false
namespace Go.Vm
open Go.Proofs Go.Shelf
variable {P : Program}

theorem Goes.grow {N W : Nat → Prop} {H H' : HF} {σ σ' : Ren} {w w' : World} (g : Goes P N W H H' σ σ' w w') (os : Array Obj) : Goes P N W H H' σ σ' w (Sort.grow w' os) := by
  refine { g with inv := ⟨fun b o hb hd => ?_, g.inv.inj, g.inv.fin⟩, real := fun k hk hne => ?_, size := ?_, os := g.os, tape := g.tape, output := g.output }
  · obtain ⟨l, hl, hr⟩ := g.inv.rel b o hb hd
    refine ⟨l, hl, ?_⟩
    rw [Sort.heap_grow_old _ _ (g.inv.lt ⟨o, hb, hd⟩ hl)]
    exact hr
  · rw [Sort.heap_grow_old _ _ (Nat.lt_of_lt_of_le hk g.size)]; exact g.real k hk hne
  · have := g.size
    have : w'.heap.size ≤ (Sort.grow w' os).heap.size := by simp [Sort.grow]
    omega

def sortI (zs : List Int) : List Int := zs.mergeSort fun x y => decide (x ≤ y)
theorem sortI_length (zs : List Int) : (sortI zs).length = zs.length := List.length_mergeSort _
theorem sort_ok {ρ : Shelf.Ren} (Ly : SlLaysM.n5 P ρ) {h : Heap} {b : Nat} {c : Blk} {e : TypeId} (hb : h.get b = some (.cells c e)) (zs : List Int) (hsz : zs.length ≤ c.size) (hz : ∀ i (hi : i < zs.length), c.get i = .int .i64 zs[i])
    (hro : c.ro = false) (hbig : zs.length < 4611686018427387904) (cap : Nat) (ex : Bool) :
    SF (P : MP) (ρ.f 5) [.slice (some (b, 0)) zs.length cap ex] h (fun x => x = b) (fun x => x = b) fun v h' => v = undefV ∧ h' = h.set b (.cells (c.puts 0 ((sortI zs).map (.int .i64))) e) := by
  have hbn := Heap.lt_of_get hb
  refine ⟨undefV, _, ⟨rfl, rfl⟩, vf_set hbn _ rfl, fun H σ w p hon => ?_⟩
  have hH : H b = some (.cells c e) := by rw [p.agree b hbn (.inl rfl), hb]
  obtain ⟨l, arr, fz, hfz, hl, ha, hsa, hcc⟩ := cells_rel p.inv hH
  have hfz := hfz hro
  have hlt : l.blk < w.heap.size := (Array.getElem?_eq_some_iff.1 ha).1
  have holds : Sort.Holds (Value.int .i64) w l.blk l.sh zs.toArray := by
    intro j hj
    have hj' : j < zs.length := by simpa using hj
    have h1 := (hcc j (by omega)).2
    rw [hz j hj'] at h1
    refine ⟨?_, by
      simp only [World.frozen?, ha]
      rcases hfz with rfl | hfz
      · simp
      · have : ¬ (fz.1 ≤ l.sh + j) := by omega
        simp [this]⟩
    simp only [World.cell?, ha]
    simp [h1, V.re, hj']
  have hc := AnyM.slices_Sort_int Ly l.blk l.sh (if ex then cap else cap + σ.k b) zs w holds hlt hbig
  have ea : (V.reL σ [.slice (some (b, 0)) zs.length cap ex]).toArray = #[.slice (some ⟨l.blk, l.sh, none⟩) zs.length (if ex then cap else cap + σ.k b)] := by
    simp [V.reL, V.re, reA, Ren.b_eq hl, Ren.s_eq hl]
  rw [ea]
  refine CallsIn.mono ((callsIn_wide (n := 0)).2 hc) ?_
  rintro e' w' ⟨rfl, n, os, rfl⟩
  have hw1 : (Sort.putRow (Value.int .i64) (Sort.ahead w n) l.blk l.sh (sortI zs).toArray).heap[l.blk]? = some (.cells (Sort.putCells (Value.int .i64) l.sh (sortI zs).toArray arr) e fz) := by
    simp [Sort.putRow, Sort.mapBlock, Sort.ahead, Array.getElem?_modify, ha, Sort.onCells]
  have hoth : ∀ k, k ≠ l.blk → (Sort.putRow (Value.int .i64) (Sort.ahead w n) l.blk l.sh (sortI zs).toArray).heap[k]? = w.heap[k]? := fun k hk => by
    simp [Sort.putRow, Sort.mapBlock, Sort.ahead, Array.getElem?_modify, Ne.symm hk]
  have hst := step_set (w' := Sort.putRow (Value.int .i64) (Sort.ahead w n) l.blk l.sh (sortI zs).toArray) (o := .cells (c.puts 0 ((sortI zs).map (.int .i64))) e) p hb rfl rfl hl (by simp [Sort.putRow, Sort.mapBlock, Sort.ahead]) hoth rfl rfl rfl (by
    rw [hw1]
    refine ⟨_, ⟨fz, fun _ => hfz.of_size (by simp [Sort.putCells]), rfl⟩, by simp [Sort.putCells, Blk.size_puts, hsa], fun i hi => ?_⟩
    rw [Blk.size_puts] at hi
    have hci := hcc i hi
    rw [Blk.get_puts]
    simp only [Nat.zero_le, true_and, Nat.zero_add, List.length_map, sortI_length, Nat.sub_zero]
    by_cases hiz : i < zs.length
    · rw [if_pos hiz]
      have hg : ((sortI zs).map (V.int .i64)).getD i undefV = .int .i64 ((sortI zs).getD i 0) := by
        have : i < (sortI zs).length := by rw [sortI_length]; exact hiz
        simp [List.getD, this]
      rw [hg]
      refine ⟨trivial, ?_⟩
      have hsi : i < (sortI zs).length := by rw [sortI_length]; exact hiz
      simp only [Sort.putCells, Array.getElem?_mapIdx, hci.2, Option.map_some]
      rw [if_pos (by simp [sortI_length]; omega)]
      simp [V.re, List.getD, hsi, show l.sh + i - l.sh = i by omega]
    · rw [if_neg hiz]
      refine ⟨hci.1, ?_⟩
      simp only [Sort.putCells, Array.getElem?_mapIdx, hci.2, Option.map_some]
      rw [if_neg (by simp [sortI_length]; omega)])
  exact ⟨_, σ, _, rfl, ⟨undefV_on _, by simp [undefV, V.re, V.reL]⟩, ⟨hst.goes.grow os, hst.get⟩⟩
end Go.Vm
