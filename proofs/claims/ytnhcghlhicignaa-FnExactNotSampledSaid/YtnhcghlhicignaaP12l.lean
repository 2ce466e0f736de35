/-
  slices.DeleteFunc on a slice of the call's own.
  Conditions: those written at each theorem.
-/
import Derived.Test.YtnhcghlhicignaaLay12b
import Derived.Sort.OwnSortedInts
namespace Go.Proofs.Ytnhcghlhicignaa
open Go.Shelf Go.RowKit Go.Sort
set_option maxRecDepth 100000

theorem put_heap {w : World} {g n : Nat} {cur : Array Value} {e : TypeId} {fr : Nat × Nat} (d : Array Int) (hb : w.heap[g]? = some (.cells cur e fr)) :
    (putRow (Value.int .i64) (Sort.ahead w n) g 0 d).heap[g]? = some (.cells (putCells (Value.int .i64) 0 d cur) e fr) := by
  simp [putRow, mapBlock, Sort.ahead, Array.getElem?_modify, hb, onCells]
theorem put_grown {w : World} {g n : Nat} (d : Array Int) : w.grownBy (putRow (Value.int .i64) (Sort.ahead w n) g 0 d) (some g) := by
  refine ⟨rfl, rfl, rfl, by simp, fun k hk hne => ?_⟩
  have : g ≠ k := fun e => hne (by rw [e])
  simp [putRow, mapBlock, Sort.ahead, Array.getElem?_modify, this]

theorem ownDeleteFunc (base : Nat) (l : List Int) (g c : Nat) (F : Nat) (caps : Array Value) (P : Int → Bool) (w : World) (ho : w.ownsRow base 3 1 (.slice (some ⟨g, 0, none⟩) l.length c) l.length (cellsI l)) (hl : l.length ≤ 1048576)
    (hF : ∀ (args : Array Value) (w : World), (callFunc F args).run Try.prog w = .ok (Next.enter F args) w)
    (hcl : ∀ (W : World) (x : Int), (∀ k, k < w.heap.size → k ≠ g → W.heap[k]? = w.heap[k]?) → w.heap.size ≤ W.heap.size → Calls Try.prog F (#[.int .i64 x] ++ caps) W fun e w' => e = .returned (.bool (P x)) ∧ W = w') :
    Calls Try.prog 52 #[.slice (some ⟨g, 0, none⟩) l.length c, .func (.func F) #[] caps] w
      fun e w' => e = .returned (.slice (some ⟨g, 0, none⟩) (l.filter fun x => !P x).length c) ∧ w'.ownsRow base 3 1 (.slice (some ⟨g, 0, none⟩) (l.filter fun x => !P x).length c) (l.filter fun x => !P x).length (cellsI (l.filter fun x => !P x)) ∧ w.grownBy w' (some g) := by
  obtain ⟨hx, hrest⟩ := ho
  rcases hrest with ⟨h0, _⟩ | ⟨g', cap, cur, hv, hb, hg, hn, hm, hs, ht⟩
  · cases h0
  simp only [Value.slice.injEq, Option.some.injEq, Addr.mk.injEq, and_true, true_and] at hv
  obtain ⟨rfl, rfl⟩ := hv
  have hH : Holds (Value.int .i64) w g 0 l.toArray := holds_of_blockI hg (by rw [Nat.mul_one] at ht; exact ht)
  have hlen : (l.filter fun x => !P x).length ≤ l.length := List.length_filter_le _ _
  have key := AnyE.slices_DeleteFunc laysDelF (Value.int .i64) (fun _ => rfl) P F caps hF 0 Try.zeroValue3 g 0 c l.toArray w
    (fun W x hb' => (hcl W x (fun k hk _ => hb'.block k hk) hb'.size).mono fun e w' h => ⟨h.1, 0, h.2.symm⟩)
    (fun n os dk x _ => (hcl _ x (fun k hk hne => by
      have hne' : g ≠ k := fun e => hne e.symm
      unfold sortWorld
      rw [heap_grow_old _ _ (by simpa using hk)]
      simp [putRow, mapBlock, Sort.ahead, Array.getElem?_modify, hne']) (by simp [sortWorld, grow, putRow, mapBlock, Sort.ahead])).mono fun e w' h => ⟨h.1, 0, h.2.symm⟩)
    hH (by simp; omega) (by simpa using hn)
  rw [show l.toArray.size = l.length by simp, show l.toArray.toList = l by simp] at key
  refine key.mono ?_
  rintro e w' ⟨rfl, q, rfl⟩
  have hsz : cur.size = c * 1 := hs
  refine ⟨rfl, ⟨by simp [cellsI], .inr ⟨g, c, _, rfl, hb, put_heap _ hg, by omega, hm, by simp [putCells, hsz], ?_⟩⟩, put_grown _⟩
  have h1 := take_putCellsI cur ((l.filter fun x => !P x) ++ List.replicate (l.length - (l.filter fun x => !P x).length) 0) (by simp; omega)
  have h2 := congrArg (List.take (l.filter fun x => !P x).length) h1
  rw [List.take_take, Nat.min_eq_left (by simp)] at h2
  have h3 : List.take (l.filter fun x => !P x).length (((l.filter fun x => !P x) ++ List.replicate (l.length - (l.filter fun x => !P x).length) 0).map (Value.int .i64)) = cellsI (l.filter fun x => !P x) := by
    rw [List.map_append, List.take_append_of_le_length (by simp), List.take_of_length_le (by simp)]; rfl
  rw [Nat.mul_one]
  exact h2.trans h3

end Go.Proofs.Ytnhcghlhicignaa
