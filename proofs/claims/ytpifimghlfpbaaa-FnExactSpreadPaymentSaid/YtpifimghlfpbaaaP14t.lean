/-
  Worlds that have grown and drawn: written as the kit's sort wants them.
  Conditions: those written at each theorem.
-/
import Derived.Test.YtpifimghlfpbaaaP14s
import Derived.Shelf.SlSortCmp.Insertion1
namespace Go.Proofs.Ytpifimghlfpbaaa
open Go.RowKit Go.BigFrame Go.Sort
set_option maxRecDepth 100000

theorem Gx.grow {w w' : World} (h : Gx w w') : ∃ q os, w' = grow (w.drewN q) os := by
  obtain ⟨hb, hd⟩ := h
  refine ⟨w'.drawn - w.drawn, w'.heap.extract w.heap.size w'.heap.size, ?_⟩
  have h1 : w'.heap = w.heap ++ w'.heap.extract w.heap.size w'.heap.size := by
    apply Array.ext_getElem?
    intro i
    rw [Array.getElem?_append]
    split
    · rename_i hi; exact hb.block i hi
    · rename_i hi
      rw [Array.getElem?_extract]
      split
      · rename_i h2; congr 1; omega
      · rename_i h2
        have := hb.size
        exact Array.getElem?_eq_none (by omega)
  have h2 : w.drawn + (w'.drawn - w.drawn) = w'.drawn := by omega
  unfold Go.Sort.grow World.drewN
  cases w'
  simp only at *
  have e1 := hb.os
  have e2 := hb.tape
  have e3 := hb.output
  simp only at e1 e2 e3
  subst e1 e2 e3
  congr 1
  exact h2.symm


end Go.Proofs.Ytpifimghlfpbaaa
