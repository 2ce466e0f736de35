/-
  A block that holds known cells, whole: kept by calls, turned by stores. Laws for the walk.
  Conditions: those written at each theorem.
-/
import Derived.Test.YtfkpjfohkkilmaaOwn
import Derived.Test.YtfkpjfohkkilmaaOpen
import Derived.Lib.BufferMore
namespace Go.Proofs.Ytfkpjfohkkilmaa
open Go.RowKit

/-- block g holds these cells, and no others -/
def BX (w : World) (g : Nat) (vs : List Value) : Prop := ∃ t, w.heap[g]? = some (.cells vs.toArray t (0, 0))

theorem BX.new (w : World) (cs : Array Value) (t : TypeId) : BX (w.alloc (.cells cs t)) w.heap.size cs.toList := ⟨t, by rw [heap_alloc_new]⟩
theorem BX.lt {w : World} {g : Nat} {vs : List Value} (h : BX w g vs) : g < w.heap.size := by
  obtain ⟨t, h⟩ := h
  exact (Array.getElem?_eq_some_iff.1 h).1
theorem BX.below {w w' : World} {g : Nat} {vs : List Value} (h : BX w g vs) (hb : Below w.heap.size w w') : BX w' g vs := by
  obtain ⟨t, h'⟩ := h
  exact ⟨t, (hb.block g (Array.getElem?_eq_some_iff.1 h').1).trans h'⟩
theorem BX.alloc {w : World} {g : Nat} {vs : List Value} (h : BX w g vs) (o : Obj) : BX (w.alloc o) g vs := by
  obtain ⟨t, h'⟩ := h
  exact ⟨t, (Below.heap_alloc w o g (Array.getElem?_eq_some_iff.1 h').1).trans h'⟩
theorem BX.set {w : World} {g : Nat} {vs : List Value} (h : BX w g vs) (i : Nat) (u : Value) : BX (w.setCell ⟨g, i, none⟩ u) g (vs.set i u) := by
  obtain ⟨t, h'⟩ := h
  exact ⟨t, by rw [heap_setCell_same w g i _ t u h']; simp⟩
theorem BX.other {w : World} {g : Nat} {vs : List Value} (h : BX w g vs) (a : Addr) (u : Value) (hne : g ≠ a.block) : BX (w.setCell a u) g vs := by
  obtain ⟨t, h'⟩ := h
  exact ⟨t, (heap_setCell_other w a g u hne).trans h'⟩
theorem BX.grown {w w' : World} {g : Nat} {vs : List Value} {k : Option Nat} (h : BX w g vs) (hg : w.grownBy w' k) (hne : some g ≠ k) : BX w' g vs := by
  obtain ⟨t, h'⟩ := h
  exact ⟨t, (hg.block g (Array.getElem?_eq_some_iff.1 h').1 hne).trans h'⟩
theorem BX.cell {w : World} {g : Nat} {vs : List Value} (h : BX w g vs) (i : Nat) (u : Value) (hu : vs[i]? = some u) : w.cell? ⟨g, i, none⟩ = some u := by
  obtain ⟨t, h'⟩ := h
  rw [cell_of_row w g i _ t (0, 0) h']; simpa using hu
theorem BX.frozen {w : World} {g : Nat} {vs : List Value} (h : BX w g vs) (i : Nat) : w.frozen? ⟨g, i, none⟩ = false := by
  obtain ⟨t, h'⟩ := h
  exact frozen_of_row w g i _ t h'
theorem BX.drew {w : World} {g : Nat} {vs : List Value} (h : BX w g vs) : BX w.drew g vs := h
theorem BX.two {w : World} {g : Nat} {a b : Value} (h : BX w g [a, b]) : w.cell? ⟨g, 0, none⟩ = some a ∧ w.cell? ⟨g, 1, none⟩ = some b ∧ w.frozen? ⟨g, 0, none⟩ = false ∧ w.frozen? ⟨g, 1, none⟩ = false :=
  ⟨h.cell 0 _ rfl, h.cell 1 _ rfl, h.frozen 0, h.frozen 1⟩
theorem BX.five {w : World} {g : Nat} {a b c d e : Value} (h : BX w g [a, b, c, d, e]) : w.cell? ⟨g, 0, none⟩ = some a ∧ w.cell? ⟨g, 1, none⟩ = some b ∧ w.cell? ⟨g, 2, none⟩ = some c ∧ w.cell? ⟨g, 3, none⟩ = some d ∧ w.cell? ⟨g, 4, none⟩ = some e
    ∧ w.frozen? ⟨g, 0, none⟩ = false ∧ w.frozen? ⟨g, 1, none⟩ = false ∧ w.frozen? ⟨g, 2, none⟩ = false ∧ w.frozen? ⟨g, 3, none⟩ = false ∧ w.frozen? ⟨g, 4, none⟩ = false :=
  ⟨h.cell 0 _ rfl, h.cell 1 _ rfl, h.cell 2 _ rfl, h.cell 3 _ rfl, h.cell 4 _ rfl, h.frozen 0, h.frozen 1, h.frozen 2, h.frozen 3, h.frozen 4⟩
theorem BX.six {w : World} {g : Nat} {a b c d e f : Value} (h : BX w g [a, b, c, d, e, f]) : w.cell? ⟨g, 0, none⟩ = some a ∧ w.cell? ⟨g, 1, none⟩ = some b ∧ w.cell? ⟨g, 2, none⟩ = some c ∧ w.cell? ⟨g, 3, none⟩ = some d ∧ w.cell? ⟨g, 4, none⟩ = some e ∧ w.cell? ⟨g, 5, none⟩ = some f
    ∧ w.frozen? ⟨g, 0, none⟩ = false ∧ w.frozen? ⟨g, 1, none⟩ = false ∧ w.frozen? ⟨g, 2, none⟩ = false ∧ w.frozen? ⟨g, 3, none⟩ = false ∧ w.frozen? ⟨g, 4, none⟩ = false ∧ w.frozen? ⟨g, 5, none⟩ = false :=
  ⟨h.cell 0 _ rfl, h.cell 1 _ rfl, h.cell 2 _ rfl, h.cell 3 _ rfl, h.cell 4 _ rfl, h.cell 5 _ rfl, h.frozen 0, h.frozen 1, h.frozen 2, h.frozen 3, h.frozen 4, h.frozen 5⟩

/-- the same, the block's type named -/
def BXT (t : TypeId) (w : World) (g : Nat) (vs : List Value) : Prop := w.heap[g]? = some (.cells vs.toArray t (0, 0))
theorem BXT.bx {t : TypeId} {w : World} {g : Nat} {vs : List Value} (h : BXT t w g vs) : BX w g vs := ⟨t, h⟩
theorem BXT.new (w : World) (cs : Array Value) (t : TypeId) : BXT t (w.alloc (.cells cs t)) w.heap.size cs.toList := by
  show _ = _; rw [heap_alloc_new]
theorem BXT.lt {t : TypeId} {w : World} {g : Nat} {vs : List Value} (h : BXT t w g vs) : g < w.heap.size := (Array.getElem?_eq_some_iff.1 h).1
theorem BXT.below {t : TypeId} {w w' : World} {g : Nat} {vs : List Value} (h : BXT t w g vs) (hb : Below w.heap.size w w') : BXT t w' g vs := (hb.block g h.lt).trans h
theorem BXT.alloc {t : TypeId} {w : World} {g : Nat} {vs : List Value} (h : BXT t w g vs) (o : Obj) : BXT t (w.alloc o) g vs := (Below.heap_alloc w o g h.lt).trans h
theorem BXT.grown {t : TypeId} {w w' : World} {g : Nat} {vs : List Value} {k : Option Nat} (h : BXT t w g vs) (hg : w.grownBy w' k) (hne : some g ≠ k) : BXT t w' g vs := (hg.block g h.lt hne).trans h
theorem BXT.drew {t : TypeId} {w : World} {g : Nat} {vs : List Value} (h : BXT t w g vs) : BXT t w.drew g vs := h
theorem BXT.not_own {t e : TypeId} {w : World} {g base sz n : Nat} {vs xs : List Value} {v : Value} (h : BXT t w g vs) (hte : t ≠ e) (ho : w.ownsRow base e sz v n xs) : some g ≠ v.ownBlock := by
  rcases ho.2 with ⟨rfl, _⟩ | ⟨b, cap, cur, rfl, _, hb, _⟩
  · simp [Value.ownBlock]
  · intro he
    simp only [Value.ownBlock, Option.some.injEq] at he
    subst he
    have h2 := h.symm.trans hb
    simp at h2
    exact hte h2.2
theorem BXT.five {t : TypeId} {w : World} {g : Nat} {a b c d e : Value} (h : BXT t w g [a, b, c, d, e]) : w.cell? ⟨g, 0, none⟩ = some a ∧ w.cell? ⟨g, 1, none⟩ = some b ∧ w.cell? ⟨g, 2, none⟩ = some c ∧ w.cell? ⟨g, 3, none⟩ = some d ∧ w.cell? ⟨g, 4, none⟩ = some e :=
  ⟨h.bx.cell 0 _ rfl, h.bx.cell 1 _ rfl, h.bx.cell 2 _ rfl, h.bx.cell 3 _ rfl, h.bx.cell 4 _ rfl⟩

end Go.Proofs.Ytfkpjfohkkilmaa
