/-
  A variable's box in the body of a range over a function, and an append to what it holds.
  Conditions: those written at each theorem.
-/
import Derived.RangeFuncNested
import Derived.RangeFuncBox
import Derived.Test.YtllnnkiehckegaaDoorSi
namespace Go.Proofs.YtllnnkiehckegaaDoor
open Go.RowKit

/-- a box, and what is appended to what it holds -/
theorem box_push {W w1 : World} {n1 B : Nat} {t e : TypeId} {size : Nat} {v v' : Value} {k m : Nat} {xs ys : List Value} {tmp : Obj}
    (hv : Boxed W B t v) (hrow : W.ownsRow n1 e size v k xs) (hB : B < n1) (hown' : w1.ownsRow n1 e size v' m ys) (hgrow : (W.alloc tmp).grownBy w1 v.ownBlock) :
    Boxed w1 B t v ∧ Boxed (w1.setCell ⟨B, 0, none⟩ v') B t v' ∧ (w1.setCell ⟨B, 0, none⟩ v').ownsRow n1 e size v' m ys := by
  have hne : ∀ {u : Value} {k : Nat} {zs : List Value} {X : World}, X.ownsRow n1 e size u k zs → some B ≠ u.ownBlock := fun h he => by have := (h.lt B he.symm).1; omega
  have hv1 : Boxed w1 B t v := (hv.alloc tmp).kept hgrow (hne hrow)
  exact ⟨hv1, hv1.set v', hown'.kept (grownBy_setCell' w1 B v') (.inr (hne hown').symm)⟩

theorem below_keeps {B : Nat} {W w3 : World} (h : Below W.heap.size W w3) : KeepsFrom B W w3 :=
  ⟨h.size, fun k o _ hk _ => (h.block k (Array.getElem?_eq_some_iff.1 hk).1).trans hk⟩
/-- what lies as it lay behind an append and the store of what it gives -/
theorem body_keeps {w w3 w4 : World} {n1 B : Nat} {e t : TypeId} {sz k : Nat} {v v0 v' : Value} {xs : List Value} {tmp : Obj} (hB3 : Below w.heap.size w w3) (hs : w.heap.size ≤ w3.heap.size) (hu : n1 ≤ w3.heap.size)
    (hrow : w3.ownsRow n1 e sz v k xs) (hg : (w3.alloc tmp).grownBy w4 v.ownBlock) (hb : Boxed w4 B t v0) (hBw : w.heap.size ≤ B := by omega) (hn : w.heap.size ≤ n1 := by omega) (B0 : Nat := w.heap.size + 3) :
    KeepsFrom B0 w3 (w4.setCell ⟨B, 0, none⟩ v') ∧ (∀ j, j < n1 → j ≠ B → (w4.setCell ⟨B, 0, none⟩ v').heap[j]? = w3.heap[j]?) ∧ Below w.heap.size w (w4.setCell ⟨B, 0, none⟩ v') := by
  have hsame : ∀ j, j < w3.heap.size → some j ≠ v.ownBlock → j ≠ B → (w4.setCell ⟨B, 0, none⟩ v').heap[j]? = w3.heap[j]? := fun j hj h1 h2 =>
    (heap_setCell_other w4 ⟨B, 0, none⟩ j v' h2).trans ((hg.block j (by simp; omega) h1).trans (Below.heap_alloc w3 tmp j hj))
  have hsz : w3.heap.size ≤ (w4.setCell ⟨B, 0, none⟩ v').heap.size := by
    have h1 := hg.size
    simp only [World.size_alloc] at h1
    simp [World.setCell]; omega
  refine ⟨⟨hsz, fun j ob hj hk ho => ?_⟩, fun j hj h2 => hsame j (by omega) (fun h => by have := (hrow.lt j h.symm).1; omega) h2, ?_⟩
  · have hlt := (Array.getElem?_eq_some_iff.1 hk).1
    refine (hsame j hlt (fun h => ?_) (fun h => ?_)).trans hk
    · rcases hrow.2 with ⟨rfl, _⟩ | ⟨g, cap, cur, rfl, _, hgb, _⟩
      · simp [Value.ownBlock] at h
      · obtain rfl : j = g := by simpa [Value.ownBlock] using h
        rw [hgb] at hk; cases hk; cases ho
    · subst h
      have h1 : w4.heap[j]? = _ := hb
      by_cases h2 : some j = v.ownBlock
      · rcases hrow.2 with ⟨rfl, _⟩ | ⟨g, cap, cur, rfl, _, hgb, _⟩
        · simp [Value.ownBlock] at h2
        · obtain rfl : j = g := by simpa [Value.ownBlock] using h2
          rw [hgb] at hk; cases hk; cases ho
      · rw [hg.block j (by simp; omega) h2, Below.heap_alloc w3 tmp j hlt, hk] at h1
        cases h1; cases ho
  · exact ((hB3.alloc hs tmp).grown hg (by simp; omega) (fun j hj => by have := (hrow.lt j hj).1; omega)).setCell (p := ⟨B, 0, none⟩) hBw v'

end Go.Proofs.YtllnnkiehckegaaDoor
