/-
  Plain words for memory: a slice that reads as cells (Rd), kept over worlds that only grow (Below), and small facts on them.
  Conditions: none beyond those written at each theorem.
-/
import Derived.WalkKit
import Derived.Handy
import Derived.Lib.Hide
import Derived.Laws.OwnMore
import Derived.Deep.Draws
import Derived.BigQuiet
namespace Go.Proofs.Ytfkpjfohkkilmaa
open Go.RowKit

/-- a number lies between two others -/
def inB (x a b : Int) : Bool := decide (a ≤ x ∧ x ≤ b)
theorem inB_true {x a b : Int} (h : inB x a b = true) : a ≤ x ∧ x ≤ b := of_decide_eq_true h
theorem inB_false {x a b : Int} (h : ¬ inB x a b = true) : x < a ∨ b < x := by
  simp only [inB, decide_eq_true_eq] at h; omega
theorem inB_of {x a b : Int} (h1 : a ≤ x) (h2 : x ≤ b) : inB x a b = true := decide_eq_true ⟨h1, h2⟩
theorem inB_not {x a b : Int} (h : x < a ∨ b < x) : inB x a b = false := decide_eq_false (by omega)

/-- the first place, counted from k on, at which P holds, or -1 -/
def idxF {α : Type} (P : α → Bool) : List α → Nat → Int
  | [], _ => -1
  | x :: r, k => if P x = true then (k : Int) else idxF P r (k + 1)

theorem idxF_any {α : Type} (P : α → Bool) (l : List α) : ∀ k, decide (0 ≤ idxF P l k) = l.any P := by
  induction l with
  | nil => intro k; simp [idxF]
  | cons x r ih =>
    intro k
    by_cases h : P x = true
    · simp [idxF, h]
    · simp only [idxF, if_neg h, ih (k + 1), List.any_cons]
      simp [h]

/-- The slice with address A and n elements of sz cells each reads as the cells xs. -/
def Rd (w : World) (sz : Nat) (A : Option Addr) (n : Nat) (xs : List Value) : Prop :=
  xs.length = n * sz ∧ (0 < n → ∃ b o, A = some ⟨b, o, none⟩ ∧ b < w.heap.size ∧ ∀ j u, xs[j]? = some u → w.cell? ⟨b, o + j, none⟩ = some u)

theorem Rd.below {w w' : World} {sz n : Nat} {A : Option Addr} {xs : List Value} (h : Rd w sz A n xs) (hb : Below w.heap.size w w') : Rd w' sz A n xs :=
  ⟨h.1, fun hn => by
    obtain ⟨b, o, hA, hlt, hc⟩ := h.2 hn
    exact ⟨b, o, hA, Nat.lt_of_lt_of_le hlt hb.size, fun j u hu => (hb.cell (p := ⟨b, o + j, none⟩) hlt).trans (hc j u hu)⟩⟩

theorem Rd.nil (w : World) (sz : Nat) (A : Option Addr) : Rd w sz A 0 [] := ⟨by simp, fun h => absurd h (by omega)⟩

theorem Rd.of_own {w : World} {base : Nat} {e : TypeId} {sz n c : Nat} {A : Option Addr} {xs : List Value} (h : w.ownsRow base e sz (.slice A n c) n xs) : Rd w sz A n xs := by
  refine ⟨h.1, fun hn => ?_⟩
  rcases h.2 with ⟨hv, h0⟩ | ⟨g, cap, cur, hv, hb, hg, hnc, hcm, hcs, htake⟩
  · omega
  · injection hv with hA _ hc
    subst hA
    refine ⟨g, 0, rfl, (Array.getElem?_eq_some_iff.1 hg).1, fun j u hu => ?_⟩
    have := h.cells (g := g) rfl j u hu
    simpa [Addr.add_lit] using this

/-- what has grown keeps all old cells: the walk's two rules -/
theorem bcell {W w1 : World} (hb : Below W.heap.size W w1) : (∀ b o, b < W.heap.size → w1.cell? ⟨b, o, none⟩ = W.cell? ⟨b, o, none⟩) ∧ (∀ b o, b < W.heap.size → w1.frozen? ⟨b, o, none⟩ = W.frozen? ⟨b, o, none⟩) :=
  ⟨fun b o h => hb.cell (p := ⟨b, o, none⟩) h, fun b o h => hb.frozen (p := ⟨b, o, none⟩) h⟩

theorem below_drewN {B : Nat} {a w : World} (h : Below B a w) (n : Nat) : Below B a (w.drewN n) := ⟨h.os, h.tape, h.output, h.size, h.block⟩

/-- a call that leaves the world alone, inside a region that only reads -/
theorem quietC {P : Program} {f : FuncId} {args : Array Value} {w1 : World} {v : Value} {T : Nat → World}
    (h : Calls P f args w1 fun e w2 => e = .returned v ∧ w1 = w2) (hT : ∃ m, w1 = T m) : Calls P f args w1 fun e w2 => e = .returned v ∧ ∃ m, w2 = T m :=
  h.mono fun _ _ ⟨he, hw⟩ => ⟨he, hw ▸ hT⟩

theorem Below.trans' {a b c : World} (h : Below a.heap.size a b) (k : Below b.heap.size b c) : Below a.heap.size a c :=
  h.trans (k.mono h.size)

/-- what is owned stays owned while the world only grows -/
theorem own_below {w w' : World} {base : Nat} {e : TypeId} {size : Nat} {v : Value} {n : Nat} {xs : List Value} (h : w.ownsRow base e size v n xs) (hb : Below w.heap.size w w') : w'.ownsRow base e size v n xs :=
  h.kept (row := none) ⟨hb.os, hb.tape, hb.output, hb.size, fun k hk _ => hb.block k hk⟩ (by cases v.ownBlock <;> simp)

/-- a cell of an owned row: it is there, and it may be written -/
theorem own_has {w : World} {base : Nat} {e : TypeId} {size g n cap : Nat} {xs : List Value} (h : w.ownsRow base e size (.slice (some ⟨g, 0, none⟩) n cap) n xs) (j : Nat) (hj : j < n * size) :
    (∃ u, w.cell? ⟨g, j, none⟩ = some u) ∧ w.frozen? ⟨g, j, none⟩ = false := by
  refine ⟨⟨xs[j]'(by rw [h.1]; exact hj), ?_⟩, h.frozenAt j⟩
  rw [h.cellAt j hj, List.getElem?_eq_getElem]

/-- one step of writing into the middle of a list -/
theorem set_mid {P M Q : List Value} {j f : Nat} (u : Value) (hj : j = P.length + f) (hf : f < M.length) : (P ++ (M ++ Q)).set j u = P ++ (M.set f u ++ Q) := by
  subst hj
  rw [List.set_append_right _ _ (by omega), Nat.add_sub_cancel_left, List.set_append_left _ _ hf]

/-! ### writing the cells of one element into the middle of a row -/
theorem fill1 {P Z : List Value} {k : Nat} (hP : P.length = k) (hZ : k + 1 ≤ Z.length) (u0 : Value) :
    (P ++ Z.drop (k)).set (k) u0 = P ++ ([u0] ++ Z.drop (k + 1)) := by
  have e : Z.drop (k) = Z[k]'(by omega) :: Z.drop (k + 1) := by
    rw [List.drop_eq_getElem_cons (show k < Z.length by omega)]
  rw [e]
  rw [List.set_append_right _ _ (by omega), show k - P.length = 0 by omega]
  simp only [List.set_cons_zero, List.set_cons_succ]
  rfl

theorem fill2 {P Z : List Value} {k : Nat} (hP : P.length = k * 2) (hZ : (k + 1) * 2 ≤ Z.length) (u0 u1 : Value) :
    ((P ++ Z.drop (k * 2)).set (k * 2) u0).set (k * 2 + 1) u1 = P ++ ([u0, u1] ++ Z.drop ((k + 1) * 2)) := by
  have e : Z.drop (k * 2) = Z[k * 2]'(by omega) :: Z[k * 2 + 1]'(by omega) :: Z.drop ((k + 1) * 2) := by
    rw [List.drop_eq_getElem_cons (show k * 2 < Z.length by omega), List.drop_eq_getElem_cons (show k * 2 + 1 < Z.length by omega)]
    rw [show (k + 1) * 2 = k * 2 + 2 by omega]
  rw [e]
  rw [List.set_append_right _ _ (by omega), show k * 2 - P.length = 0 by omega]
  simp only [List.set_cons_zero, List.set_cons_succ]
  rw [List.set_append_right _ _ (by omega), show k * 2 + 1 - P.length = 1 by omega]
  simp only [List.set_cons_zero, List.set_cons_succ]
  rfl

theorem fill3 {P Z : List Value} {k : Nat} (hP : P.length = k * 3) (hZ : (k + 1) * 3 ≤ Z.length) (u0 u1 u2 : Value) :
    (((P ++ Z.drop (k * 3)).set (k * 3) u0).set (k * 3 + 1) u1).set (k * 3 + 2) u2 = P ++ ([u0, u1, u2] ++ Z.drop ((k + 1) * 3)) := by
  have e : Z.drop (k * 3) = Z[k * 3]'(by omega) :: Z[k * 3 + 1]'(by omega) :: Z[k * 3 + 2]'(by omega) :: Z.drop ((k + 1) * 3) := by
    rw [List.drop_eq_getElem_cons (show k * 3 < Z.length by omega), List.drop_eq_getElem_cons (show k * 3 + 1 < Z.length by omega), List.drop_eq_getElem_cons (show k * 3 + 2 < Z.length by omega)]
    rw [show (k + 1) * 3 = k * 3 + 3 by omega]
  rw [e]
  rw [List.set_append_right _ _ (by omega), show k * 3 - P.length = 0 by omega]
  simp only [List.set_cons_zero, List.set_cons_succ]
  rw [List.set_append_right _ _ (by omega), show k * 3 + 1 - P.length = 1 by omega]
  simp only [List.set_cons_zero, List.set_cons_succ]
  rw [List.set_append_right _ _ (by omega), show k * 3 + 2 - P.length = 2 by omega]
  simp only [List.set_cons_zero, List.set_cons_succ]
  rfl

theorem fill4 {P Z : List Value} {k : Nat} (hP : P.length = k * 4) (hZ : (k + 1) * 4 ≤ Z.length) (u0 u1 u2 u3 : Value) :
    ((((P ++ Z.drop (k * 4)).set (k * 4) u0).set (k * 4 + 1) u1).set (k * 4 + 2) u2).set (k * 4 + 3) u3 = P ++ ([u0, u1, u2, u3] ++ Z.drop ((k + 1) * 4)) := by
  have e : Z.drop (k * 4) = Z[k * 4]'(by omega) :: Z[k * 4 + 1]'(by omega) :: Z[k * 4 + 2]'(by omega) :: Z[k * 4 + 3]'(by omega) :: Z.drop ((k + 1) * 4) := by
    rw [List.drop_eq_getElem_cons (show k * 4 < Z.length by omega), List.drop_eq_getElem_cons (show k * 4 + 1 < Z.length by omega), List.drop_eq_getElem_cons (show k * 4 + 2 < Z.length by omega), List.drop_eq_getElem_cons (show k * 4 + 3 < Z.length by omega)]
    rw [show (k + 1) * 4 = k * 4 + 4 by omega]
  rw [e]
  rw [List.set_append_right _ _ (by omega), show k * 4 - P.length = 0 by omega]
  simp only [List.set_cons_zero, List.set_cons_succ]
  rw [List.set_append_right _ _ (by omega), show k * 4 + 1 - P.length = 1 by omega]
  simp only [List.set_cons_zero, List.set_cons_succ]
  rw [List.set_append_right _ _ (by omega), show k * 4 + 2 - P.length = 2 by omega]
  simp only [List.set_cons_zero, List.set_cons_succ]
  rw [List.set_append_right _ _ (by omega), show k * 4 + 3 - P.length = 3 by omega]
  simp only [List.set_cons_zero, List.set_cons_succ]
  rfl

theorem fill5 {P Z : List Value} {k : Nat} (hP : P.length = k * 5) (hZ : (k + 1) * 5 ≤ Z.length) (u0 u1 u2 u3 u4 : Value) :
    (((((P ++ Z.drop (k * 5)).set (k * 5) u0).set (k * 5 + 1) u1).set (k * 5 + 2) u2).set (k * 5 + 3) u3).set (k * 5 + 4) u4 = P ++ ([u0, u1, u2, u3, u4] ++ Z.drop ((k + 1) * 5)) := by
  have e : Z.drop (k * 5) = Z[k * 5]'(by omega) :: Z[k * 5 + 1]'(by omega) :: Z[k * 5 + 2]'(by omega) :: Z[k * 5 + 3]'(by omega) :: Z[k * 5 + 4]'(by omega) :: Z.drop ((k + 1) * 5) := by
    rw [List.drop_eq_getElem_cons (show k * 5 < Z.length by omega), List.drop_eq_getElem_cons (show k * 5 + 1 < Z.length by omega), List.drop_eq_getElem_cons (show k * 5 + 2 < Z.length by omega), List.drop_eq_getElem_cons (show k * 5 + 3 < Z.length by omega), List.drop_eq_getElem_cons (show k * 5 + 4 < Z.length by omega)]
    rw [show (k + 1) * 5 = k * 5 + 5 by omega]
  rw [e]
  rw [List.set_append_right _ _ (by omega), show k * 5 - P.length = 0 by omega]
  simp only [List.set_cons_zero, List.set_cons_succ]
  rw [List.set_append_right _ _ (by omega), show k * 5 + 1 - P.length = 1 by omega]
  simp only [List.set_cons_zero, List.set_cons_succ]
  rw [List.set_append_right _ _ (by omega), show k * 5 + 2 - P.length = 2 by omega]
  simp only [List.set_cons_zero, List.set_cons_succ]
  rw [List.set_append_right _ _ (by omega), show k * 5 + 3 - P.length = 3 by omega]
  simp only [List.set_cons_zero, List.set_cons_succ]
  rw [List.set_append_right _ _ (by omega), show k * 5 + 4 - P.length = 4 by omega]
  simp only [List.set_cons_zero, List.set_cons_succ]
  rfl

theorem fill6 {P Z : List Value} {k : Nat} (hP : P.length = k * 6) (hZ : (k + 1) * 6 ≤ Z.length) (u0 u1 u2 u3 u4 u5 : Value) :
    ((((((P ++ Z.drop (k * 6)).set (k * 6) u0).set (k * 6 + 1) u1).set (k * 6 + 2) u2).set (k * 6 + 3) u3).set (k * 6 + 4) u4).set (k * 6 + 5) u5 = P ++ ([u0, u1, u2, u3, u4, u5] ++ Z.drop ((k + 1) * 6)) := by
  have e : Z.drop (k * 6) = Z[k * 6]'(by omega) :: Z[k * 6 + 1]'(by omega) :: Z[k * 6 + 2]'(by omega) :: Z[k * 6 + 3]'(by omega) :: Z[k * 6 + 4]'(by omega) :: Z[k * 6 + 5]'(by omega) :: Z.drop ((k + 1) * 6) := by
    rw [List.drop_eq_getElem_cons (show k * 6 < Z.length by omega), List.drop_eq_getElem_cons (show k * 6 + 1 < Z.length by omega), List.drop_eq_getElem_cons (show k * 6 + 2 < Z.length by omega), List.drop_eq_getElem_cons (show k * 6 + 3 < Z.length by omega), List.drop_eq_getElem_cons (show k * 6 + 4 < Z.length by omega), List.drop_eq_getElem_cons (show k * 6 + 5 < Z.length by omega)]
    rw [show (k + 1) * 6 = k * 6 + 6 by omega]
  rw [e]
  rw [List.set_append_right _ _ (by omega), show k * 6 - P.length = 0 by omega]
  simp only [List.set_cons_zero, List.set_cons_succ]
  rw [List.set_append_right _ _ (by omega), show k * 6 + 1 - P.length = 1 by omega]
  simp only [List.set_cons_zero, List.set_cons_succ]
  rw [List.set_append_right _ _ (by omega), show k * 6 + 2 - P.length = 2 by omega]
  simp only [List.set_cons_zero, List.set_cons_succ]
  rw [List.set_append_right _ _ (by omega), show k * 6 + 3 - P.length = 3 by omega]
  simp only [List.set_cons_zero, List.set_cons_succ]
  rw [List.set_append_right _ _ (by omega), show k * 6 + 4 - P.length = 4 by omega]
  simp only [List.set_cons_zero, List.set_cons_succ]
  rw [List.set_append_right _ _ (by omega), show k * 6 + 5 - P.length = 5 by omega]
  simp only [List.set_cons_zero, List.set_cons_succ]
  rfl

/-- the cells of a new array -/
theorem len_made (z : Array Value) (n : Nat) : (madeCells z n).toList.length = n := by rw [Array.length_toList, size_madeCells]

theorem take_succ' {α : Type} (l : List α) (k : Nat) (h : k < l.length) : l.take (k + 1) = l.take k ++ [l[k]] := by
  rw [List.take_succ_eq_append_getElem h]

/-- a store into the one row that may be written -/
theorem grown_set {a w : World} {g : Nat} (h : a.grownBy w (some g)) (j : Nat) (u : Value) : a.grownBy (w.setCell ⟨g, j, none⟩ u) (some g) :=
  ⟨h.os, h.tape, h.output, by simpa [World.setCell] using h.size, fun i hi hne => (Below.heap_setCell w ⟨g, j, none⟩ u i (by rintro rfl; exact hne rfl)).trans (h.block i hi hne)⟩

theorem own_base {w : World} {base base' : Nat} {e : TypeId} {size : Nat} {v : Value} {n : Nat} {xs : List Value} (h : w.ownsRow base e size v n xs) (hb : base' ≤ base) : w.ownsRow base' e size v n xs := by
  refine ⟨h.1, ?_⟩
  rcases h.2 with h2 | ⟨g, cap, cur, hv, hg, r⟩
  · exact .inl h2
  · exact .inr ⟨g, cap, cur, hv, Nat.le_trans hb hg, r⟩

/-- a block of the world that begins with the cells vs -/
def Box (w : World) (g : Nat) (vs : List Value) : Prop := g < w.heap.size ∧ ∀ i v, vs[i]? = some v → w.cell? ⟨g, i, none⟩ = some v
theorem Box.below {w w' : World} {g : Nat} {vs : List Value} (h : Box w g vs) (hb : Below w.heap.size w w') : Box w' g vs :=
  ⟨Nat.lt_of_lt_of_le h.1 hb.size, fun i v hv => (hb.cell (p := ⟨g, i, none⟩) h.1).trans (h.2 i v hv)⟩
theorem Box.new (w : World) (cs : Array Value) (t : TypeId) : Box (w.alloc (.cells cs t)) w.heap.size cs.toList :=
  ⟨by simp, fun i v hv => by rw [cell_of_row _ w.heap.size i cs t (0, 0) (heap_alloc_new w _)]; simpa using hv⟩
theorem Box.drew {w : World} {g : Nat} {vs : List Value} (h : Box w g vs) : Box w.drew g vs := h
theorem Box.five {w : World} {g : Nat} {a b c d e : Value} (h : Box w g [a, b, c, d, e]) : w.cell? ⟨g, 0, none⟩ = some a ∧ w.cell? ⟨g, 1, none⟩ = some b ∧ w.cell? ⟨g, 2, none⟩ = some c ∧ w.cell? ⟨g, 3, none⟩ = some d ∧ w.cell? ⟨g, 4, none⟩ = some e :=
  ⟨h.2 0 _ rfl, h.2 1 _ rfl, h.2 2 _ rfl, h.2 3 _ rfl, h.2 4 _ rfl⟩

theorem Box.three {w : World} {g : Nat} {a b c : Value} (h : Box w g [a, b, c]) : w.cell? ⟨g, 0, none⟩ = some a ∧ w.cell? ⟨g, 1, none⟩ = some b ∧ w.cell? ⟨g, 2, none⟩ = some c :=
  ⟨h.2 0 _ rfl, h.2 1 _ rfl, h.2 2 _ rfl⟩
theorem Box.four {w : World} {g : Nat} {a b c d : Value} (h : Box w g [a, b, c, d]) : w.cell? ⟨g, 0, none⟩ = some a ∧ w.cell? ⟨g, 1, none⟩ = some b ∧ w.cell? ⟨g, 2, none⟩ = some c ∧ w.cell? ⟨g, 3, none⟩ = some d :=
  ⟨h.2 0 _ rfl, h.2 1 _ rfl, h.2 2 _ rfl, h.2 3 _ rfl⟩
theorem Box.six {w : World} {g : Nat} {a b c d e f : Value} (h : Box w g [a, b, c, d, e, f]) : w.cell? ⟨g, 0, none⟩ = some a ∧ w.cell? ⟨g, 1, none⟩ = some b ∧ w.cell? ⟨g, 2, none⟩ = some c ∧ w.cell? ⟨g, 3, none⟩ = some d ∧ w.cell? ⟨g, 4, none⟩ = some e ∧ w.cell? ⟨g, 5, none⟩ = some f :=
  ⟨h.2 0 _ rfl, h.2 1 _ rfl, h.2 2 _ rfl, h.2 3 _ rfl, h.2 4 _ rfl, h.2 5 _ rfl⟩

/-- behind a draw the same has stayed -/
theorem below_ofDrew {a w w' : World} (h : Below w.drew.heap.size w.drew w') : Below w.heap.size w w' := ⟨h.os, h.tape, h.output, h.size, h.block⟩

/-! ### regions that draw their order and hold calls that only make memory: one walk in the order of the text -/
/-- the worlds that have grown out of w -/
def GW (w : World) : Type := {W : World // Below w.heap.size w W}
instance (w : World) : Nonempty (GW w) := ⟨⟨w, Below.refl _ _⟩⟩
def GW.w {w : World} (s : GW w) : World := s.1
theorem GW.below {w : World} (s : GW w) : Below w.heap.size w s.w := s.2

theorem wp_region_grow {P : Program} {id : Nat} {Q : Exit → Act → World → Prop} {a : Act} {w : World} {l : List Oper} (hm : P.follows .mixedOrders = true) (hB : Region.lexB .any l.toArray = true)
    (h : wpQuiet P l.toArray (fun W => ∃ s : GW w, W = s.w) (fun a' => ∀ W, (∃ s : GW w, W = s.w) → Q .normal a' W) l a) : (Code.region id l.toArray true).wp P Q a w :=
  wp_region_quiet (C := fun W => ∃ s : GW w, W = s.w) hm hB ⟨⟨w.drew, (Below.refl _ _).drew⟩, rfl⟩ (by simpa using h)

theorem wpQuiet_endG {P : Program} {ops : Array Oper} {Q : Exit → Act → World → Prop} {a : Act} {w : World} (h : ∀ W, Below w.heap.size w W → Q .normal a W) :
    wpQuiet P ops (fun W => ∃ s : GW w, W = s.w) (fun a' => ∀ W, (∃ s : GW w, W = s.w) → Q .normal a' W) [] a :=
  wpQuiet_nil fun _ ⟨s, hs⟩ => hs ▸ h _ s.2

/-- a call in such a region: it answers the same value in every world -/
theorem quietG {P : Program} {f : FuncId} {args : Array Value} {w : World} {s : GW w} {v : Value}
    (h : Calls P f args s.w fun e w2 => e = .returned v ∧ Below s.w.heap.size s.w w2) : Calls P f args s.w fun e w2 => e = .returned v ∧ ∃ t : GW w, w2 = t.w :=
  h.mono fun _ w2 ⟨he, hw⟩ => ⟨he, ⟨w2, s.below.trans (hw.mono s.below.size)⟩, rfl⟩
theorem quietGs {P : Program} {f : FuncId} {args : Array Value} {w : World} {s : GW w} {v : Value}
    (h : Calls P f args s.w fun e w2 => e = .returned v ∧ s.w = w2) : Calls P f args s.w fun e w2 => e = .returned v ∧ ∃ t : GW w, w2 = t.w :=
  h.mono fun _ _ ⟨he, hw⟩ => ⟨he, s, hw.symm⟩

/-- a cell that was there, in every world that has grown -/
theorem cellG {w : World} {b o : Nat} {v : Value} (hb : b < w.heap.size) (h : w.cell? ⟨b, o, none⟩ = some v) : ∀ s : GW w, s.w.cell? ⟨b, o, none⟩ = some v :=
  fun s => (s.below.cell (p := ⟨b, o, none⟩) hb).trans h
theorem Box.G {w : World} {g : Nat} {vs : List Value} (h : Box w g vs) (i : Nat) (v : Value) (hv : vs[i]? = some v) : ∀ s : GW w, s.w.cell? ⟨g, i, none⟩ = some v :=
  cellG h.1 (h.2 i v hv)

theorem Below.transB {B : Nat} {a b c : World} (h : Below B a b) (hB : B ≤ a.heap.size) (k : Below b.heap.size b c) : Below B a c :=
  h.trans (k.mono (Nat.le_trans hB h.size))

end Go.Proofs.Ytfkpjfohkkilmaa
