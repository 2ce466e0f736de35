/-
  slices.Delete of one number out of a slice of the call's own; slices.Clone at numbers.
  Conditions: those written at each theorem.
-/
import Derived.Test.YtfkpjfohkkilmaaLay12
import Derived.Lib.BufferMore
namespace Go.Proofs.Ytfkpjfohkkilmaa
open Go.RowKit
set_option maxRecDepth 100000

theorem setCells_mid (g : Nat) (e : TypeId) : ∀ (vs pre old post : List Value) (w : World), old.length = vs.length → w.heap[g]? = some (.cells (pre ++ old ++ post).toArray e (0, 0)) →
    (w.setCells g pre.length vs).heap[g]? = some (.cells (pre ++ vs ++ post).toArray e (0, 0)) ∧ w.grownBy (w.setCells g pre.length vs) (some g)
  | [], pre, old, post, w, hl, h => by
    obtain rfl : old = [] := List.eq_nil_of_length_eq_zero (by simpa using hl)
    exact ⟨h, World.grownBy.refl _ _⟩
  | v :: r, pre, [], post, w, hl, h => by simp at hl
  | v :: r, pre, o :: os, post, w, hl, h => by
    have h1 : (w.setCell ⟨g, pre.length, none⟩ v).heap[g]? = some (.cells ((pre ++ [v]) ++ os ++ post).toArray e (0, 0)) := by
      rw [heap_setCell_same w g pre.length _ e v h]
      simp
    have ih := setCells_mid g e r (pre ++ [v]) os post (w.setCell ⟨g, pre.length, none⟩ v) (by simpa using hl) h1
    rw [show (pre ++ [v]).length = pre.length + 1 by simp] at ih
    refine ⟨by simpa [World.setCells] using ih.1, ?_⟩
    have h2 : w.grownBy (w.setCell ⟨g, pre.length, none⟩ v) (some g) := grown_set (World.grownBy.refl w (some g)) pre.length v
    exact h2.trans ih.2

theorem ownDelete (base : Nat) (l : List Int) (g c i : Nat) (w : World) (ho : w.ownsRow base 3 1 (.slice (some ⟨g, 0, none⟩) l.length c) l.length (cellsI l)) (hi : i < l.length) :
    Calls Try.prog 40 #[.slice (some ⟨g, 0, none⟩) l.length c, .int .i64 i, .int .i64 (i + 1)] w
      fun e w' => e = .returned (.slice (some ⟨g, 0, none⟩) (l.length - 1) c) ∧ w'.ownsRow base 3 1 (.slice (some ⟨g, 0, none⟩) (l.length - 1) c) (l.length - 1) (cellsI (l.eraseIdx i)) ∧ w.grownBy w' (some g) := by
  obtain ⟨hx, hrest⟩ := ho
  rcases hrest with ⟨h0, _⟩ | ⟨g', cap, cur, hv, hb, hg, hn, hm, hs, ht⟩
  · cases h0
  simp only [Value.slice.injEq, Option.some.injEq, Addr.mk.injEq, and_true, true_and] at hv
  obtain ⟨rfl, rfl⟩ := hv
  have hcur : cur = (cellsI l ++ cur.toList.drop l.length).toArray := by
    rw [Nat.mul_one] at ht
    rw [← ht, List.take_append_drop]
  have hc : ∀ j, j < l.length → w.cell? ⟨g, 0 + j, none⟩ = some (.int .i64 (l.getD j 0)) := by
    intro j hj
    rw [Nat.zero_add, cell_of_row w g j cur _ (0, 0) hg, hcur]
    rw [List.getElem?_toArray, List.getElem?_append_left (by simpa [cellsI] using hj)]
    simp [cellsI, hj, List.getD]
  have hf : ∀ j, j < l.length → w.frozen? ⟨g, 0 + j, none⟩ = false := fun j _ => frozen_of_row w g _ cur _ hg
  refine (delete_cells g 0 l.length c i (i + 1) l w (Nat.le_refl _) hn (by unfold maxLen at hm; omega) (by omega) (by omega) hc hf).mono ?_
  rintro e w' ⟨rfl, q, rfl⟩
  have hq : (w.drewN q).heap[g]? = some (.cells ([] ++ cellsI l ++ cur.toList.drop l.length).toArray 3 (0, 0)) := by
    rw [List.nil_append, ← hcur]; exact hg
  have hm2 : ((l.take l.length).take i ++ (l.take l.length).drop (i + 1) ++ List.replicate (i + 1 - i) 0) = l.eraseIdx i ++ [0] := by
    rw [List.take_length, List.eraseIdx_eq_take_drop_succ, show i + 1 - i = 1 by omega]; rfl
  rw [hm2]
  have he : (l.eraseIdx i).length = l.length - 1 := by rw [List.length_eraseIdx_of_lt hi]
  have hk := setCells_mid g 3 ((l.eraseIdx i ++ [0]).map (Value.int .i64)) [] (cellsI l) (cur.toList.drop l.length) (w.drewN q) (by simp [cellsI, he]; omega) hq
  refine ⟨by rw [show i + 1 - i = 1 by omega], ⟨by simp [cellsI, he], .inr ⟨g, c, _, rfl, hb, hk.1, by omega, hm, ?_, ?_⟩⟩, ?_⟩
  · have : cur.size = c * 1 := hs
    simp [he]; omega
  · rw [List.toList_toArray, List.nil_append, Nat.mul_one, List.map_append, List.append_assoc, List.take_append_of_le_length (by simp [he]), List.take_of_length_le (by simp [he])]
    rfl
  · exact ⟨hk.2.os, hk.2.tape, hk.2.output, hk.2.size, hk.2.block⟩

/-- slices.Clone at numbers: a nil slice stays nil -/
theorem cloneI_any (l : List Int) (A : Option Addr) (c : Nat) (w : World) (hr : Rd w 1 A l.length (cellsI l)) (hA : A = none → c = 0) (hl : l.length ≤ 1048576) :
    Calls Try.prog 39 #[.slice A l.length c] w fun e w' => ∃ v, e = .returned v ∧ SlI w.heap.size w' l v ∧ Below w.heap.size w w' := by
  obtain ⟨i0, hi, hz0, hz1, hz2⟩ := info_parts infoI
  have HR := Lib.hid hr
  cases A with
  | none =>
    have hc := hA rfl
    subst hc
    have hl0 : l = [] := by
      rcases l with _ | ⟨x, l⟩
      · rfl
      · obtain ⟨b, o, hbad, _⟩ := hr.2 (by simp); cases hbad
    subst hl0
    clear hr
    have hnil := fun W : World => Lib.run_eql_slice_nil_nil (P := Try.prog) W 0 0 Try.underlying24
    go_enter Try.func39, Try.ntmps39
    go_wp2
    go_ret
    exact ⟨_, rfl, SlI.nil _ _, Below.refl _ _⟩
  | some ad =>
    clear hr hA
    have HO0 := Lib.hid (own_empty w 3 1 (Nat.le_refl _))
    have HB0 := Lib.hid (Below.alloc (Below.refl w.heap.size w) (Nat.le_refl _) (.cells #[] 3))
    have hnil := fun W : World => Lib.run_eql_slice_some_nil (P := Try.prog) W ad l.length c Try.underlying24
    go_enter Try.func39, Try.ntmps39
    go_wp2_with (at_builtin; refine wpList_appendMany _ rfl _ _ 24 rfl w.heap.size 3 i0 (.int .i64 0) 1 8 Try.underlying24 hi hz0 hz1 hz2 rfl (by decide) (by decide) (some ⟨w.heap.size, 0, none⟩) 0 0 [] rfl HO0.out (some ad) l.length c (cellsI l) rfl (HR.out.below HB0.out) (by simp) (one_cellsI l) (by omega) (by simp) ?_; intro A2 c2 w2 hown2 hg2)
    go_ret
    refine ⟨_, rfl, ⟨A2, c2, by simp, by simpa using hown2⟩, ?_⟩
    exact Below.row HB0.out HO0.out hg2 (Nat.le_refl _) (by simp)

/-- the copy of the reference -/
theorem l1Own_any (l : List Int) (A : Option Addr) (c : Nat) (w : World) (hr : Rd w 1 A l.length (cellsI l)) (hA : A = none → c = 0) (hl : l.length ≤ 1048576) :
    Calls Try.prog 32 #[.slice A l.length c] w fun e w' => ∃ v, e = .returned v ∧ SlI w.heap.size w' l v ∧ Below w.heap.size w w' := by
  obtain ⟨i0, hi, hz0, hz1, hz2⟩ := info_parts infoI
  have HR := Lib.hid hr
  clear hr
  have HO0 := Lib.hid (own_empty w 3 1 (Nat.le_refl _))
  have HB0 := Lib.hid (Below.alloc (Below.refl w.heap.size w) (Nat.le_refl _) (.cells #[] 3))
  go_enter Try.func32, Try.ntmps32
  go_wp2_with (at_builtin; refine wpList_appendMany _ rfl _ _ 24 rfl w.heap.size 3 i0 (.int .i64 0) 1 8 Try.underlying24 hi hz0 hz1 hz2 rfl (by decide) (by decide) (some ⟨w.heap.size, 0, none⟩) 0 0 [] rfl HO0.out A l.length c (cellsI l) rfl (HR.out.below HB0.out) hA (one_cellsI l) (by omega) (by simp) ?_; intro A2 c2 w2 hown2 hg2)
  go_ret
  refine ⟨_, rfl, ⟨A2, c2, by simp, by simpa using hown2⟩, ?_⟩
  exact Below.row HB0.out HO0.out hg2 (Nat.le_refl _) (by simp)

end Go.Proofs.Ytfkpjfohkkilmaa
