/-
  Plain laws of chapter 12: numbers put to their places; a draw's numbers in ascending order. No program in sight.
  Conditions: those written at each theorem.
-/
import Derived.Test.YtfkpjfohkkilmaaP12i
namespace Go.Proofs.Ytfkpjfohkkilmaa
open Go.RowKit

/-- a number put to its place -/
def putF (x : Int) (l : List Int) : List Int := l.takeWhile (fun y => decide (y < x)) ++ x :: l.dropWhile (fun y => decide (y < x))
theorem putF_nil (x : Int) : putF x [] = [x] := rfl
theorem putF_cons (x y : Int) (r : List Int) : putF x (y :: r) = if y < x then y :: putF x r else x :: y :: r := by
  by_cases h : y < x <;> simp [putF, List.takeWhile_cons, List.dropWhile_cons, h]
theorem putF_perm (x : Int) (l : List Int) : (putF x l).Perm (x :: l) := by
  induction l with
  | nil => simp [putF_nil]
  | cons y r ih =>
    rw [putF_cons]
    split
    · exact (ih.cons y).trans (List.Perm.swap x y r)
    · exact List.Perm.refl _
theorem len_putF (x : Int) (l : List Int) : (putF x l).length = l.length + 1 := (putF_perm x l).length_eq
theorem putF_sorted {x : Int} {l : List Int} (h : l.Pairwise (· ≤ ·)) : (putF x l).Pairwise (· ≤ ·) := by
  induction l with
  | nil => simp [putF_nil]
  | cons y r ih =>
    rw [putF_cons]
    have h1 := List.pairwise_cons.1 h
    split
    · rename_i hlt
      refine List.pairwise_cons.2 ⟨fun z hz => ?_, ih h1.2⟩
      rcases List.mem_cons.1 ((putF_perm x r).mem_iff.1 hz) with rfl | hz
      · omega
      · exact h1.1 z hz
    · rename_i hge
      refine List.pairwise_cons.2 ⟨fun z hz => ?_, h⟩
      rcases List.mem_cons.1 hz with rfl | hz
      · omega
      · have := h1.1 z hz; omega

/-- numbers in ascending order -/
def sortF (l : List Int) : List Int := l.foldl (fun acc x => putF x acc) []
theorem sortF_snoc (l : List Int) (x : Int) : sortF (l ++ [x]) = putF x (sortF l) := by simp [sortF]
theorem sortF_take {l : List Int} {k : Nat} (h : k < l.length) : sortF (l.take (k + 1)) = putF l[k] (sortF (l.take k)) := by
  rw [List.take_succ_eq_append_getElem h, sortF_snoc]
theorem foldl_put_perm (l acc : List Int) : (l.foldl (fun acc x => putF x acc) acc).Perm (acc ++ l) := by
  induction l generalizing acc with
  | nil => simp
  | cons x r ih =>
    rw [List.foldl_cons]
    refine (ih (putF x acc)).trans ?_
    refine ((putF_perm x acc).append_right r).trans ?_
    rw [List.cons_append]
    exact List.perm_middle.symm
theorem sortF_perm (l : List Int) : (sortF l).Perm l := by simpa [sortF] using foldl_put_perm l []
theorem len_sortF (l : List Int) : (sortF l).length = l.length := (sortF_perm l).length_eq
theorem foldl_put_sorted (l acc : List Int) (h : acc.Pairwise (· ≤ ·)) : (l.foldl (fun acc x => putF x acc) acc).Pairwise (· ≤ ·) := by
  induction l generalizing acc with
  | nil => exact h
  | cons x r ih => rw [List.foldl_cons]; exact ih _ (putF_sorted h)
theorem sortF_sorted (l : List Int) : (sortF l).Pairwise (· ≤ ·) := foldl_put_sorted l [] List.Pairwise.nil
theorem mergeSort_eq (l : List Int) : l.mergeSort (fun x y => decide (x ≤ y)) = sortF l := by
  have p : (l.mergeSort (fun x y => decide (x ≤ y))).Pairwise (· ≤ ·) := by
    have := List.pairwise_mergeSort (le := fun x y : Int => decide (x ≤ y)) (fun a b c => by simp; omega) (fun a b => by simp; omega) l
    simpa using this
  exact List.Perm.eq_of_pairwise (le := (· ≤ ·)) (fun a b _ _ h k => Int.le_antisymm h k) p (sortF_sorted l) ((List.mergeSort_perm _ _).trans (sortF_perm l).symm)

theorem rise_nodup {last : Int} {l : List Int} (h : riseB last l = true) : l.Nodup ∧ ∀ x ∈ l, last < x := by
  induction l generalizing last with
  | nil => exact ⟨List.Pairwise.nil, fun x hx => by cases hx⟩
  | cons y r ih =>
    unfold riseB at h
    split at h
    · rename_i hy
      obtain ⟨h1, h2⟩ := ih h
      refine ⟨List.pairwise_cons.2 ⟨fun z hz => ?_, h1⟩, fun z hz => ?_⟩
      · have := h2 z hz; omega
      · rcases List.mem_cons.1 hz with rfl | hz
        · exact hy.2
        · have := h2 z hz; omega
    · cases h

theorem erase_perm {α : Type} : ∀ (l : List α) (i : Nat) (h : i < l.length), (l[i] :: l.eraseIdx i).Perm l
  | x :: r, 0, _ => List.Perm.refl _
  | x :: r, i + 1, h => by
    rw [List.eraseIdx_cons_succ, List.getElem_cons_succ]
    exact (List.Perm.swap x _ _).trans ((erase_perm r i (by simpa using h)).cons x)
/-- a draw takes a part of what there is -/
theorem takeF_sub : ∀ (n : Nat) (l : List Int) (s : Int), ∃ rest, ((takeF l n s).1 ++ rest).Perm l
  | 0, l, s => ⟨l, by simp [takeF]⟩
  | n + 1, l, s => by
    unfold takeF
    split
    · rename_i x hx
      obtain ⟨rest, hr⟩ := takeF_sub n (l.eraseIdx (s % (l.length : Int)).toNat) (nextF s)
      refine ⟨rest, ?_⟩
      rw [List.cons_append]
      obtain ⟨hi, hxe⟩ := List.getElem?_eq_some_iff.1 hx
      refine (hr.cons x).trans ?_
      rw [← hxe]
      exact erase_perm l _ hi
    · exact ⟨l, by simp⟩
theorem takeF_nodup {l : List Int} (h : l.Nodup) (n : Nat) (s : Int) : (takeF l n s).1.Nodup := by
  obtain ⟨rest, hp⟩ := takeF_sub n l s
  exact (List.nodup_append.1 (hp.nodup_iff.2 h)).1
theorem sortF_not_mem {l : List Int} (h : l.Nodup) {k : Nat} (hk : k < l.length) : l[k] ∉ sortF (l.take k) := by
  intro hm
  have hm := (sortF_perm _).mem_iff.1 hm
  have h2 : (l.take (k + 1)).Nodup := h.sublist (List.take_sublist _ _)
  rw [List.take_succ_eq_append_getElem hk] at h2
  have := (List.nodup_append.1 h2).2.2
  exact this _ hm _ (List.mem_singleton.2 rfl) rfl

end Go.Proofs.Ytfkpjfohkkilmaa
