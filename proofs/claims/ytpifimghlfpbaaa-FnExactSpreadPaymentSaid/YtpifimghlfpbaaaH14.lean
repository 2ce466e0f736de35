/-
  Numbers put in order by their weight, by insertion; the library's insertion makes the same list. Plain lists.
  Conditions: those written at each theorem.
-/
import Derived.Sort.WalkA
namespace Go.Proofs.Ytpifimghlfpbaaa.S14
open Go.Proofs
/-- where x goes, looked for from k downwards: behind all whose weight is not greater -/
def cutFrom (f : Int → Int) (x : Int) (acc : List Int) : Nat → Nat
  | 0 => 0
  | k + 1 => if ((acc[k]?).map f).getD 0 > f x then cutFrom f x acc k else k + 1
theorem cutFrom_le (f : Int → Int) (x : Int) (acc : List Int) : ∀ k, cutFrom f x acc k ≤ k
  | 0 => Nat.le_refl _
  | k + 1 => by
    unfold cutFrom
    split
    · exact Nat.le_succ_of_le (cutFrom_le f x acc k)
    · exact Nat.le_refl _
/-- x put in its place -/
def insR (f : Int → Int) (x : Int) (acc : List Int) : List Int :=
  acc.take (cutFrom f x acc acc.length) ++ x :: acc.drop (cutFrom f x acc acc.length)
theorem len_insR (f : Int → Int) (x : Int) (acc : List Int) : (insR f x acc).length = acc.length + 1 := by
  have := cutFrom_le f x acc acc.length
  simp [insR]; omega
theorem perm_insR (f : Int → Int) (x : Int) (acc : List Int) : (insR f x acc).Perm (x :: acc) := by
  unfold insR
  refine List.perm_middle.trans ?_
  rw [List.take_append_drop]
/-- the numbers 0 .. n - 1, sorted by weight -/
def ordF (f : Int → Int) : Nat → List Int
  | 0 => []
  | n + 1 => insR f (n : Int) (ordF f n)
theorem len_ordF (f : Int → Int) : ∀ n, (ordF f n).length = n
  | 0 => rfl
  | n + 1 => by rw [ordF, len_insR, len_ordF f n]
theorem perm_ordF (f : Int → Int) : ∀ n, (ordF f n).Perm ((List.range n).map (fun i : Nat => (i : Int)))
  | 0 => by simp [ordF]
  | n + 1 => by
    rw [ordF, List.range_succ, List.map_append]
    refine (perm_insR f n _).trans ?_
    refine ((perm_ordF f n).cons _).trans ?_
    exact (List.perm_append_singleton (n : Int) _).symm
theorem mem_ordF {f : Int → Int} {n : Nat} {x : Int} (h : x ∈ ordF f n) : ∃ i : Nat, i < n ∧ x = i := by
  have := (perm_ordF f n).mem_iff.1 h
  simp at this
  obtain ⟨i, hi, rfl⟩ := this
  exact ⟨i, hi, rfl⟩
theorem nodup_ordF (f : Int → Int) (n : Nat) : (ordF f n).Nodup := by
  rw [(perm_ordF f n).nodup_iff]
  refine List.Pairwise.map _ ?_ (List.nodup_range (n := n))
  intro a b h e; exact h (by have e2 : (a : Int) = (b : Int) := e; omega)

/-! the library's insertion by exchanges -/
section
open Go.Sort
variable {α : Type} [Inhabited α] (lt : α → α → Bool) (v : α → Int) (f : Int → Int)
theorem swp_list (d : Array α) (A B : List α) (a x : α) (h : d.toList = A ++ a :: x :: B) : (swp d (A.length + 1) A.length).toList = A ++ x :: a :: B := by
  have h1 : A.length + 1 < d.size := by rw [← Array.length_toList, h]; simp
  have e1 : d[A.length]! = a := by
    rw [getElem!_pos d A.length (by omega), ← Array.getElem_toList]
    simp [h]
  have e2 : d[A.length + 1]! = x := by
    rw [getElem!_pos d (A.length + 1) h1, ← Array.getElem_toList]
    simp [h]
  unfold swp
  rw [e1, e2, Array.toList_setIfInBounds, Array.toList_setIfInBounds, h]
  simp [List.set_append]
theorem insInner_list (hlt : ∀ x y, lt x y = decide (f (v x) < f (v y))) (P R : List α) (x : α) : ∀ (j : Nat) (d : Array α), j ≤ P.length → d.toList = P.take j ++ x :: (P.drop j ++ R) →
    (insInner lt 0 j d).toList.map v = (P.map v).take (cutFrom f (v x) (P.map v) j) ++ v x :: ((P.map v).drop (cutFrom f (v x) (P.map v) j) ++ R.map v)
  | 0, d, _, hd => by
    rw [insInner, hd]
    simp [cutFrom]
  | j + 1, d, hj, hd => by
    have hjl : j < P.length := by omega
    have hd2 : d.toList = P.take j ++ P[j] :: x :: (P.drop (j + 1) ++ R) := by
      rw [hd, List.take_succ_eq_append_getElem hjl, List.append_assoc]; rfl
    have hlen : (P.take j).length = j := by rw [List.length_take]; omega
    have hsz : j + 1 < d.size := by rw [← Array.length_toList, hd2]; simp; omega
    have e1 : d[j]! = P[j] := by
      rw [getElem!_pos d j (by omega), ← Array.getElem_toList]
      simp only [hd2]
      rw [List.getElem_append_right (by omega)]
      simp [hlen]
    have e2 : d[j + 1]! = x := by
      rw [getElem!_pos d (j + 1) hsz, ← Array.getElem_toList]
      simp only [hd2]
      rw [List.getElem_append_right (by omega)]
      simp [hlen]
    rw [insInner, e1, e2, hlt]
    have ec : (((P.map v)[j]?).map f).getD 0 = f (v P[j]) := by simp [hjl]
    unfold cutFrom
    rw [ec]
    by_cases hc : f (v x) < f (v P[j])
    · rw [if_pos (by simp [hc]), if_pos (by omega)]
      refine insInner_list hlt P R x j _ (by omega) ?_
      have := swp_list d (P.take j) (P.drop (j + 1) ++ R) P[j] x hd2
      rw [hlen] at this
      rw [this, List.drop_eq_getElem_cons hjl]
      rfl
    · rw [if_neg (by simp [hc]), if_neg (by omega), hd]
      simp
theorem insOuter_list (hlt : ∀ x y, lt x y = decide (f (v x) < f (v y))) (n : Nat) : ∀ (k i : Nat) (d : Array α) (P R : List α), n - i = k → i ≤ n → d.toList = P ++ R → P.map v = ordF f i → R.map v = (List.range' i (n - i)).map (fun i : Nat => (i : Int)) →
    (insOuter lt 0 n i d).toList.map v = ordF f n
  | 0, i, d, P, R, hk, hi, hd, hP, hR => by
    obtain rfl : i = n := by omega
    have hR0 : R = [] := by
      have : (R.map v).length = 0 := by rw [hR]; simp
      exact List.eq_nil_of_length_eq_zero (by simpa using this)
    rw [insOuter, if_neg (by omega), hd, hR0]
    simpa using hP
  | k + 1, i, d, P, R, hk, hi, hd, hP, hR => by
    have hin : i < n := by omega
    rw [insOuter, if_pos hin]
    obtain ⟨m, hm⟩ : ∃ m, n - i = m + 1 := ⟨n - i - 1, by omega⟩
    rw [hm, List.range'_succ, List.map_cons] at hR
    obtain ⟨x, R', rfl, hx, hR'⟩ : ∃ x R', R = x :: R' ∧ v x = (i : Int) ∧ R'.map v = (List.range' (i + 1) m).map (fun i : Nat => (i : Int)) := by
      cases R with
      | nil => simp at hR
      | cons x R' => simp only [List.map_cons, List.cons.injEq] at hR; exact ⟨x, R', rfl, hR.1, hR.2⟩
    have hPl : P.length = i := by
      have := congrArg List.length hP
      rw [List.length_map, len_ordF] at this; exact this
    have hin2 := insInner_list lt v f hlt P R' x i d (by omega) (by rw [List.take_of_length_le (by omega), List.drop_of_length_le (by omega)]; simpa using hd)
    have hcl := cutFrom_le f (v x) (P.map v) i
    generalize insInner lt 0 i d = D at hin2 ⊢
    have hPm : (P.map v).length = i := by simp [hPl]
    have hord : (P.map v).take (cutFrom f (v x) (P.map v) i) ++ v x :: (P.map v).drop (cutFrom f (v x) (P.map v) i) = ordF f (i + 1) := by
      rw [ordF, insR, hP, hx, len_ordF]
    have hDl : (D.toList.map v) = ordF f (i + 1) ++ R'.map v := by rw [hin2, ← hord]; simp
    refine insOuter_list hlt n k (i + 1) D (D.toList.take (i + 1)) (D.toList.drop (i + 1)) (by omega) (by omega) (List.take_append_drop _ _).symm ?_ ?_
    · rw [List.map_take, hDl, List.take_append_of_le_length (by rw [len_ordF]; omega), List.take_of_length_le (by rw [len_ordF]; omega)]
    · rw [List.map_drop, hDl, List.drop_append, List.drop_of_length_le (by rw [len_ordF]; omega), len_ordF, Nat.sub_self, List.drop_zero, List.nil_append, hR', show n - (i + 1) = m by omega]
theorem insSort_list (hlt : ∀ x y, lt x y = decide (f (v x) < f (v y))) (n : Nat) (d : Array α) (hn : 0 < n) (hd : d.toList.map v = (List.range n).map (fun i : Nat => (i : Int))) : (insertionSort lt d 0 n).toList.map v = ordF f n := by
  unfold insertionSort
  obtain ⟨m, rfl⟩ : ∃ m, n = m + 1 := ⟨n - 1, by omega⟩
  rw [List.range_eq_range', List.range'_succ, List.map_cons] at hd
  cases hD : d.toList with
  | nil => rw [hD] at hd; simp at hd
  | cons x R =>
    rw [hD] at hd
    simp only [List.map_cons, List.cons.injEq] at hd
    refine insOuter_list lt v f hlt (m + 1) m 1 d [x] R (by omega) (by omega) hD ?_ ?_
    · simp [hd.1, ordF, insR, cutFrom]
    · rw [hd.2]; congr 1
end
end Go.Proofs.Ytpifimghlfpbaaa.S14
