/-
  Plain laws of chapter 14: a payment to a bill. No program in sight.
  Conditions: those written at each theorem.
-/
import Derived.Test.YtpifimghlfpbaaaL14c
import Derived.Test.YtpifimghlfpbaaaShBill
namespace Go.Proofs.Ytpifimghlfpbaaa
open Go.RowKit

theorem billsOk_pair {last : Int} {l : List Bill} (h : billsOk last l = true) : l.Pairwise (fun a b => a.id < b.id) ∧ ∀ b ∈ l, last < b.id := by
  induction l generalizing last with
  | nil => exact ⟨List.Pairwise.nil, fun b hb => by cases hb⟩
  | cons x r ih =>
    unfold billsOk at h
    split at h
    · rename_i hx
      obtain ⟨h1, h2⟩ := ih h
      refine ⟨List.pairwise_cons.2 ⟨h2, h1⟩, fun b hb => ?_⟩
      rcases List.mem_cons.1 hb with rfl | hb
      · exact hx.2
      · have := h2 b hb; omega
    · cases h
theorem bills_apart {l : List Bill} (h : areB l = true) {i j : Nat} (hi : i < l.length) (hj : j < l.length) (he : l[i].id = l[j].id) : i = j := by
  have h1 : billsOk 0 l = true := by simp only [areB, Bool.and_eq_true] at h; exact h.1
  have hp := List.pairwise_iff_getElem.1 (billsOk_pair h1).1
  rcases Nat.lt_trichotomy i j with h | h | h
  · have := hp i j hi hj h; omega
  · exact h
  · have := hp j i hj hi h; omega

/-- cents paid to the bill with a number -/
def isId (id : Int) (b : Bill) : Bool := decide (b.id = id)
def payB (id cents : Int) (b : Bill) : Bill := if b.id = id then ⟨b.id, b.hours, b.pages, b.poor, b.pub, b.paid + cents⟩ else b
def payL (id cents : Int) (l : List Bill) : List Bill := l.map (payB id cents)
theorem len_payL (id cents : Int) (l : List Bill) : (payL id cents l).length = l.length := by simp [payL]
def pbOk (l : List Bill) (id cents : Int) : Bool := areB l && (inB cents 0 1000000 && (l.any (isId id) && areB (payL id cents l)))
def pbOut (l : List Bill) (id cents : Int) : List Bill := if pbOk l id cents = true then payL id cents l else []
theorem len_pbOut (l : List Bill) (id cents : Int) (hl : l.length ≤ 1048576) : (pbOut l id cents).length ≤ 1048576 := by
  unfold pbOut; split
  · rw [len_payL]; exact hl
  · simp
theorem payL_set {l : List Bill} {id cents : Int} (h : areB l = true) {i : Nat} (hi : i < l.length) (he : l[i].id = id) :
    l.set i ⟨l[i].id, l[i].hours, l[i].pages, l[i].poor, l[i].pub, l[i].paid + cents⟩ = payL id cents l := by
  apply List.ext_getElem (by simp [payL])
  intro j h1 h2
  have hj : j < l.length := by simpa using h1
  rw [List.getElem_set]
  simp only [payL, List.getElem_map, payB]
  by_cases hij : i = j
  · subst hij; rw [if_pos rfl, if_pos he]
  · rw [if_neg hij, if_neg]
    intro hc
    exact hij (bills_apart h hi hj (by rw [he, hc]))
theorem cellsBill_set (l : List Bill) (i : Nat) (h : i < l.length) (p : Int) : (cellsBill l).set (i * 6 + 5) (.int .i64 p) = cellsBill (l.set i ⟨l[i].id, l[i].hours, l[i].pages, l[i].poor, l[i].pub, p⟩) := by
  induction l generalizing i with
  | nil => simp at h
  | cons x r ih =>
    have e : ∀ (y : Bill) (t : List Bill), cellsBill (y :: t) = .int .i64 y.id :: .int .i64 y.hours :: .int .i64 y.pages :: .bool y.poor :: .bool y.pub :: .int .i64 y.paid :: cellsBill t := fun _ _ => rfl
    cases i with
    | zero => simp [e]
    | succ i =>
      have := ih i (by simpa using h)
      rw [show (i + 1) * 6 + 5 = i * 6 + 5 + 1 + 1 + 1 + 1 + 1 + 1 by omega, e]
      simp only [List.set_cons_succ, List.getElem_cons_succ]
      rw [e, this]

end Go.Proofs.Ytpifimghlfpbaaa
