/-
  Plain laws of chapter 17: for how many days somebody held a record. No program in sight.
  Conditions: those written at each theorem.
-/
import Derived.Test.YtcneipheipneaaaL17
namespace Go.Proofs.Ytcneipheipneaaa
open Go.RowKit

/-- the end of a hand's time: the program's way -/
def endF (r day : Int) : List Hand → Int
  | [] => day
  | h :: t => if h.record = r then min day h.day else endF r day t
/-- the end of a hand's time: the reference's way, from the back -/
def endS (r day : Int) : List Hand → Int
  | [] => day
  | h :: t => if h.record = r ∧ h.day < day then h.day else endS r day t

def heldF (r who day : Int) (e : List Hand → Int) : List Hand → Int
  | [] => 0
  | h :: t => (if h.record = r ∧ h.taker = who ∧ h.day ≤ day then e t - h.day else 0) + heldF r who day e t

theorem endF_of_idx {r day : Int} (t : List Hand) : ∀ i : Nat, (idxF (ofRec r) t i = -1 ∧ endF r day t = day) ∨ ∃ j, ∃ h : j < t.length, idxF (ofRec r) t i = ((i + j : Nat) : Int) ∧ endF r day t = min day t[j].day := by
  induction t with
  | nil => intro i; exact .inl ⟨rfl, rfl⟩
  | cons h t ih =>
    intro i
    by_cases hr : h.record = r
    · exact .inr ⟨0, by simp, by simp [idxF, ofRec, hr], by simp [endF, hr]⟩
    · rcases ih (i + 1) with ⟨h1, h2⟩ | ⟨j, hj, h1, h2⟩
      · exact .inl ⟨by simpa [idxF, ofRec, hr] using h1, by simpa [endF, hr] using h2⟩
      · refine .inr ⟨j + 1, by simpa using hj, ?_, by simpa [endF, hr] using h2⟩
        simp only [idxF, ofRec, hr, decide_false, Bool.false_eq_true, if_false]
        rw [h1]; congr 1; omega

/-- the days rise -/
def risen : List Hand → Prop
  | [] => True
  | h :: t => (∀ x ∈ t, h.day ≤ x.day) ∧ risen t

theorem endS_late {r day : Int} {t : List Hand} (h : ∀ x ∈ t, day ≤ x.day) : endS r day t = day := by
  induction t with
  | nil => rfl
  | cons x t ih =>
    have := h x (by simp)
    simp only [endS]
    rw [if_neg (by omega)]
    exact ih fun y hy => h y (by simp [hy])

theorem endS_eq {r day : Int} {t : List Hand} (h : risen t) : endS r day t = endF r day t := by
  induction t with
  | nil => rfl
  | cons x t ih =>
    simp only [endS, endF]
    by_cases hr : x.record = r
    · by_cases hd : x.day < day
      · rw [if_pos ⟨hr, hd⟩, if_pos hr]; omega
      · rw [if_neg (by omega), if_pos hr, endS_late (fun y hy => by have := h.1 y hy; omega)]; omega
    · rw [if_neg (by omega), if_neg hr]
      exact ih h.2

theorem heldF_eq {r who day : Int} {t : List Hand} (h : risen t) : heldF r who day (endS r day) t = heldF r who day (endF r day) t := by
  induction t with
  | nil => rfl
  | cons x t ih => simp only [heldF]; rw [ih h.2, endS_eq h.2]

theorem risen_of {l : List Hand} (h : ∀ i (h : i + 1 < l.length), l[i].day ≤ l[i + 1].day) : risen l := by
  have mono : ∀ i j (hi : i < l.length) (hj : j < l.length), i ≤ j → l[i].day ≤ l[j].day := by
    intro i j hi hj hij
    induction j with
    | zero =>
      have e : i = 0 := by omega
      subst e; exact Int.le_refl _
    | succ j ih =>
      by_cases e : i = j + 1
      · subst e; exact Int.le_refl _
      · exact Int.le_trans (ih (by omega) (by omega)) (h j hj)
  have go : ∀ n, risen (l.drop n) := by
    intro n
    generalize hm : l.length - n = m
    induction m generalizing n with
    | zero => rw [List.drop_of_length_le (by omega)]; trivial
    | succ m ih =>
      have hn : n < l.length := by omega
      rw [List.drop_eq_getElem_cons hn]
      refine ⟨fun x hx => ?_, ih (n + 1) (by omega)⟩
      obtain ⟨j, hj, rfl⟩ := List.getElem_of_mem hx
      rw [List.getElem_drop]
      exact mono _ _ _ _ (by omega)
  have := go 0
  simpa using this

theorem handOk_day {h : Hand} (k : handOk h = true) : 0 ≤ h.day ∧ h.day ≤ 20000 := by
  have := of_decide_eq_true k; omega

theorem endF_bd {r day : Int} {t : List Hand} (hd : 0 ≤ day ∧ day ≤ 20000) (h : ∀ x ∈ t, 0 ≤ x.day ∧ x.day ≤ 20000) : 0 ≤ endF r day t ∧ endF r day t ≤ 20000 := by
  induction t with
  | nil => exact hd
  | cons x t ih =>
    have := h x (by simp)
    simp only [endF]
    split
    · omega
    · exact ih fun y hy => h y (by simp [hy])

end Go.Proofs.Ytcneipheipneaaa
