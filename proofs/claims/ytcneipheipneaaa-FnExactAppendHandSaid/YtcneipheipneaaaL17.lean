/-
  Plain laws of chapter 17: hands, what is a custody list, who holds. No program in sight.
  Conditions: those written at each theorem.
-/
import Derived.Test.YtcneipheipneaaaTyHand
namespace Go.Proofs.Ytcneipheipneaaa
open Go.RowKit

def handOk (h : Hand) : Bool := decide ((1 ≤ h.record ∧ h.record ≤ 999) ∧ (1 ≤ h.giver ∧ h.giver ≤ 20) ∧ (1 ≤ h.taker ∧ h.taker ≤ 20) ∧ h.giver ≠ h.taker ∧ (0 ≤ h.day ∧ h.day ≤ 20000) ∧ (0 ≤ h.sum ∧ h.sum ≤ 999999))

/-- the last place before i at which P holds, or -1 -/
def befF {α : Type} (P : α → Bool) (l : List α) : Nat → Int
  | 0 => -1
  | i + 1 => if (l[i]?.any P) = true then (i : Int) else befF P l i

theorem befF_hit {α : Type} {P : α → Bool} {l : List α} {i : Nat} (h : i < l.length) (hp : P l[i] = true) : befF P l (i + 1) = i := by
  simp [befF, List.getElem?_eq_getElem h, hp]
theorem befF_miss {α : Type} {P : α → Bool} {l : List α} {i : Nat} (h : i < l.length) (hp : ¬ P l[i] = true) : befF P l (i + 1) = befF P l i := by
  simp [befF, List.getElem?_eq_getElem h, hp]

/-- what the search backwards finds -/
theorem befF_spec {α : Type} (P : α → Bool) (l : List α) (i : Nat) (hi : i ≤ l.length) :
    (befF P l i = -1 ∧ ∀ m (h : m < l.length), m < i → ¬ P l[m] = true) ∨
    ∃ k, ∃ h : k < l.length, befF P l i = (k : Int) ∧ k < i ∧ P l[k] = true ∧ ∀ m (h : m < l.length), k < m → m < i → ¬ P l[m] = true := by
  induction i with
  | zero => exact .inl ⟨rfl, fun m _ h => absurd h (by omega)⟩
  | succ i ih =>
    have hil : i < l.length := by omega
    by_cases hp : P l[i] = true
    · exact .inr ⟨i, hil, befF_hit hil hp, by omega, hp, fun m h h1 h2 => absurd h1 (by omega)⟩
    · rw [befF_miss hil hp]
      rcases ih (by omega) with ⟨h1, h2⟩ | ⟨k, hk, h1, h2, h3, h4⟩
      · refine .inl ⟨h1, fun m hm hmi => ?_⟩
        by_cases e : m = i
        · subst e; exact hp
        · exact h2 m hm (by omega)
      · refine .inr ⟨k, hk, h1, by omega, h3, fun m hm h5 h6 => ?_⟩
        by_cases e : m = i
        · subst e; exact hp
        · exact h4 m hm h5 (by omega)

/-- what the search forwards from i finds -/
theorem idxF_spec {α : Type} (P : α → Bool) (l : List α) (i : Nat) :
    (idxF P (l.drop i) i = -1 ∧ ∀ m (h : m < l.length), i ≤ m → ¬ P l[m] = true) ∨
    ∃ k, ∃ h : k < l.length, idxF P (l.drop i) i = (k : Int) ∧ i ≤ k ∧ P l[k] = true ∧ ∀ m (h : m < l.length), i ≤ m → m < k → ¬ P l[m] = true := by
  generalize hn : l.length - i = n
  induction n generalizing i with
  | zero =>
    rw [List.drop_of_length_le (by omega)]
    exact .inl ⟨rfl, fun m h h2 => absurd h (by omega)⟩
  | succ n ih =>
    have hil : i < l.length := by omega
    rw [List.drop_eq_getElem_cons hil]
    by_cases hp : P l[i] = true
    · exact .inr ⟨i, hil, by simp [idxF, hp], Nat.le_refl _, hp, fun m h h1 h2 => absurd h1 (by omega)⟩
    · rw [show idxF P (l[i] :: l.drop (i + 1)) i = idxF P (l.drop (i + 1)) (i + 1) by simp [idxF, hp]]
      rcases ih (i + 1) (by omega) with ⟨h1, h2⟩ | ⟨k, hk, h1, h2, h3, h4⟩
      · refine .inl ⟨h1, fun m hm hmi => ?_⟩
        by_cases e : m = i
        · subst e; exact hp
        · exact h2 m hm (by omega)
      · refine .inr ⟨k, hk, h1, by omega, h3, fun m hm h5 h6 => ?_⟩
        by_cases e : m = i
        · subst e; exact hp
        · exact h4 m hm (by omega) h6

def ofRec (r : Int) (h : Hand) : Bool := decide (h.record = r)

/-- two hands of one record follow each other -/
def adj (l : List Hand) (i k : Nat) (hi : i < l.length) (hk : k < l.length) : Prop :=
  i < k ∧ l[i].record = l[k].record ∧ ∀ m (h : m < l.length), i < m → m < k → l[m].record ≠ l[k].record

def custody (l : List Hand) : Prop :=
  l.length ≤ 12 ∧ (∀ i (h : i < l.length), handOk l[i] = true) ∧ (∀ i (h : i + 1 < l.length), l[i].day ≤ l[i + 1].day) ∧
  ∀ i k (hi : i < l.length) (hk : k < l.length), adj l i k hi hk → l[i].taker = l[k].giver

open Classical in
noncomputable def custB (l : List Hand) : Bool := decide (custody l)

/-- what the reference asks of place i -/
def okS (l : List Hand) (i : Nat) (hi : i < l.length) : Prop :=
  handOk l[i] = true ∧ (∀ h : 0 < i, l[i - 1].day ≤ l[i].day) ∧ ∀ k (hk : k < l.length), befF (ofRec l[i].record) l i = (k : Int) → l[k].taker = l[i].giver
/-- what the program asks of place i -/
def okI (l : List Hand) (i : Nat) (hi : i < l.length) : Prop :=
  handOk l[i] = true ∧ (∀ h : 0 < i, l[i - 1].day ≤ l[i].day) ∧ ∀ k (hk : k < l.length), idxF (ofRec l[i].record) (l.drop (i + 1)) (i + 1) = (k : Int) → l[k].giver = l[i].taker

theorem custody_S (l : List Hand) : custody l ↔ l.length ≤ 12 ∧ ∀ i (h : i < l.length), okS l i h := by
  constructor
  · rintro ⟨h1, h2, h3, h4⟩
    refine ⟨h1, fun i hi => ⟨h2 i hi, fun h0 => ?_, fun k hk he => ?_⟩⟩
    · have := h3 (i - 1) (by omega)
      simpa [show i - 1 + 1 = i by omega] using this
    · rcases befF_spec (ofRec l[i].record) l i (by omega) with ⟨g1, _⟩ | ⟨k', hk', g1, g2, g3, g4⟩
      · omega
      · have e : k' = k := by omega
        subst e
        refine h4 k' i hk hi ⟨g2, ?_, fun m hm m1 m2 => ?_⟩
        · simpa [ofRec] using g3
        · simpa [ofRec] using g4 m hm m1 m2
  · rintro ⟨h1, h2⟩
    refine ⟨h1, fun i hi => (h2 i hi).1, fun i hi => ?_, fun i k hi hk ⟨a1, a2, a3⟩ => ?_⟩
    · exact (h2 (i + 1) hi).2.1 (by omega)
    · refine (h2 k hk).2.2 i hi ?_
      rcases befF_spec (ofRec l[k].record) l k (by omega) with ⟨_, g2⟩ | ⟨k', hk', g1, g2, g3, g4⟩
      · exact absurd (by simpa [ofRec] using a2) (g2 i hi a1)
      · rw [g1]
        by_cases e : k' = i
        · rw [e]
        · by_cases e2 : i < k'
          · exact absurd (by simpa [ofRec] using g3) (a3 k' hk' e2 g2)
          · exact absurd (by simpa [ofRec] using a2) (g4 i hi (by omega) a1)

theorem custody_I (l : List Hand) : custody l ↔ l.length ≤ 12 ∧ ∀ i (h : i < l.length), okI l i h := by
  constructor
  · rintro ⟨h1, h2, h3, h4⟩
    refine ⟨h1, fun i hi => ⟨h2 i hi, fun h0 => ?_, fun k hk he => ?_⟩⟩
    · have := h3 (i - 1) (by omega)
      simpa [show i - 1 + 1 = i by omega] using this
    · rcases idxF_spec (ofRec l[i].record) l (i + 1) with ⟨g1, _⟩ | ⟨k', hk', g1, g2, g3, g4⟩
      · omega
      · have e : k' = k := by omega
        subst e
        have g3' : l[k'].record = l[i].record := by simpa [ofRec] using g3
        refine (h4 i k' hi hk ⟨by omega, g3'.symm, fun m hm m1 m2 => ?_⟩).symm
        rw [g3']
        simpa [ofRec] using g4 m hm m1 m2
  · rintro ⟨h1, h2⟩
    refine ⟨h1, fun i hi => (h2 i hi).1, fun i hi => ?_, fun i k hi hk ⟨a1, a2, a3⟩ => ?_⟩
    · exact (h2 (i + 1) hi).2.1 (by omega)
    · refine ((h2 i hi).2.2 k hk ?_).symm
      rcases idxF_spec (ofRec l[i].record) l (i + 1) with ⟨_, g2⟩ | ⟨k', hk', g1, g2, g3, g4⟩
      · exact absurd (by simpa [ofRec] using a2.symm) (g2 k hk a1)
      · rw [g1]
        by_cases e : k' = k
        · rw [e]
        · have g3' : l[k'].record = l[i].record := by simpa [ofRec] using g3
          by_cases e2 : k' < k
          · exact absurd (g3'.trans a2) (a3 k' hk' g2 e2)
          · exact absurd (by simpa [ofRec] using a2.symm) (g4 k hk (by omega) (by omega))

theorem custB_bad_S {l : List Hand} {i : Nat} {hi : i < l.length} (h : ¬ okS l i hi) : custB l = false := by
  unfold custB; rw [decide_eq_false_iff_not, custody_S]; exact fun k => h (k.2 i hi)
theorem custB_bad_I {l : List Hand} {i : Nat} {hi : i < l.length} (h : ¬ okI l i hi) : custB l = false := by
  unfold custB; rw [decide_eq_false_iff_not, custody_I]; exact fun k => h (k.2 i hi)
theorem custB_end_S {l : List Hand} (h : ∀ i (h : i < l.length), okS l i h) : custB l = decide ((l.length : Int) ≤ 12) := by
  unfold custB; rw [custody_S]; simp only [decide_eq_decide]; exact ⟨fun k => by omega, fun k => ⟨by omega, h⟩⟩
theorem custB_end_I {l : List Hand} (h : ∀ i (h : i < l.length), okI l i h) : custB l = decide ((l.length : Int) ≤ 12) := by
  unfold custB; rw [custody_I]; simp only [decide_eq_decide]; exact ⟨fun k => by omega, fun k => ⟨by omega, h⟩⟩
theorem custB_true {l : List Hand} (h : custB l = true) : custody l := by unfold custB at h; simpa using h

/-- who holds a record at the end of a day -/
def holdF (r d : Int) : List Hand → Int → Int
  | [], who => who
  | h :: t, who => holdF r d t (if h.record = r ∧ h.day ≤ d then h.taker else who)

end Go.Proofs.Ytcneipheipneaaa
