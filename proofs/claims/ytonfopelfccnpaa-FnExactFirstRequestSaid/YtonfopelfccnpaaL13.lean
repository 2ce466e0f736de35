/-
  Plain laws of chapter 13: counting working days, due days, stops. No program in sight.
  Conditions: those written at each theorem.
-/
import Derived.Test.YtonfopelfccnpaaCells
namespace Go.Proofs.Ytonfopelfccnpaa
open Go.RowKit

/-- a working day -/
def wkB (d : Int) : Bool := decide (d % 7 < 5)

/-- how many of the m days from d on are working days -/
def wcnt (d : Int) : Nat → Int
  | 0 => 0
  | m + 1 => (if wkB d = true then 1 else 0) + wcnt (d + 1) m

/-- a day lies in some stop -/
def inStops (S : List (Int × Int)) (d : Int) : Bool := S.any fun p => inB d p.1 p.2

/-- a day counts -/
def cntB (S : List (Int × Int)) (d : Int) : Bool := wkB d && !inStops S d

theorem cntB_nil (d : Int) : cntB [] d = wkB d := by simp [cntB, inStops]

/-- the day on which n more days have counted -/
def dueF (S : List (Int × Int)) : Nat → Int → Int → Int
  | 0, d, _ => d
  | f + 1, d, n => if n ≤ 0 then d else dueF S f (d + 1) (if cntB S (d + 1) = true then n - 1 else n)

/-- how many steps are left at most -/
def dueM (d n : Int) : Int := 3 * n + (if d < 20000 then 20003 - d else if d % 7 = 4 then 3 else if d % 7 = 5 then 2 else 1)

def dueOf (S : List (Int × Int)) (d n : Int) : Int := dueF S (20003 + 3 * n.toNat) d n

def lateStops (S : List (Int × Int)) : Prop := ∀ p ∈ S, p.2 ≤ 20000

theorem dueM_start {d n : Int} (h0 : 0 ≤ d) (hn : 0 ≤ n) : dueM d n ≤ ((20003 + 3 * n.toNat : Nat) : Int) := by
  unfold dueM; split
  · omega
  · split
    · omega
    · split <;> omega

theorem not_inStops {S : List (Int × Int)} (hS : lateStops S) {d : Int} (h : 20000 < d) : inStops S d = false := by
  unfold inStops
  rw [List.any_eq_false]
  intro p hp
  have := hS p hp
  simp only [inB, decide_eq_true_eq]
  omega

theorem dueM_step {S : List (Int × Int)} (hS : lateStops S) {d n : Int} (h0 : 0 ≤ d) (hn : 0 < n) : dueM (d + 1) (if cntB S (d + 1) = true then n - 1 else n) + 1 ≤ dueM d n := by
  by_cases hc : cntB S (d + 1) = true
  · rw [if_pos hc]
    unfold dueM
    have hw : (d + 1) % 7 < 5 := by
      simp only [cntB, Bool.and_eq_true, wkB, decide_eq_true_eq] at hc
      exact hc.1
    repeat' split
    all_goals omega
  · rw [if_neg hc]
    unfold dueM
    by_cases hd : d + 1 ≤ 20000
    · repeat' split
      all_goals omega
    · have hw : ¬ (d + 1) % 7 < 5 := by
        intro hw
        apply hc
        simp [cntB, wkB, hw, not_inStops hS (show 20000 < d + 1 by omega)]
      repeat' split
      all_goals omega

theorem dueM_pos {d n : Int} (hn : 0 ≤ n) : 1 ≤ dueM d n := by
  unfold dueM
  repeat' split
  all_goals omega

theorem dueF_done (S : List (Int × Int)) (f : Nat) (d n : Int) (h : n ≤ 0) : dueF S f d n = d := by
  cases f with
  | zero => rfl
  | succ f => simp [dueF, h]

theorem dueF_go (S : List (Int × Int)) (f : Nat) (d n : Int) (h : 0 < n) : dueF S (f + 1) d n = dueF S f (d + 1) (if cntB S (d + 1) = true then n - 1 else n) := by
  simp only [dueF]
  rw [if_neg (by omega)]

theorem dueF_ge (S : List (Int × Int)) (f : Nat) : ∀ (d n : Int), d ≤ dueF S f d n := by
  induction f with
  | zero => intro d n; exact Int.le_refl _
  | succ f ih =>
    intro d n
    simp only [dueF]
    split
    · exact Int.le_refl _
    · have := ih (d + 1) (if cntB S (d + 1) = true then n - 1 else n)
      omega

theorem dueF_gt (S : List (Int × Int)) (f : Nat) (d n : Int) (h : 0 < n) (hf : 1 ≤ f) : d < dueF S f d n := by
  obtain ⟨g, rfl⟩ : ∃ g, f = g + 1 := ⟨f - 1, by omega⟩
  rw [dueF_go S g d n h]
  have := dueF_ge S g (d + 1) (if cntB S (d + 1) = true then n - 1 else n)
  omega

/-- what is answered of a due day: none where it is too late -/
def dueAns (x : Int) : Value := if x ≤ 20000 then .tuple #[.int .i64 x, .bool true] else .tuple #[.int .i64 0, .bool false]

/-! ### requests -/
structure Req where
  id : Int
  came : Int
  working : Int
  extended : Int
  stops : List (Int × Int)

def stopsOk (last : Int) : List (Int × Int) → Bool
  | [] => true
  | p :: r => if p.1 ≤ last ∨ p.2 < p.1 ∨ 20000 < p.2 then false else stopsOk p.2 r

def headOk (r : Req) : Bool := inB r.id 1 99 && inB r.came 0 20000 && inB r.working 1 60 && inB r.extended 0 40 && decide (r.stops.length ≤ 4)
def reqOk (r : Req) : Bool := headOk r && stopsOk r.came r.stops

theorem stopsOk_cons (last : Int) (p : Int × Int) (r : List (Int × Int)) (h : last < p.1 ∧ p.1 ≤ p.2 ∧ p.2 ≤ 20000) : stopsOk last (p :: r) = stopsOk p.2 r := by
  simp only [stopsOk]; rw [if_neg (by omega)]
theorem stopsOk_bad (last : Int) (p : Int × Int) (r : List (Int × Int)) (h : ¬ (last < p.1 ∧ p.1 ≤ p.2 ∧ p.2 ≤ 20000)) : stopsOk last (p :: r) = false := by
  simp only [stopsOk]; rw [if_pos (by omega)]

theorem stopsOk_late {last : Int} {S : List (Int × Int)} (h : stopsOk last S = true) : lateStops S := by
  induction S generalizing last with
  | nil => intro p hp; cases hp
  | cons q r ih =>
    by_cases hq : last < q.1 ∧ q.1 ≤ q.2 ∧ q.2 ≤ 20000
    · rw [stopsOk_cons last q r hq] at h
      intro p hp
      rcases List.mem_cons.1 hp with rfl | hp
      · exact hq.2.2
      · exact ih h p hp
    · rw [stopsOk_bad last q r hq] at h; cases h

theorem headOk_true {r : Req} (h : headOk r = true) : (1 ≤ r.id ∧ r.id ≤ 99) ∧ (0 ≤ r.came ∧ r.came ≤ 20000) ∧ (1 ≤ r.working ∧ r.working ≤ 60) ∧ (0 ≤ r.extended ∧ r.extended ≤ 40) ∧ r.stops.length ≤ 4 := by
  simpa [headOk, inB, and_assoc] using h

theorem reqOk_true {r : Req} (h : reqOk r = true) : headOk r = true ∧ stopsOk r.came r.stops = true := by
  simpa [reqOk] using h

end Go.Proofs.Ytonfopelfccnpaa
