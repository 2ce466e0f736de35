/-
  Plain laws of chapter 14: fees. No program in sight.
  Conditions: those written at each theorem.
-/
import Derived.Test.YtpifimghlfpbaaaTyBill
import Derived.Test.YtpifimghlfpbaaaTyTariff
namespace Go.Proofs.Ytpifimghlfpbaaa
open Go.RowKit

def tarOk (t : Tariff) : Bool := inB t.search 0 10000 && inB t.page 0 1000 && inB t.free 0 500 && inB t.limit 0 1000000
def billOk (b : Bill) : Bool := inB b.id 1 999 && inB b.hours 0 200 && inB b.pages 0 5000 && inB b.paid 0 1000000

theorem tarOk_true {t : Tariff} (h : tarOk t = true) : (0 ≤ t.search ∧ t.search ≤ 10000) ∧ (0 ≤ t.page ∧ t.page ≤ 1000) ∧ (0 ≤ t.free ∧ t.free ≤ 500) ∧ (0 ≤ t.limit ∧ t.limit ≤ 1000000) := by
  simpa [tarOk, inB, and_assoc] using h
theorem billOk_true {b : Bill} (h : billOk b = true) : (1 ≤ b.id ∧ b.id ≤ 999) ∧ (0 ≤ b.hours ∧ b.hours ≤ 200) ∧ (0 ≤ b.pages ∧ b.pages ≤ 5000) ∧ (0 ≤ b.paid ∧ b.paid ≤ 1000000) := by
  simpa [billOk, inB, and_assoc] using h

/-- pages that cost -/
def overI (t : Tariff) (b : Bill) : Int := if b.pages - t.free < 0 then 0 else b.pages - t.free
def grossI (t : Tariff) (b : Bill) : Int := if b.pub = true then overI t b * t.page else overI t b * t.page + b.hours * t.search
def feeI (t : Tariff) (b : Bill) : Int :=
  if b.poor = true then (if grossI t b < t.limit then grossI t b else t.limit) / 2 else (if grossI t b < t.limit then grossI t b else t.limit)

/-- the bounds under which fees are reckoned -/
def FeeIn (t : Tariff) (b : Bill) : Prop := tarOk t = true ∧ (0 ≤ b.hours ∧ b.hours ≤ 200) ∧ (0 ≤ b.pages ∧ b.pages ≤ 5000)
theorem FeeIn.of {t : Tariff} {b : Bill} (h : tarOk t = true) (k : billOk b = true) : FeeIn t b := ⟨h, (billOk_true k).2.1, (billOk_true k).2.2.1⟩

theorem over_bd {t : Tariff} {b : Bill} (h : FeeIn t b) : 0 ≤ overI t b ∧ overI t b ≤ 5000 := by
  have := tarOk_true h.1
  have := h.2.2
  unfold overI; split <;> omega
theorem mul_bd {a b A B : Int} (h1 : 0 ≤ a) (h2 : a ≤ A) (h3 : 0 ≤ b) (h4 : b ≤ B) : 0 ≤ a * b ∧ a * b ≤ A * B :=
  ⟨Int.mul_nonneg h1 h3, Int.mul_le_mul h2 h4 h3 (by omega)⟩
theorem parts_bd {t : Tariff} {b : Bill} (h : FeeIn t b) : (0 ≤ overI t b * t.page ∧ overI t b * t.page ≤ 5000000) ∧ (0 ≤ b.hours * t.search ∧ b.hours * t.search ≤ 2000000) := by
  have h1 := tarOk_true h.1
  have h2 := over_bd h
  exact ⟨mul_bd h2.1 h2.2 h1.2.1.1 h1.2.1.2, mul_bd h.2.1.1 h.2.1.2 h1.1.1 h1.1.2⟩
theorem gross_bd {t : Tariff} {b : Bill} (h : FeeIn t b) : 0 ≤ grossI t b ∧ grossI t b ≤ 7000000 := by
  have := parts_bd h
  unfold grossI; split <;> omega
theorem fee_bd {t : Tariff} {b : Bill} (h : FeeIn t b) : 0 ≤ feeI t b ∧ feeI t b ≤ 1000000 := by
  have := gross_bd h
  have := tarOk_true h.1
  unfold feeI; split <;> split <;> omega

/-- a list of bills -/
def billsOk (last : Int) : List Bill → Bool
  | [] => true
  | b :: r => if billOk b = true ∧ last < b.id then billsOk b.id r else false
/-- what AreBills answers -/
def areB (l : List Bill) : Bool := billsOk 0 l && decide (l.length ≤ 10)

end Go.Proofs.Ytpifimghlfpbaaa
