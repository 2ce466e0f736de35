/-
  Plain laws of chapter 14: what is open, what was paid too much, sums of fees. No program in sight.
  Conditions: those written at each theorem.
-/
import Derived.Test.YtpifimghlfpbaaaP14g
import Derived.Test.YtpifimghlfpbaaaSi
namespace Go.Proofs.Ytpifimghlfpbaaa
open Go.RowKit

theorem billsOk_mem {last : Int} {l : List Bill} (h : billsOk last l = true) : ∀ b ∈ l, billOk b = true := by
  induction l generalizing last with
  | nil => intro b hb; cases hb
  | cons x r ih =>
    unfold billsOk at h
    split at h
    · rename_i hx
      intro b hb
      rcases List.mem_cons.1 hb with rfl | hb
      · exact hx.1
      · exact ih h b hb
    · cases h
theorem bills_of {l : List Bill} (h : areB l = true) : (∀ (k : Nat) (hk : k < l.length), billOk l[k] = true) ∧ l.length ≤ 10 := by
  simp only [areB, Bool.and_eq_true, decide_eq_true_eq] at h
  exact ⟨fun k hk => billsOk_mem h.1 _ (List.getElem_mem hk), by omega⟩

/-- how much of the fee of a bill is open -/
def openI (t : Tariff) (b : Bill) : Int := if feeI t b - b.paid < 0 then 0 else feeI t b - b.paid
theorem open_bd {t : Tariff} {b : Bill} (h : FeeIn t b) (hp : 0 ≤ b.paid) : 0 ≤ openI t b ∧ openI t b ≤ 1000000 := by
  have := fee_bd h
  unfold openI; split <;> omega

/-- a tariff and a list of bills -/
def ofOk (t : Tariff) (l : List Bill) : Bool := tarOk t && areB l
theorem ofOk_true {t : Tariff} {l : List Bill} (h : ofOk t l = true) : tarOk t = true ∧ areB l = true := by simpa [ofOk] using h
def ofOut (t : Tariff) (l : List Bill) : List Int := if ofOk t l = true then l.map (openI t) else []
theorem len_ofOut (t : Tariff) (l : List Bill) (hl : l.length ≤ 1048576) : (ofOut t l).length ≤ 1048576 := by
  unfold ofOut; split
  · simpa using hl
  · simp

/-- how much too much was paid -/
def moreI (t : Tariff) (b : Bill) : Int := b.paid - feeI t b
def overIds (t : Tariff) : List Bill → List Int
  | [] => []
  | b :: r => if 0 < moreI t b then b.id :: overIds t r else overIds t r
def overSum (t : Tariff) : List Bill → Int
  | [] => 0
  | b :: r => if 0 < moreI t b then moreI t b + overSum t r else overSum t r
def opIds (t : Tariff) (l : List Bill) : List Int := if ofOk t l = true then overIds t l else []
def opSum (t : Tariff) (l : List Bill) : Int := if ofOk t l = true then overSum t l else 0
theorem len_overIds (t : Tariff) (l : List Bill) : (overIds t l).length ≤ l.length := by
  induction l with
  | nil => simp [overIds]
  | cons b r ih => unfold overIds; split <;> simp <;> omega
theorem len_opIds (t : Tariff) (l : List Bill) (hl : l.length ≤ 1048576) : (opIds t l).length ≤ 1048576 := by
  unfold opIds; split
  · have := len_overIds t l; omega
  · simp

/-- the sum of the fees -/
def feeSum (t : Tariff) : List Bill → Int
  | [] => 0
  | b :: r => feeI t b + feeSum t r
def ctOk (a b : Tariff) (l : List Bill) : Bool := tarOk a && (tarOk b && areB l)
def ctNum (a b : Tariff) (l : List Bill) : Int := if feeSum a l < feeSum b l then 1 else if feeSum b l < feeSum a l then 2 else 0
def ctAns (a b : Tariff) (l : List Bill) : Value := if ctOk a b l = true then .tuple #[.int .i64 (ctNum a b l), .bool true] else .tuple #[.int .i64 0, .bool false]
theorem ctAns_form (a b : Tariff) (l : List Bill) : ∃ (x : Int) (y : Bool), ctAns a b l = .tuple #[.int .i64 x, .bool y] := by
  unfold ctAns; split <;> exact ⟨_, _, rfl⟩
theorem sum_cons {f : Bill → Int} {s : List Bill → Int} (hs : ∀ b r, s (b :: r) = f b + s r) {l : List Bill} {k : Nat} (h : k < l.length) {x tot : Int} (K : tot = x + s (l.drop k)) : tot = (x + f l[k]) + s (l.drop (k + 1)) := by
  rw [K, List.drop_eq_getElem_cons h, hs]; omega

end Go.Proofs.Ytpifimghlfpbaaa
