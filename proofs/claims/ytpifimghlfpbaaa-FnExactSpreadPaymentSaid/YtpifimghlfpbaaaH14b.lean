/-
  A payment spread over bills. Plain lists.
  Conditions: those written at each theorem.
-/
import Derived.Test.YtpifimghlfpbaaaP14v
import Derived.Test.YtpifimghlfpbaaaL14d
namespace Go.Proofs.Ytpifimghlfpbaaa
open Go.RowKit

def addPaid (b : Bill) (n : Int) : Bill := ⟨b.id, b.hours, b.pages, b.poor, b.pub, b.paid + n⟩
/-- what is paid to the x-th bill out of the cents that are left -/
def partI (t : Tariff) (l : List Bill) (x c : Int) : Int := if wgt t l x < c then wgt t l x else c
def payO (t : Tariff) (l : List Bill) : List Int → List Bill → Int → List Bill × Int
  | [], out, c => (out, c)
  | x :: r, out, c => payO t l r (out.set x.toNat (addPaid ((l[x.toNat]?).getD default) (partI t l x c))) (c - partI t l x c)
theorem len_payO (t : Tariff) (l : List Bill) : ∀ (r : List Int) (out : List Bill) (c : Int), (payO t l r out c).1.length = out.length
  | [], _, _ => rfl
  | x :: r, out, c => by rw [payO, len_payO t l r]; simp
def spdOk (t : Tariff) (l : List Bill) (c : Int) : Bool := ofOk t l && inB c 0 1000000
def spdAll (t : Tariff) (l : List Bill) (c : Int) : List Bill × Int := payO t l (S14.ordF (wgt t l) l.length) l c
def spdOut (t : Tariff) (l : List Bill) (c : Int) : List Bill := if spdOk t l c = true then (spdAll t l c).1 else []
def spdRest (t : Tariff) (l : List Bill) (c : Int) : Int := if spdOk t l c = true then (spdAll t l c).2 else 0
theorem len_spd (t : Tariff) (l : List Bill) (c : Int) (hl : l.length ≤ 1048576) : (spdOut t l c).length ≤ 1048576 := by
  unfold spdOut; split
  · rw [spdAll, len_payO]; exact hl
  · simp
/-- the bills still to come are as they were -/
def Fresh (l out : List Bill) (r : List Int) : Prop := ∀ x ∈ r, out[x.toNat]? = l[x.toNat]?
theorem Fresh.step {l out : List Bill} {i : Nat} {r : List Int} {b : Bill} (h : Fresh l out ((i : Int) :: r)) (hn : ((i : Int) :: r).Nodup) (hp : ∀ x ∈ r, (0 : Int) ≤ x) : Fresh l (out.set i b) r := by
  intro x hx
  have hne := (List.nodup_cons.1 hn).1
  rw [List.getElem?_set_ne (fun e => hne (by
    have := hp x hx
    have : (i : Int) = x := by omega
    rw [this]; exact hx))]
  exact h x (by simp [hx])
theorem range_ints (n : Nat) : ((List.range n).map (fun i : Nat => (i : Int))).length = n := by simp
theorem range_ints_succ (k : Nat) : (List.range (k + 1)).map (fun i : Nat => (i : Int)) = (List.range k).map (fun i : Nat => (i : Int)) ++ [(k : Int)] := by rw [List.range_succ, List.map_append]; rfl
theorem part_bd {t : Tariff} {l : List Bill} {i : Nat} (hi : i < l.length) {c : Int} (h1 : tarOk t = true) (h2 : areB l = true) (hc : 0 ≤ c) : 0 ≤ partI t l i c ∧ partI t l i c ≤ c := by
  have hb := (bills_of h2).1 i hi
  have := open_bd (FeeIn.of h1 hb) (billOk_true hb).2.2.2.1
  rw [← wgt_at t l hi] at this
  unfold partI; split <;> omega
theorem wgt_bd {t : Tariff} {l : List Bill} {i : Nat} (hi : i < l.length) (h1 : tarOk t = true) (h2 : areB l = true) : 0 ≤ wgt t l i ∧ wgt t l i ≤ 1000000 := by
  have hb := (bills_of h2).1 i hi
  have := open_bd (FeeIn.of h1 hb) (billOk_true hb).2.2.2.1
  rwa [← wgt_at t l hi] at this

end Go.Proofs.Ytpifimghlfpbaaa
