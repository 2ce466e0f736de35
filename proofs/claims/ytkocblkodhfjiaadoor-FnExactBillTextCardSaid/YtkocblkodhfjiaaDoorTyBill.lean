/-
  The walks of the law's own helpers on Bill and on lists of it: copy, compare, measure, mark, look. Written by gen_struct.py.
  Conditions: those written at each theorem.
-/
import Derived.Test.YtkocblkodhfjiaaDoorNums
import Derived.Test.YtkocblkodhfjiaaDoorOpen
import Derived.OwnWalk
import Derived.StillTailTactics
namespace Go.Proofs.YtkocblkodhfjiaaDoor
open Go.RowKit
set_option maxRecDepth 100000

structure Bill where
  id : Int
  hours : Int
  pages : Int
  poor : Bool
  pub : Bool
  paid : Int

def aggBill (x : Bill) : Value := .agg #[.int .i64 x.id, .int .i64 x.hours, .int .i64 x.pages, .bool x.poor, .bool x.pub, .int .i64 x.paid]
def cellBill (x : Bill) : List Value := [.int .i64 x.id, .int .i64 x.hours, .int .i64 x.pages, .bool x.poor, .bool x.pub, .int .i64 x.paid]
def cellsBill (l : List Bill) : List Value := l.flatMap cellBill
instance : Inhabited Bill := ⟨⟨0, 0, 0, false, false, 0⟩⟩
theorem len_cellsBill (l : List Bill) : (cellsBill l).length = l.length * 6 := length_flat cellBill 6 (fun _ => rfl) l
theorem cellsBill_append (l m : List Bill) : cellsBill (l ++ m) = cellsBill l ++ cellsBill m := by simp [cellsBill]
theorem cellsBill_at {w : World} {l : List Bill} {b o k : Nat} (hc : ∀ j u, (cellsBill l)[j]? = some u → w.cell? ⟨b, o + j, none⟩ = some u) (h : k < l.length) :
    w.cell? ⟨b, o + k * 6, none⟩ = some (.int .i64 l[k].id) ∧ w.cell? ⟨b, o + k * 6 + 1, none⟩ = some (.int .i64 l[k].hours) ∧ w.cell? ⟨b, o + k * 6 + 2, none⟩ = some (.int .i64 l[k].pages) ∧ w.cell? ⟨b, o + k * 6 + 3, none⟩ = some (.bool l[k].poor) ∧ w.cell? ⟨b, o + k * 6 + 4, none⟩ = some (.bool l[k].pub) ∧ w.cell? ⟨b, o + k * 6 + 5, none⟩ = some (.int .i64 l[k].paid) := by
  have e : ∀ r, r < 6 → (cellsBill l)[k * 6 + r]? = (cellBill l[k])[r]? := fun r hr => getElem?_flat cellBill 6 (fun _ => rfl) l k r h hr
  exact ⟨hc _ _ (e 0 (by omega)), hc _ _ (e 1 (by omega)), hc _ _ (e 2 (by omega)), hc _ _ (e 3 (by omega)), hc _ _ (e 4 (by omega)), hc _ _ (e 5 (by omega))⟩

theorem toBill_any (x : Bill) (w : World) : Calls Tryd.prog 6 #[aggBill x] w fun e w' => e = .returned (aggBill x) ∧ Below w.heap.size w w' := by
  unfold aggBill
  go_enter Tryd.func6, Tryd.ntmps6
  go_wp2
  go_returns
  exact ⟨rfl, by go_grown⟩

theorem infoBill : (Tryd.prog.info? 30).map (fun i => (i.zero, i.size, i.bytes)) = some (some (.agg #[.int .i64 0, .int .i64 0, .int .i64 0, .bool false, .bool false, .int .i64 0]), 6, 40) := by kernel_rfl





section
variable {H : Type} {enc : TypeId × Value → H} {W : World} {base : Nat} {v : Value} {d : DataW H} {p : List MemPlace} {r : Reach}
open Go.ChangeShapes Go.WideShapes Go.ChangeAt Go.RowKit Go.Deep

theorem billFields : ∃ f0 f1 f2 f3 f4 f5 : Field, Tryd.prog.underlying 25 = some (.struct #[f0, f1, f2, f3, f4, f5]) ∧ oneCellFields Tryd.prog #[f0, f1, f2, f3, f4, f5] = true ∧ f0.type = 3 ∧ f1.type = 3 ∧ f2.type = 3 ∧ f3.type = 4 ∧ f4.type = 4 ∧ f5.type = 3 :=
  ⟨_, _, _, _, _, _, Tryd.underlying25, by kernel_rfl, rfl, rfl, rfl, rfl, rfl, rfl⟩

theorem bill_of {fuel : Nat} {cs : List Value} {x : DataW H × List MemPlace} (h : DataW.trod enc Tryd.prog W 0 (fun _ => true) true fuel 25 cs = some x) :
    ∃ y : Bill, cs = cellBill y ∧ I64 y.id ∧ I64 y.hours ∧ I64 y.pages ∧ I64 y.paid := by
  obtain ⟨f0, f1, f2, f3, f4, f5, hs, hone, t0, t1, t2, t3, t4, t5⟩ := billFields
  obtain ⟨hl, n, hf⟩ := fields_of hs hone (by kernel_rfl) h
  obtain ⟨u0, y0, c0, k0⟩ := hf 0 f0 rfl
  rw [t0] at k0
  obtain ⟨a0, e0, _, w0⟩ := DataW.trod_int Tryd.underlying3 k0
  obtain ⟨u1, y1, c1, k1⟩ := hf 1 f1 rfl
  rw [t1] at k1
  obtain ⟨a1, e1, _, w1⟩ := DataW.trod_int Tryd.underlying3 k1
  obtain ⟨u2, y2, c2, k2⟩ := hf 2 f2 rfl
  rw [t2] at k2
  obtain ⟨a2, e2, _, w2⟩ := DataW.trod_int Tryd.underlying3 k2
  obtain ⟨u3, y3, c3, k3⟩ := hf 3 f3 rfl
  rw [t3] at k3
  obtain ⟨a3, e3, _⟩ := DataW.trod_bool Tryd.underlying4 k3
  obtain ⟨u4, y4, c4, k4⟩ := hf 4 f4 rfl
  rw [t4] at k4
  obtain ⟨a4, e4, _⟩ := DataW.trod_bool Tryd.underlying4 k4
  obtain ⟨u5, y5, c5, k5⟩ := hf 5 f5 rfl
  rw [t5] at k5
  obtain ⟨a5, e5, _, w5⟩ := DataW.trod_int Tryd.underlying3 k5
  match cs, hl with
  | [z0, z1, z2, z3, z4, z5], _ =>
    simp at c0 c1 c2 c3 c4 c5 e0 e1 e2 e3 e4 e5
    subst c0 c1 c2 c3 c4 c5 e0 e1 e2 e3 e4 e5
    exact ⟨⟨a0, a1, a2, a3, a4, a5⟩, rfl, I64.of_wf w0, I64.of_wf w1, I64.of_wf w2, I64.of_wf w5⟩

theorem in_bill (hv : Value.okWide Tryd.prog W r base 25 v) (h : DataW.Trod enc Tryd.prog W 0 (fun _ => true) true 25 v d p) : ∃ y : Bill, (I64 y.id ∧ I64 y.hours ∧ I64 y.pages ∧ I64 y.paid) ∧ v = aggBill y := by
  obtain ⟨cs, rfl, _⟩ := okWide_struct Tryd.underlying25 hv
  obtain ⟨fuel, hf⟩ := h
  obtain ⟨y, hcs, hw⟩ := bill_of hf
  refine ⟨y, hw, ?_⟩
  have hcs' : cs.toList = cellBill y := by simpa [Value.cells] using hcs
  unfold aggBill
  congr 1
  exact Array.toList_inj.1 (by rw [hcs']; rfl)

end

end Go.Proofs.YtkocblkodhfjiaaDoor
