/-
  The walks of the law's own helpers on Tariff and on lists of it: copy, compare, measure, mark, look. Written by gen_struct.py.
  Conditions: those written at each theorem.
-/
import Derived.Test.YtpifimghlfpbaaaNums
import Derived.Test.YtpifimghlfpbaaaOpen
import Derived.OwnWalk
import Derived.StillTailTactics
namespace Go.Proofs.Ytpifimghlfpbaaa
open Go.RowKit
set_option maxRecDepth 100000

structure Tariff where
  search : Int
  page : Int
  free : Int
  limit : Int

def aggTariff (x : Tariff) : Value := .agg #[.int .i64 x.search, .int .i64 x.page, .int .i64 x.free, .int .i64 x.limit]
def cellTariff (x : Tariff) : List Value := [.int .i64 x.search, .int .i64 x.page, .int .i64 x.free, .int .i64 x.limit]
def cellsTariff (l : List Tariff) : List Value := l.flatMap cellTariff
instance : Inhabited Tariff := ⟨⟨0, 0, 0, 0⟩⟩
theorem len_cellsTariff (l : List Tariff) : (cellsTariff l).length = l.length * 4 := length_flat cellTariff 4 (fun _ => rfl) l
theorem cellsTariff_append (l m : List Tariff) : cellsTariff (l ++ m) = cellsTariff l ++ cellsTariff m := by simp [cellsTariff]
theorem cellsTariff_at {w : World} {l : List Tariff} {b o k : Nat} (hc : ∀ j u, (cellsTariff l)[j]? = some u → w.cell? ⟨b, o + j, none⟩ = some u) (h : k < l.length) :
    w.cell? ⟨b, o + k * 4, none⟩ = some (.int .i64 l[k].search) ∧ w.cell? ⟨b, o + k * 4 + 1, none⟩ = some (.int .i64 l[k].page) ∧ w.cell? ⟨b, o + k * 4 + 2, none⟩ = some (.int .i64 l[k].free) ∧ w.cell? ⟨b, o + k * 4 + 3, none⟩ = some (.int .i64 l[k].limit) := by
  have e : ∀ r, r < 4 → (cellsTariff l)[k * 4 + r]? = (cellTariff l[k])[r]? := fun r hr => getElem?_flat cellTariff 4 (fun _ => rfl) l k r h hr
  exact ⟨hc _ _ (e 0 (by omega)), hc _ _ (e 1 (by omega)), hc _ _ (e 2 (by omega)), hc _ _ (e 3 (by omega))⟩

theorem toTariff_any (x : Tariff) (w : World) : Calls Try.prog 6 #[aggTariff x] w fun e w' => e = .returned (aggTariff x) ∧ Below w.heap.size w w' := by
  unfold aggTariff
  go_enter Try.func6, Try.ntmps6
  go_wp2
  go_returns
  exact ⟨rfl, by go_grown⟩

theorem infoTariff : (Try.prog.info? 29).map (fun i => (i.zero, i.size, i.bytes)) = some (some (.agg #[.int .i64 0, .int .i64 0, .int .i64 0, .int .i64 0]), 4, 32) := by kernel_rfl





section
variable {H : Type} {enc : TypeId × Value → H} {W : World} {base : Nat} {v : Value} {d : DataW H} {p : List MemPlace} {r : Reach}
open Go.ChangeShapes Go.WideShapes Go.ChangeAt Go.RowKit Go.Deep

theorem tariffFields : ∃ f0 f1 f2 f3 : Field, Try.prog.underlying 23 = some (.struct #[f0, f1, f2, f3]) ∧ oneCellFields Try.prog #[f0, f1, f2, f3] = true ∧ f0.type = 3 ∧ f1.type = 3 ∧ f2.type = 3 ∧ f3.type = 3 :=
  ⟨_, _, _, _, Try.underlying23, by kernel_rfl, rfl, rfl, rfl, rfl⟩

theorem tariff_of {fuel : Nat} {cs : List Value} {x : DataW H × List MemPlace} (h : DataW.trod enc Try.prog W 0 (fun _ => true) true fuel 23 cs = some x) :
    ∃ y : Tariff, cs = cellTariff y ∧ I64 y.search ∧ I64 y.page ∧ I64 y.free ∧ I64 y.limit := by
  obtain ⟨f0, f1, f2, f3, hs, hone, t0, t1, t2, t3⟩ := tariffFields
  obtain ⟨hl, n, hf⟩ := fields_of hs hone (by kernel_rfl) h
  obtain ⟨u0, y0, c0, k0⟩ := hf 0 f0 rfl
  rw [t0] at k0
  obtain ⟨a0, e0, _, w0⟩ := DataW.trod_int Try.underlying3 k0
  obtain ⟨u1, y1, c1, k1⟩ := hf 1 f1 rfl
  rw [t1] at k1
  obtain ⟨a1, e1, _, w1⟩ := DataW.trod_int Try.underlying3 k1
  obtain ⟨u2, y2, c2, k2⟩ := hf 2 f2 rfl
  rw [t2] at k2
  obtain ⟨a2, e2, _, w2⟩ := DataW.trod_int Try.underlying3 k2
  obtain ⟨u3, y3, c3, k3⟩ := hf 3 f3 rfl
  rw [t3] at k3
  obtain ⟨a3, e3, _, w3⟩ := DataW.trod_int Try.underlying3 k3
  match cs, hl with
  | [z0, z1, z2, z3], _ =>
    simp at c0 c1 c2 c3 e0 e1 e2 e3
    subst c0 c1 c2 c3 e0 e1 e2 e3
    exact ⟨⟨a0, a1, a2, a3⟩, rfl, I64.of_wf w0, I64.of_wf w1, I64.of_wf w2, I64.of_wf w3⟩

theorem in_tariff (hv : Value.okWide Try.prog W r base 23 v) (h : DataW.Trod enc Try.prog W 0 (fun _ => true) true 23 v d p) : ∃ y : Tariff, (I64 y.search ∧ I64 y.page ∧ I64 y.free ∧ I64 y.limit) ∧ v = aggTariff y := by
  obtain ⟨cs, rfl, _⟩ := okWide_struct Try.underlying23 hv
  obtain ⟨fuel, hf⟩ := h
  obtain ⟨y, hcs, hw⟩ := tariff_of hf
  refine ⟨y, hw, ?_⟩
  have hcs' : cs.toList = cellTariff y := by simpa [Value.cells] using hcs
  unfold aggTariff
  congr 1
  exact Array.toList_inj.1 (by rw [hcs']; rfl)

end

end Go.Proofs.Ytpifimghlfpbaaa
