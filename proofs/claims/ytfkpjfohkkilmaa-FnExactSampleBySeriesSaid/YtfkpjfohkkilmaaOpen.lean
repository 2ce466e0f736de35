/-
  Arguments that came in, opened to plain data: one lemma a type.
  Conditions: none beyond those written at each theorem.
-/
import Derived.Test.YtfkpjfohkkilmaaRows
import Derived.Test.YtfkpjfohkkilmaaCells
import Derived.ProofKit
import Derived.OpenShut
import Derived.ShutString
import Derived.ChangeOld
import Derived.Below
import Derived.Deep.Slices
import Derived.Deep.Fields
import Derived.Lib.SmallJoins
namespace Go.Proofs.Ytfkpjfohkkilmaa
open Go.ChangeShapes Go.WideShapes Go.ChangeAt Go.RowKit Go.Deep
open Go.ChangeMaps (open_string shut_string)
set_option linter.unusedVariables false
set_option maxRecDepth 100000

/-- a number of 64 bits -/
def I64 (a : Int) : Prop := -9223372036854775808 ≤ a ∧ a ≤ 9223372036854775807

theorem I64.of_wf {a : Int} (h : (Lit.int .i64 a).wf = true) : I64 a := by
  have h2 : -9223372036854775808 ≤ a ∧ a ≤ 9223372036854775807 := by simpa [Lit.wf, IntKind.min, IntKind.max, IntKind.signed, IntKind.bits] using h
  exact h2

section
variable {H : Type} {enc : TypeId × Value → H} {P : Program} {w : World} {base : Nat} {spare : Nat → Bool} {held : Bool} {fuel : Nat} {cs : List Value} {x : DataW H × List MemPlace}

/-- the cells of a struct, each read by its own field's type -/
theorem fields_of {t : TypeId} {fs : Array Field} (hs : P.underlying t = some (.struct fs)) (hone : oneCellFields P fs = true) (hC : P.cellsOf t = fs.size)
    (h : DataW.trod enc P w base spare held fuel t cs = some x) :
    cs.length = fs.size ∧ ∃ n, ∀ (j : Nat) (f : Field), fs[j]? = some f → ∃ u y, cs[j]? = some u ∧ DataW.trod enc P w base spare held n f.type [u] = some y := by
  obtain ⟨xs, n, _, _, hl, hxl, hf⟩ := DataW.trod_struct hs h
  rw [hC] at hl
  refine ⟨hl, n, fun j f hj => ?_⟩
  have hjl : j < fs.size := (Array.getElem?_eq_some_iff.1 hj).1
  obtain ⟨ho, hk⟩ := hone_of hone j f hj
  have hj1 := hf j f hj
  have h1 : (cs.drop j).take 1 = [cs[j]'(by omega)] := by
    rw [List.drop_eq_getElem_cons (by omega)]; rfl
  rw [ho, hk, h1, List.getElem?_eq_getElem (by omega)] at hj1
  exact ⟨_, _, List.getElem?_eq_getElem (by omega), hj1⟩

/-- two numbers in an array -/
theorem pair_of {t e : TypeId} (ht : P.underlying t = some (.array 2 e)) (he : P.underlying e = some (.int .i64)) (hC : P.cellsOf e = 1) (hT : P.cellsOf t = 2)
    (h : DataW.trod enc P w base spare held fuel t cs = some x) : ∃ p : Int × Int, cs = [.int .i64 p.1, .int .i64 p.2] ∧ I64 p.1 ∧ I64 p.2 := by
  obtain ⟨xs, m, _, _, hl, hxl, hf⟩ := DataW.trod_array ht h
  rw [hT] at hl
  match cs, hl with
  | [a, b], _ =>
    have h0 := hf 0 (by omega)
    have h1 := hf 1 (by omega)
    rw [hC] at h0 h1
    rw [List.getElem?_eq_getElem (by omega)] at h0 h1
    obtain ⟨p, e0, _, w0⟩ := DataW.trod_int he h0
    obtain ⟨q, e1, _, w1⟩ := DataW.trod_int he h1
    simp at e0 e1
    subst e0 e1
    exact ⟨(p, q), rfl, I64.of_wf w0, I64.of_wf w1⟩

theorem getElem?_flat {α : Type} (c : α → List Value) (sz : Nat) (hc : ∀ x, (c x).length = sz) (l : List α) (i r : Nat) (hi : i < l.length) (hr : r < sz) :
    (l.flatMap c)[i * sz + r]? = (c l[i])[r]? := by
  induction l generalizing i with
  | nil => simp at hi
  | cons y l ih =>
    rw [List.flatMap_cons]
    cases i with
    | zero => rw [Nat.zero_mul, Nat.zero_add, List.getElem?_append_left (by rw [hc]; exact hr)]; rfl
    | succ i =>
      rw [List.getElem?_append_right (by rw [hc, Nat.succ_mul]; omega), hc, show (i + 1) * sz + r - sz = i * sz + r by rw [Nat.succ_mul]; omega]
      exact ih i (by simpa using hi)

theorem length_flat {α : Type} (c : α → List Value) (sz : Nat) (hc : ∀ x, (c x).length = sz) (l : List α) : (l.flatMap c).length = l.length * sz := by
  induction l with
  | nil => simp
  | cons y l ih => rw [List.flatMap_cons, List.length_append, hc, ih, List.length_cons, Nat.succ_mul]; omega

/-- a slice whose elements read as data: a list of the data, and the cells where they lie -/
theorem slice_of {α : Type} [Inhabited α] {c : α → List Value} {sz : Nat} {Q : α → Prop} {t e : TypeId} {v : Value} (ht : P.underlying t = some (.slice e)) (hsz : P.cellsOf e = sz) (hpos : 0 < sz)
    (hc : ∀ x, (c x).length = sz)
    (hel : ∀ (n : Nat) (cs' : List Value) (y : DataW H × List MemPlace), DataW.trod enc P w 0 (fun _ => true) held n e cs' = some y → ∃ x, cs' = c x ∧ Q x)
    (h : DataW.trod enc P w 0 (fun _ => true) held fuel t [v] = some x) :
    ∃ (A : Option Addr) (k : Nat) (l : List α), v = .slice A l.length k ∧ Rd w sz A l.length (l.flatMap c) ∧ (∀ x ∈ l, Q x) ∧ l.length ≤ 9223372036854775807 := by
  rcases open_slice ht h with ⟨h0, _⟩ | ⟨a, len, cap, m, n, D, Pl, h0, _, hl, hm, hmm, _, hi⟩
  · simp at h0; subst h0
    exact ⟨none, 0, [], rfl, Rd.nil _ _ _, fun x hx => (by cases hx), by simp⟩
  · simp at h0; subst h0
    simp only [if_true] at hmm
    subst hmm
    rw [hsz] at hi
    obtain ⟨f, hf⟩ := choose_lt (α := α) (n := len) (p := fun i x => w.cells? 0 (a.add (i * sz)) sz = some (c x) ∧ Q x) (fun i hil => by
      obtain ⟨cs', h1, h2⟩ := hi i (by omega)
      obtain ⟨x, rfl, hq⟩ := hel _ _ _ h2
      exact ⟨x, h1, hq⟩)
    have hll : ((List.range len).map f).length = len := by simp
    refine ⟨some a, _, (List.range len).map f, by rw [hll], ?_, ?_, by rw [hll]; unfold maxLen at hm; omega⟩
    · rw [hll]
      refine ⟨by rw [length_flat c sz hc, hll], fun hn => ?_⟩
      obtain ⟨b, o, spot⟩ := a
      have key : ∀ i r, i < len → r < sz → w.cell? (((⟨b, o, spot⟩ : Addr).add (i * sz)).add r) = (c (f i))[r]? := fun i r hil hr => by
        obtain ⟨_, _, hat⟩ := World.cells?_some (hf i hil).1
        exact hat r hr
      have k0 := key 0 0 hn hpos
      rw [Nat.zero_mul, List.getElem?_eq_getElem (by rw [hc]; exact hpos)] at k0
      have hs : spot = none := by simpa [Addr.add] using World.cell?_spot k0
      subst hs
      have hb := World.block_lt_of_cell? _ _ k0
      refine ⟨b, o, rfl, by simpa [Addr.add] using hb, fun j u hu => ?_⟩
      have hj : j < len * sz := by
        have := (List.getElem?_eq_some_iff.1 hu).1
        rwa [length_flat c sz hc, hll] at this
      have hjs : j / sz < len := Nat.div_lt_of_lt_mul (by rw [Nat.mul_comm]; exact hj)
      have hjr : j % sz < sz := Nat.mod_lt _ hpos
      have hdm : j / sz * sz + j % sz = j := by rw [Nat.mul_comm]; exact Nat.div_add_mod j sz
      have h2 := key (j / sz) (j % sz) hjs hjr
      have h3 := getElem?_flat c sz hc ((List.range len).map f) (j / sz) (j % sz) (by rw [hll]; exact hjs) hjr
      rw [hdm, hu] at h3
      rw [show ((⟨b, o, none⟩ : Addr).add (j / sz * sz)).add (j % sz) = ⟨b, o + j, none⟩ by rw [Addr.add_lit, Addr.add_lit, Nat.add_assoc, hdm]] at h2
      rw [h2, h3]
      simp
    · intro x hx
      obtain ⟨i, hi', rfl⟩ := List.mem_map.1 hx
      exact (hf i (List.mem_range.1 hi')).2

end

section
variable {H : Type} {enc : TypeId × Value → H} {W : World} {base : Nat} {v : Value} {d : DataW H} {p : List MemPlace} {r : Reach}

theorem in_int (hv : Value.okWide Try.prog W r base 3 v) (h : DataW.Trod enc Try.prog W 0 (fun _ => true) true 3 v d p) : ∃ a, I64 a ∧ v = .int .i64 a := by
  obtain ⟨a, rfl, rfl, rfl, w⟩ := open_int Try.underlying3 hv h
  exact ⟨a, I64.of_wf w, rfl⟩


end
end Go.Proofs.Ytfkpjfohkkilmaa
