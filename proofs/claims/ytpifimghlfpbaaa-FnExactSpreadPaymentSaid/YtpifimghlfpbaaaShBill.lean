/-
  Slices of Bill: one of the call's own; the library's Clone, IndexFunc, ContainsFunc at it. Written by gen_sh.py.
  Conditions: those written at each theorem.
-/
import Derived.Test.YtpifimghlfpbaaaTyBill
import Derived.Test.YtpifimghlfpbaaaSi
namespace Go.Proofs.Ytpifimghlfpbaaa
open Go.RowKit Go.BigFrame
set_option maxRecDepth 100000

/-- a slice of the call's own that reads as these -/
def SlBill (base : Nat) (w' : World) (out : List Bill) (v : Value) : Prop := ∃ A c, v = .slice A out.length c ∧ w'.ownsRow base 40 6 (.slice A out.length c) out.length (cellsBill out)
theorem SlBill.nil (base : Nat) (w : World) : SlBill base w [] (.slice none 0 0) := ⟨none, 0, rfl, World.ownsRow_nil _ _ _ _⟩
theorem one_cellsBill (l : List Bill) : ∀ u ∈ cellsBill l, u.oneCell' = true := by
  intro u hu
  obtain ⟨x, _, hx⟩ := List.mem_flatMap.1 hu
  simp only [cellBill, List.mem_cons, List.mem_nil_iff, or_false] at hx
  rcases hx with rfl | rfl | rfl | rfl | rfl | rfl <;> simp [Value.oneCell']

/-- slices.Clone: a nil slice stays nil -/
theorem cloneBill_any (l : List Bill) (A : Option Addr) (c : Nat) (w : World) (hr : Rd w 6 A l.length (cellsBill l)) (hA : A = none → c = 0) (hl : l.length ≤ 1048576) :
    Calls Try.prog 19 #[.slice A l.length c] w fun e w' => ∃ v, e = .returned v ∧ SlBill w.heap.size w' l v ∧ Below w.heap.size w w' := by
  obtain ⟨i0, hi, hz0, hz1, hz2⟩ := info_parts infoBill
  have HR := Lib.hid hr
  cases A with
  | none =>
    have hc := hA rfl
    subst hc
    have hl0 : l = [] := by
      rcases l with _ | ⟨x, l⟩
      · rfl
      · obtain ⟨b, o, hbad, _⟩ := hr.2 (by simp); cases hbad
    subst hl0
    clear hr
    have hnil := fun W : World => Lib.run_eql_slice_nil_nil (P := Try.prog) W 0 0 Try.underlying26
    go_enter Try.func19, Try.ntmps19
    go_wp2
    go_ret
    exact ⟨_, rfl, SlBill.nil _ _, Below.refl _ _⟩
  | some ad =>
    clear hr hA
    have HO0 := Lib.hid (own_empty (B := w.heap.size) w 40 6 (Nat.le_refl _))
    have HB0 := Lib.hid (Below.alloc (Below.refl w.heap.size w) (Nat.le_refl _) (.cells #[] 40))
    have hnil := fun W : World => Lib.run_eql_slice_some_nil (P := Try.prog) W ad l.length c Try.underlying26
    go_enter Try.func19, Try.ntmps19
    go_wp2_with (at_builtin; refine wpList_appendMany _ rfl _ _ 26 rfl w.heap.size 40 i0 (.agg #[.int .i64 0, .int .i64 0, .int .i64 0, .bool false, .bool false, .int .i64 0]) 6 40 Try.underlying26 hi hz0 hz1 hz2 rfl (by decide) (by decide) (some ⟨w.heap.size, 0, none⟩) 0 0 [] rfl HO0.out (some ad) l.length c (cellsBill l) rfl (HR.out.below HB0.out) (by simp) (one_cellsBill l) (by omega) (by simp) ?_; intro A2 c2 w2 hown2 hg2)
    go_ret
    refine ⟨_, rfl, ⟨A2, c2, by simp, by simpa using hown2⟩, ?_⟩
    exact Below.row HB0.out HO0.out hg2 (Nat.le_refl _) (by simp)


theorem idxBill_cases (P : Bill → Bool) (l : List Bill) : ∀ k : Nat, (∃ (i : Nat) (h : i < l.length), idxF P l k = ((k + i : Nat) : Int) ∧ P l[i] = true) ∨ idxF P l k = -1 ∧ ∀ x ∈ l, P x = false := by
  induction l with
  | nil => intro k; exact .inr ⟨rfl, fun x hx => by cases hx⟩
  | cons x r ih =>
    intro k
    by_cases h : P x = true
    · exact .inl ⟨0, by simp, by simp [idxF, h], h⟩
    · rcases ih (k + 1) with ⟨i, hi, he, hp⟩ | ⟨he, hn⟩
      · exact .inl ⟨i + 1, by simpa using hi, by simp only [idxF, if_neg h, he]; congr 1; omega, by simpa using hp⟩
      · refine .inr ⟨by simp only [idxF, if_neg h, he], fun y hy => ?_⟩
        rcases List.mem_cons.1 hy with rfl | hy
        · simpa using h
        · exact hn y hy

end Go.Proofs.Ytpifimghlfpbaaa
