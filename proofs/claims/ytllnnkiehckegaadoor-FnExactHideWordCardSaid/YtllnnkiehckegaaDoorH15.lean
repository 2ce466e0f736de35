/-
  Spans put in one by one, and spans sorted. Plain lists.
  Conditions: those written at each theorem.
-/
import Derived.Test.YtllnnkiehckegaaDoorTySpan
namespace Go.Proofs.YtllnnkiehckegaaDoor.H15
/-- a span put ahead of the first that does not begin before it -/
def insS (s : Span) : List Span → List Span
  | [] => [s]
  | x :: r => if x.lo < s.lo then x :: insS s r else s :: x :: r
def insAll : List Span → List Span → List Span
  | [], out => out
  | s :: r, out => insAll r (insS s out)
theorem perm_insS (s : Span) : ∀ l, (insS s l).Perm (s :: l)
  | [] => List.Perm.refl _
  | x :: r => by
    unfold insS
    split
    · exact ((perm_insS s r).cons x).trans (List.Perm.swap s x r)
    · exact List.Perm.refl _
theorem perm_insAll : ∀ (n out : List Span), (insAll n out).Perm (out ++ n)
  | [], out => by simp [insAll]
  | s :: r, out => by
    rw [insAll]
    refine (perm_insAll r (insS s out)).trans ?_
    refine ((perm_insS s out).append_right r).trans ?_
    exact List.perm_middle.symm
def Inc (l : List Span) : Prop := l.Pairwise fun a b => a.lo < b.lo
theorem mem_insS {s y : Span} {l : List Span} (h : y ∈ insS s l) : y = s ∨ y ∈ l := by
  have := (perm_insS s l).mem_iff.1 h
  simpa using this
theorem inc_insS (s : Span) : ∀ l, Inc l → (∀ x ∈ l, x.lo ≠ s.lo) → Inc (insS s l)
  | [], _, _ => by simp [insS, Inc]
  | x :: r, h, hne => by
    have h' := List.pairwise_cons.1 h
    unfold insS
    split
    · rename_i hlt
      refine List.pairwise_cons.2 ⟨fun y hy => ?_, inc_insS s r h'.2 (fun y hy => hne y (by simp [hy]))⟩
      rcases mem_insS hy with rfl | hy
      · exact hlt
      · exact h'.1 y hy
    · rename_i hlt
      have hx := hne x (by simp)
      have hsx : s.lo < x.lo := by omega
      refine List.pairwise_cons.2 ⟨fun y hy => ?_, h⟩
      rcases List.mem_cons.1 hy with rfl | hy
      · exact hsx
      · have := h'.1 y hy; omega
theorem inc_insAll : ∀ (n out : List Span), Inc out → (∀ s ∈ n, ∀ x ∈ out, x.lo ≠ s.lo) → n.Pairwise (fun a b => a.lo ≠ b.lo) → Inc (insAll n out)
  | [], out, h, _, _ => h
  | s :: r, out, h, hne, hd => by
    rw [insAll]
    have hd' := List.pairwise_cons.1 hd
    refine inc_insAll r _ (inc_insS s out h (hne s (by simp))) ?_ hd'.2
    intro t ht x hx
    rcases mem_insS hx with rfl | hx
    · exact hd'.1 t ht
    · exact hne t (by simp [ht]) x hx
theorem inc_uniq {a b : Span} {l : List Span} (h : Inc l) (ha : a ∈ l) (hb : b ∈ l) (e : a.lo = b.lo) : a = b := by
  induction l with
  | nil => cases ha
  | cons x r ih =>
    have h' := List.pairwise_cons.1 h
    rcases List.mem_cons.1 ha with ha | ha <;> rcases List.mem_cons.1 hb with hb | hb
    · rw [ha, hb]
    · have := h'.1 b hb; rw [ha] at e; omega
    · have := h'.1 a ha; rw [hb] at e; omega
    · exact ih h'.2 ha hb
/-- whatever sorts the spans and the new ones gives what putting in one by one gives -/
theorem sorted_eq {out n d : List Span} (h : Inc (insAll n out)) (hp : d.Perm (out ++ n)) (hs : d.Pairwise fun a b => ¬ b.lo < a.lo) : d = insAll n out := by
  have hp2 := hp.trans (perm_insAll n out).symm
  refine List.Perm.eq_of_pairwise (le := fun a b : Span => a.lo ≤ b.lo) ?_ ?_ ?_ hp2
  · intro a b ha hb h1 h2
    exact inc_uniq h (hp2.mem_iff.1 ha) hb (by omega)
  · exact hs.imp (fun h => by omega)
  · exact h.imp (fun h => by omega)
end Go.Proofs.YtllnnkiehckegaaDoor.H15
