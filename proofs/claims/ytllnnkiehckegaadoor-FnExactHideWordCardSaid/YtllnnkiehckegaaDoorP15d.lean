/-
  Chapter 15: the bytes that spans hide, by the reference and by the program.
  Conditions: those written at each theorem.
-/
import Derived.Test.YtllnnkiehckegaaDoorP15c
namespace Go.Proofs.YtllnnkiehckegaaDoor
open Go.RowKit Go.BigFrame
set_option maxRecDepth 100000

theorem spansB_all {n : Int} : ∀ {l : List Span} {p : Int}, spansB n p l = true → ∀ s ∈ l, (0 ≤ s.lo ∧ s.lo < s.hi ∧ s.hi ≤ n) ∧ (1 ≤ s.reason ∧ s.reason ≤ 9)
  | [], _, _, s, hs => by cases hs
  | x :: r, p, h, s, hs => by
    rw [spansB, Bool.and_eq_true] at h
    rcases List.mem_cons.1 hs with rfl | hs
    · have h1 := h.1
      simp only [spOk, Bool.and_eq_true] at h1
      have a := inB_iff.1 h1.1.1.1
      have b := inB_iff.1 h1.1.1.2
      have d := inB_iff.1 h1.1.2
      omega
    · exact spansB_all h.2 s hs
theorem goodT_true {t : ByteArray} {l : List Span} (h : goodT t l = true) : (∀ k (hk : k < l.length), (0 ≤ l[k].lo ∧ l[k].lo < l[k].hi ∧ l[k].hi ≤ 100) ∧ (1 ≤ l[k].reason ∧ l[k].reason ≤ 9)) ∧ t.size ≤ 100 ∧ l.length ≤ 8 := by
  simp only [goodT, Bool.and_eq_true, decide_eq_true_eq] at h
  have h2 := textB_true h.2.1
  refine ⟨fun k hk => ?_, h2, by omega⟩
  have := spansB_all h.1 _ (List.getElem_mem hk)
  omega

def hidF : List Span → Int
  | [] => 0
  | s :: r => s.hi - s.lo + hidF r
def hbAns (t : ByteArray) (l : List Span) : Value := if goodT t l = true then .tuple #[.int .i64 (hidF l), .bool true] else .tuple #[.int .i64 0, .bool false]
theorem hbAns_form (t : ByteArray) (l : List Span) : ∃ (x : Int) (y : Bool), hbAns t l = .tuple #[.int .i64 x, .bool y] := by
  unfold hbAns; split <;> exact ⟨_, _, rfl⟩



end Go.Proofs.YtllnnkiehckegaaDoor
