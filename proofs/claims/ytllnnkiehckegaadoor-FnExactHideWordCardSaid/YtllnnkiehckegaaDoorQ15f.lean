/-
  HideWord: what comes out, and that the program's sorted list is the reference's. Plain lists.
  Conditions: those written at each theorem.
-/
import Derived.Test.YtllnnkiehckegaaDoorQ15e
import Derived.Test.YtllnnkiehckegaaDoorQ15d
namespace Go.Proofs.YtllnnkiehckegaaDoor
open Go.RowKit Go.BigFrame H15
set_option maxRecDepth 100000

/-- the new spans: those of the places that no span touches -/
def hwNew (l : List Span) (n r : Int) : List Int → List Span
  | [] => []
  | p :: ps => if tchB l p (p + n) = true then hwNew l n r ps else ⟨p, p + n, r⟩ :: hwNew l n r ps
theorem hwNew_mem {l : List Span} {n r : Int} : ∀ {ps : List Int} {s : Span}, s ∈ hwNew l n r ps → s.lo ∈ ps ∧ tchB l s.lo (s.lo + n) = false
  | [], s, h => by simp [hwNew] at h
  | p :: ps, s, h => by
    rw [hwNew] at h
    split at h
    · have := hwNew_mem h; exact ⟨by simp [this.1], this.2⟩
    · rename_i hq
      rcases List.mem_cons.1 h with rfl | h
      · exact ⟨by simp, by simpa using hq⟩
      · have := hwNew_mem h; exact ⟨by simp [this.1], this.2⟩
theorem hwNew_len (l : List Span) (n r : Int) : ∀ ps : List Int, (hwNew l n r ps).length ≤ ps.length
  | [] => by simp [hwNew]
  | p :: ps => by
    have := hwNew_len l n r ps
    rw [hwNew]; split <;> simp <;> omega
theorem hwNew_inc (l : List Span) (n r : Int) : ∀ ps : List Int, ps.Pairwise (· < ·) → (hwNew l n r ps).Pairwise (fun a b => a.lo ≠ b.lo)
  | [], _ => by simp [hwNew]
  | p :: ps, h => by
    have h' := List.pairwise_cons.1 h
    rw [hwNew]
    split
    · exact hwNew_inc l n r ps h'.2
    · refine List.pairwise_cons.2 ⟨fun s hs => ?_, hwNew_inc l n r ps h'.2⟩
      have := h'.1 _ (hwNew_mem hs).1
      show p ≠ s.lo; omega
theorem placesF_inc (t wd : ByteArray) : (placesF t wd).Pairwise (· < ·) := by
  unfold placesF
  refine List.Pairwise.map _ ?_ (placeP_inc _ _ _)
  intro a b h; omega
theorem spansB_inc {n : Int} : ∀ {l : List Span} {p : Int}, spansB n p l = true → Inc l ∧ ∀ s ∈ l, p ≤ s.lo
  | [], p, _ => ⟨by simp [Inc], by simp⟩
  | x :: r, p, h => by
    have hall := spansB_all h x (by simp)
    rw [spansB, Bool.and_eq_true] at h
    have h1 := h.1
    simp only [spOk, Bool.and_eq_true, decide_eq_true_eq] at h1
    have ih := spansB_inc h.2
    refine ⟨List.pairwise_cons.2 ⟨fun s hs => ?_, ih.1⟩, fun s hs => ?_⟩
    · have := ih.2 s hs; omega
    · rcases List.mem_cons.1 hs with rfl | hs
      · exact h1.2
      · have := ih.2 s hs; omega
def hwAll (t : ByteArray) (l : List Span) (d : ByteArray) (r : Int) : List Span := insAll (hwNew l d.size r (placesF t d)) l
def hwOk1 (t : ByteArray) (l : List Span) (d : ByteArray) (r : Int) : Bool := goodT t l && (wordB d && inB r 1 9)
def hwOk (t : ByteArray) (l : List Span) (d : ByteArray) (r : Int) : Bool := hwOk1 t l d r && goodT t (hwAll t l d r)
def hwOut (t : ByteArray) (l : List Span) (d : ByteArray) (r : Int) : List Span := if hwOk t l d r = true then hwAll t l d r else []
theorem hwAll_len (t : ByteArray) (l : List Span) (d : ByteArray) (r : Int) : (hwAll t l d r).length = l.length + (hwNew l d.size r (placesF t d)).length := by
  rw [hwAll, (perm_insAll _ _).length_eq, List.length_append]
theorem len_hw (t : ByteArray) (l : List Span) (d : ByteArray) (r : Int) : (hwOut t l d r).length ≤ 1048576 := by
  unfold hwOut; split
  · rename_i h
    rw [hwOk, Bool.and_eq_true] at h
    have := (goodT_true h.2).2.2
    omega
  · simp
theorem hw_inc {t : ByteArray} {l : List Span} {d : ByteArray} {r : Int} (h1 : goodT t l = true) (h2 : wordB d = true) : Inc (hwAll t l d r) := by
  obtain ⟨⟨hw, _⟩, _⟩ := wordB_true h2
  simp only [goodT, Bool.and_eq_true] at h1
  refine inc_insAll _ _ (spansB_inc h1.1).1 ?_ (hwNew_inc _ _ _ _ (placesF_inc t d))
  intro s hs x hx e
  have ht := (hwNew_mem hs).2
  have hx' := spansB_all h1.1 x hx
  have : tchB l s.lo (s.lo + (d.size : Int)) = true := by
    unfold tchB
    rw [List.any_eq_true]
    exact ⟨x, hx, by rw [Bool.and_eq_true]; exact ⟨decide_eq_true (by omega), decide_eq_true (by omega)⟩⟩
  rw [this] at ht; cases ht
theorem hw_sorted {t : ByteArray} {l : List Span} {d : ByteArray} {r : Int} (h1 : goodT t l = true) (h2 : wordB d = true) {x : List Span} (hp : x.Perm (l ++ hwNew l d.size r (placesF t d))) (hs : x.Pairwise fun a b => ¬ b.lo < a.lo) : x = hwAll t l d r :=
  sorted_eq (hw_inc h1 h2) hp hs
theorem own_at {w : World} {base : Nat} {e : TypeId} {sz n c g : Nat} {A : Option Addr} {xs : List Value} (h : w.ownsRow base e sz (.slice A n c) n xs) (hb : (Value.slice A n c).ownBlock = some g) : A = some ⟨g, 0, none⟩ := by
  rcases h.2 with ⟨hv, _⟩ | ⟨g', cap, cur, hv, _⟩
  · cases hv; cases hb
  · cases hv; cases hb; rfl
theorem own_cap {w : World} {base : Nat} {e : TypeId} {sz n c : Nat} {A : Option Addr} {xs : List Value} (h : w.ownsRow base e sz (.slice A n c) n xs) : n ≤ c ∧ c ≤ 9223372036854775807 := by
  rcases h.2 with ⟨hv, h0⟩ | ⟨g', cap, cur, hv, _, _, h1, h2, _⟩
  · cases hv; omega
  · cases hv; exact ⟨h1, by have : (maxLen : Nat) ≤ 9223372036854775807 := by decide
                            omega⟩
end Go.Proofs.YtllnnkiehckegaaDoor
