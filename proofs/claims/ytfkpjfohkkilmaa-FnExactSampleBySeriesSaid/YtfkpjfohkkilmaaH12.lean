/-
  Draws from each series, one series after another. Plain lists.
  Conditions: those written at each theorem.
-/
import Derived.Test.YtfkpjfohkkilmaaP12t
import Derived.Test.YtfkpjfohkkilmaaL12c
namespace Go.Proofs.Ytfkpjfohkkilmaa
open Go.RowKit

/-- the numbers of the records of a series -/
def inS (s : Int) : List RQ → List Int
  | [] => []
  | x :: t => if x.r.series = s then x.r.id :: inS s t else inS s t
theorem len_inS (s : Int) : ∀ L, (inS s L).length ≤ L.length
  | [] => by simp [inS]
  | x :: t => by have := len_inS s t; rw [inS]; split <;> simp <;> omega
theorem inS_append (s : Int) : ∀ K L : List RQ, inS s (K ++ L) = inS s K ++ inS s L
  | [], L => rfl
  | x :: t, L => by rw [List.cons_append, inS, inS, inS_append s t L]; split <;> rfl
theorem inS_take {L : List RQ} {k : Nat} (h : k < L.length) (s : Int) : inS s (L.take (k + 1)) = if L[k].r.series = s then inS s (L.take k) ++ [L[k].r.id] else inS s (L.take k) := by
  rw [List.take_succ_eq_append_getElem h, inS_append, inS, inS]
  split <;> simp
theorem inS_mem {s y : Int} : ∀ {L : List RQ}, y ∈ inS s L → ∃ x ∈ L, x.r.series = s ∧ x.r.id = y
  | [], h => by simp [inS] at h
  | x :: t, h => by
    rw [inS] at h
    split at h
    · rename_i e
      rcases List.mem_cons.1 h with rfl | h
      · exact ⟨x, List.mem_cons_self, e, rfl⟩
      · obtain ⟨z, hz, h1⟩ := inS_mem h
        exact ⟨z, List.mem_cons_of_mem _ hz, h1⟩
    · obtain ⟨z, hz, h1⟩ := inS_mem h
      exact ⟨z, List.mem_cons_of_mem _ hz, h1⟩
theorem inS_same {s : Int} : ∀ {K L : List RQ}, K.map (·.r) = L.map (·.r) → inS s K = inS s L
  | [], [], _ => rfl
  | [], y :: u, h => by simp at h
  | x :: t, [], h => by simp at h
  | x :: t, y :: u, h => by
    simp only [List.map_cons, List.cons.injEq] at h
    rw [inS, inS, h.1, inS_same h.2]
/-- the numbers rise -/
theorem recsB_rise : ∀ {L : List RQ} {last : Int}, recsB last L = true → (∀ x ∈ L, last < x.r.id) ∧ L.Pairwise (fun x y => x.r.id < y.r.id)
  | [], _, _ => ⟨fun x hx => (by cases hx), List.Pairwise.nil⟩
  | x :: t, last, h => by
    rw [recsB, Bool.and_eq_true, Bool.and_eq_true, decide_eq_true_eq] at h
    obtain ⟨h1, h2⟩ := recsB_rise h.2.2
    refine ⟨fun y hy => ?_, List.pairwise_cons.2 ⟨h1, h2⟩⟩
    rcases List.mem_cons.1 hy with rfl | hy
    · exact h.2.1
    · have := h1 y hy; omega
theorem rise_id {L : List RQ} (h : L.Pairwise (fun x y => x.r.id < y.r.id)) {x y : RQ} (hx : x ∈ L) (hy : y ∈ L) (e : x.r.id = y.r.id) : x = y := by
  induction L with
  | nil => cases hx
  | cons z t ih =>
    obtain ⟨h1, h2⟩ := List.pairwise_cons.1 h
    rcases List.mem_cons.1 hx with e1 | hx2 <;> rcases List.mem_cons.1 hy with e2 | hy2
    · rw [e1, e2]
    · have := h1 _ hy2; rw [e1] at e; omega
    · have := h1 _ hx2; rw [e2] at e; omega
    · exact ih h2 hx2 hy2
theorem inS_apart {L : List RQ} (h : L.Pairwise (fun x y => x.r.id < y.r.id)) {s s' y : Int} (hs : s ≠ s') (h1 : y ∈ inS s L) (h2 : y ∈ inS s' L) : False := by
  obtain ⟨a, ha, e1, e2⟩ := inS_mem h1
  obtain ⟨b, hb, e3, e4⟩ := inS_mem h2
  have := rise_id h ha hb (e2.trans e4.symm)
  subst this
  exact hs (e1.symm.trans e3)
theorem inS_nodup {L : List RQ} (h : L.Pairwise (fun x y => x.r.id < y.r.id)) (s : Int) : (inS s L).Nodup := by
  induction L with
  | nil => simp [inS]
  | cons x t ih =>
    obtain ⟨h1, h2⟩ := List.pairwise_cons.1 h
    rw [inS]
    split
    · refine List.nodup_cons.2 ⟨fun hm => ?_, ih h2⟩
      obtain ⟨z, hz, _, e⟩ := inS_mem hm
      have := h1 z hz
      omega
    · exact ih h2

/-- how many are drawn from a list -/
def drawN (l : List Int) (p : Int) : Nat := (sizeI l.length p 1).toNat
theorem drawN_eq {l : List Int} {p : Int} (hp : 0 ≤ p) : sizeI l.length p 1 = (drawN l p : Int) ∧ drawN l p ≤ l.length := by
  have h : 0 ≤ sizeI l.length p 1 ∧ sizeI l.length p 1 ≤ (l.length : Int) := by
    unfold sizeI
    generalize (((l.length : Nat) : Int) * p + 99) / 100 = q
    split <;> split at * <;> omega
  unfold drawN
  omega
theorem takeF_bd : ∀ (n : Nat) (l : List Int) (s : Int), 0 ≤ s ∧ s ≤ 99999 → 0 ≤ (takeF l n s).2 ∧ (takeF l n s).2 ≤ 99999
  | 0, l, s, h => by simpa [takeF] using h
  | n + 1, l, s, h => by
    unfold takeF
    split
    · exact takeF_bd n _ _ (nextF_bd s)
    · exact h
theorem takeF_mem {l : List Int} {n : Nat} {s y : Int} (h : y ∈ (takeF l n s).1) : y ∈ l := by
  obtain ⟨rest, hp⟩ := takeF_sub n l s
  exact hp.mem_iff.1 (List.mem_append_left _ h)
/-- the draws of f series, from series s on -/
def serF (p : Int) (M : Int → List Int) : Nat → Int → Int → List Int
  | 0, _, _ => []
  | f + 1, s, sd => (takeF (M s) (drawN (M s) p) sd).1 ++ serF p M f (s + 1) (takeF (M s) (drawN (M s) p) sd).2
theorem serF_step (p : Int) (M : Int → List Int) (k : Nat) (sd : Int) (h : k ≤ 99) :
    serF p M (100 - k) k sd = (takeF (M k) (drawN (M k) p) sd).1 ++ serF p M (100 - (k + 1)) ((k + 1 : Nat) : Int) (takeF (M k) (drawN (M k) p) sd).2 := by
  rw [show 100 - k = (100 - (k + 1)) + 1 by omega, serF]
  congr 1
theorem serF_mem (p : Int) (M : Int → List Int) : ∀ (f : Nat) (s sd y : Int), y ∈ serF p M f s sd → ∃ s', s ≤ s' ∧ y ∈ M s'
  | 0, s, sd, y, h => by simp [serF] at h
  | f + 1, s, sd, y, h => by
    rw [serF] at h
    rcases List.mem_append.1 h with h | h
    · exact ⟨s, Int.le_refl _, takeF_mem h⟩
    · obtain ⟨s', h1, h2⟩ := serF_mem p M f _ _ _ h
      exact ⟨s', by omega, h2⟩
theorem serF_nodup (p : Int) (M : Int → List Int) (h1 : ∀ s, (M s).Nodup) (h2 : ∀ s s' y, s ≠ s' → y ∈ M s → y ∈ M s' → False) : ∀ (f : Nat) (s sd : Int), (serF p M f s sd).Nodup
  | 0, s, sd => by simp [serF]
  | f + 1, s, sd => by
    rw [serF]
    refine List.nodup_append.2 ⟨takeF_nodup (h1 s) _ _, serF_nodup p M h1 h2 f _ _, fun a ha b hb e => ?_⟩
    subst e
    obtain ⟨s', h3, h4⟩ := serF_mem p M f _ _ _ hb
    exact h2 s s' a (by omega) (takeF_mem ha) h4
theorem len_serF (p : Int) (hp : 0 ≤ p) (M : Int → List Int) (h : ∀ s, (M s).length ≤ 20) : ∀ (f : Nat) (s sd : Int), (serF p M f s sd).length ≤ 20 * f
  | 0, s, sd => by simp [serF]
  | f + 1, s, sd => by
    rw [serF, List.length_append]
    have h1 := len_serF p hp M h f (s + 1) (takeF (M s) (drawN (M s) p) sd).2
    have h2 := len_takeF (drawN (M s) p) (M s) sd
    have h3 := (drawN_eq (l := M s) hp).2
    have h4 := h s
    omega

def sbOk (L : List RQ) (p sd : Int) : Bool := goodR L && inB p 0 100 && inB sd 0 99999
def sbAll (L : List RQ) (p sd : Int) : List Int := serF p (fun s => inS s L) 99 1 sd
def sbOut (L : List RQ) (p sd : Int) : List Int := if sbOk L p sd = true then sortF (sbAll L p sd) else []
theorem goodR_true {L : List RQ} (h : goodR L = true) : recsB 0 L = true ∧ L.length ≤ 10 := by
  rw [goodR, Bool.and_eq_true, decide_eq_true_eq] at h
  exact ⟨h.1, by omega⟩
theorem sbAll_nodup {L : List RQ} (h : goodR L = true) (p sd : Int) : (sbAll L p sd).Nodup := by
  have hr := (recsB_rise (goodR_true h).1).2
  exact serF_nodup p _ (fun s => inS_nodup hr s) (fun s s' y hs h1 h2 => inS_apart hr hs h1 h2) _ _ _
theorem len_inS20 {L : List RQ} (h : goodR L = true) (s : Int) : (inS s L).length ≤ 20 := by
  have := len_inS s L
  have := (goodR_true h).2
  omega
theorem len_sbAll {L : List RQ} (h : goodR L = true) {p : Int} (hp : 0 ≤ p) (sd : Int) : (sbAll L p sd).length ≤ 1980 :=
  len_serF p hp _ (fun s => len_inS20 h s) 99 1 sd
theorem sbOk_true {L : List RQ} {p sd : Int} (h : sbOk L p sd = true) : goodR L = true ∧ inB p 0 100 = true ∧ inB sd 0 99999 = true := by simpa [sbOk, and_assoc] using h
theorem len_sbOut (L : List RQ) (p sd : Int) : (sbOut L p sd).length ≤ 1980 := by
  unfold sbOut
  split
  · rename_i h
    obtain ⟨h1, h2, _⟩ := sbOk_true h
    rw [len_sortF]
    exact len_sbAll h1 (inB_true h2).1 sd
  · simp
theorem recsB_same : ∀ {K L : List RQ} {last : Int}, K.map (·.r) = L.map (·.r) → recsB last K = recsB last L
  | [], [], _, _ => rfl
  | [], y :: u, _, h => by simp at h
  | x :: t, [], _, h => by simp at h
  | x :: t, y :: u, last, h => by
    simp only [List.map_cons, List.cons.injEq] at h
    rw [recsB, recsB, h.1, recsB_same h.2]
theorem len_same {K L : List RQ} (h : K.map (·.r) = L.map (·.r)) : K.length = L.length ∧ sumQ K = sumQ L := by
  refine ⟨by simpa using congrArg List.length h, ?_⟩
  induction K generalizing L with
  | nil => cases L with
    | nil => rfl
    | cons y t => simp at h
  | cons x t ih => cases L with
    | nil => simp at h
    | cons y u =>
      simp only [List.map_cons, List.cons.injEq] at h
      rw [sumQ, sumQ, h.1, ih h.2]
theorem sbOk_same {K L : List RQ} (p sd : Int) (h : K.map (·.r) = L.map (·.r)) : sbOk K p sd = sbOk L p sd := by rw [sbOk, sbOk, goodR, goodR, recsB_same h, (len_same h).1]
theorem sbOut_same {K L : List RQ} (p sd : Int) (h : K.map (·.r) = L.map (·.r)) : sbOut K p sd = sbOut L p sd := by
  have e : (fun s => inS s K) = (fun s => inS s L) := funext fun s => inS_same h
  rw [sbOut, sbOut, sbOk_same p sd h, sbAll, sbAll, e]
end Go.Proofs.Ytfkpjfohkkilmaa
