/-
  Chapter 15: the places of a word: what splitting at spaces finds is what looking at every place finds. Plain lists.
  Conditions: those written at each theorem.
-/
namespace Go.Proofs.YtllnnkiehckegaaDoor.W15
/-- a letter -/
def letU (b : UInt8) : Bool := decide (97 ≤ b.toNat) && decide (b.toNat ≤ 122)

/-- the pieces between the spaces -/
def splitL : List UInt8 → List (List UInt8)
  | [] => [[]]
  | c :: r => if c = 32 then [] :: splitL r else match splitL r with
    | [] => [[c]]
    | p :: q => (c :: p) :: q

/-- the places of the pieces that are the word, the first piece beginning at k -/
def placeP (wd : List UInt8) : Nat → List (List UInt8) → List Nat
  | _, [] => []
  | k, p :: r => (if p = wd then [k] else []) ++ placeP wd (k + p.length + 1) r

/-- the places from k on, prev: a letter stands ahead -/
def scanF (wd : List UInt8) : Bool → Nat → List UInt8 → List Nat
  | _, _, [] => []
  | prev, k, c :: r => (if (c :: r).take wd.length = wd ∧ prev = false ∧ (((c :: r)[wd.length]?).map letU).getD false = false then [k] else []) ++ scanF wd (letU c) (k + 1) r

theorem splitL_ne (l : List UInt8) : splitL l ≠ [] := by
  cases l with
  | nil => simp [splitL]
  | cons c r =>
    simp only [splitL]
    split
    · simp
    · split <;> simp

theorem letU_space : letU 32 = false := by decide

/-- with a letter ahead, letters and then a space or the end: nothing is found up to there -/
theorem scan_run (wd : List UInt8) : ∀ (p q : List UInt8) (k : Nat), (∀ x ∈ p, letU x = true) → scanF wd true k (p ++ q) = scanF wd true (k + p.length) q
  | [], q, k, _ => by simp
  | c :: p, q, k, h => by
    have hc := h c (by simp)
    simp only [List.cons_append, scanF]
    rw [if_neg (by simp), hc, scan_run wd p q (k + 1) (fun x hx => h x (by simp [hx]))]
    simp; congr 1; omega

/-- the head piece -/
theorem head_run (wd p q : List UInt8) (k : Nat) (hw : wd ≠ []) (hwl : ∀ x ∈ wd, letU x = true) (hp : ∀ x ∈ p, letU x = true) (hq : q = [] ∨ ∃ r, q = 32 :: r) :
    scanF wd false k (p ++ q) = (if p = wd then [k] else []) ++ (match q with | [] => [] | _ :: r => scanF wd false (k + p.length + 1) r) := by
  have hsp : ∀ r, scanF wd false k (32 :: r) = scanF wd false (k + 1) r ∧ scanF wd true k (32 :: r) = scanF wd false (k + 1) r := by
    intro r
    have h0 : ¬ ((32 : UInt8) :: r).take wd.length = wd := by
      intro h
      cases wd with
      | nil => exact hw rfl
      | cons a t =>
        simp at h
        have := hwl a (by simp)
        rw [← h.1] at this
        exact absurd this (by decide)
    constructor
    · rw [scanF, if_neg (fun h => h0 h.1), letU_space]; simp
    · rw [scanF, if_neg (fun h => h0 h.1), letU_space]; simp
  cases p with
  | nil =>
    rw [if_neg (fun h => hw h.symm)]
    rcases hq with rfl | ⟨r, rfl⟩
    · simp [scanF]
    · simpa using (hsp r).1
  | cons c p =>
    have hc := hp c (by simp)
    have hp' : ∀ x ∈ p, letU x = true := fun x hx => hp x (by simp [hx])
    have hiff : ((c :: (p ++ q)).take wd.length = wd ∧ false = false ∧ (((c :: (p ++ q))[wd.length]?).map letU).getD false = false) ↔ c :: p = wd := by
      constructor
      · rintro ⟨h1, _, h2⟩
        have hl : wd.length ≤ (c :: (p ++ q)).length := by
          have := congrArg List.length h1
          rw [List.length_take] at this
          omega
        rcases Nat.lt_trichotomy wd.length (c :: p).length with hlt | heq | hgt
        · -- a letter would stand behind
          have : (c :: (p ++ q))[wd.length]? = some ((c :: p)[wd.length]) := by
            rw [show c :: (p ++ q) = (c :: p) ++ q from rfl, List.getElem?_append_left hlt, List.getElem?_eq_getElem hlt]
          rw [this] at h2
          simp only [Option.map_some, Option.getD_some] at h2
          rw [hp _ (List.getElem_mem hlt)] at h2
          cases h2
        · rw [show c :: (p ++ q) = (c :: p) ++ q from rfl, heq, List.take_left' rfl] at h1
          exact h1
        · -- the word would hold a space
          rcases hq with rfl | ⟨r, rfl⟩
          · simp at hl hgt; omega
          · have hx : wd[(c :: p).length]'hgt = 32 := by
              have h3 : (List.take wd.length (c :: (p ++ 32 :: r)))[(c :: p).length]? = some 32 := by
                rw [List.getElem?_take, if_pos hgt]
                simp
              rw [h1, List.getElem?_eq_getElem hgt] at h3
              exact Option.some.inj h3
            have := hwl _ (List.getElem_mem hgt)
            rw [hx] at this
            exact absurd this (by decide)
      · rintro rfl
        refine ⟨?_, rfl, ?_⟩
        · rw [show c :: (p ++ q) = (c :: p) ++ q from rfl, List.take_left' rfl]
        · rw [show c :: (p ++ q) = (c :: p) ++ q from rfl]
          rcases hq with rfl | ⟨r, rfl⟩
          · simp
          · simp [letU_space]
    rw [List.cons_append, scanF]
    rw [hc, scan_run wd p q (k + 1) hp']
    congr 1
    · by_cases h : c :: p = wd
      · rw [if_pos h, if_pos (hiff.2 h)]
      · rw [if_neg h, if_neg (fun h' => h (hiff.1 h'))]
    · rcases hq with rfl | ⟨r, rfl⟩
      · simp [scanF]
      · have h0 : ¬ ((32 : UInt8) :: r).take wd.length = wd := by
          intro h
          cases wd with
          | nil => exact hw rfl
          | cons a t =>
            simp at h
            have := hwl a (by simp)
            rw [← h.1] at this
            exact absurd this (by decide)
        rw [scanF, if_neg (fun h => h0 h.1), letU_space]
        simp only [List.nil_append, List.length_cons]
        congr 1; omega

/-- the first piece, cut off -/
theorem split_head (l : List UInt8) : ∃ p q, l = p ++ q ∧ (∀ x ∈ p, x ≠ 32) ∧ ((q = [] ∧ splitL l = [p]) ∨ ∃ r, q = 32 :: r ∧ splitL l = p :: splitL r) := by
  induction l with
  | nil => exact ⟨[], [], rfl, by simp, .inl ⟨rfl, rfl⟩⟩
  | cons c r ih =>
    by_cases hc : c = 32
    · subst hc
      exact ⟨[], 32 :: r, rfl, by simp, .inr ⟨r, rfl, by simp [splitL]⟩⟩
    · obtain ⟨p, q, rfl, hp, ⟨rfl, hs⟩ | ⟨r', rfl, hs⟩⟩ := ih
      · refine ⟨c :: p, [], by simp, ?_, .inl ⟨rfl, ?_⟩⟩
        · intro x hx; rcases List.mem_cons.1 hx with rfl | hx
          · exact hc
          · exact hp x hx
        · rw [splitL, if_neg hc, hs]
      · refine ⟨c :: p, 32 :: r', by simp, ?_, .inr ⟨r', rfl, ?_⟩⟩
        · intro x hx; rcases List.mem_cons.1 hx with rfl | hx
          · exact hc
          · exact hp x hx
        · rw [splitL, if_neg hc, hs]

/-- what the pieces give is what the scan gives -/
theorem places_eq (wd : List UInt8) (hw : wd ≠ []) (hwl : ∀ x ∈ wd, letU x = true) : ∀ (n : Nat) (l : List UInt8) (k : Nat), l.length ≤ n → (∀ x ∈ l, letU x = true ∨ x = 32) → placeP wd k (splitL l) = scanF wd false k l
  | 0, l, k, hn, _ => by
    obtain rfl : l = [] := List.eq_nil_of_length_eq_zero (by omega)
    have : ¬ [] = wd := fun h => hw h.symm
    simp [splitL, placeP, scanF, this]
  | n + 1, l, k, hn, hl => by
    obtain ⟨p, q, rfl, hp, hq⟩ := split_head l
    have hpl : ∀ x ∈ p, letU x = true := fun x hx => (hl x (by simp [hx])).resolve_right (hp x hx)
    rcases hq with ⟨rfl, hs⟩ | ⟨r, rfl, hs⟩
    · rw [hs, head_run wd p [] k hw hwl hpl (.inl rfl)]
      simp [placeP]
    · rw [hs, head_run wd p (32 :: r) k hw hwl hpl (.inr ⟨r, rfl⟩)]
      simp only [placeP]
      rw [places_eq wd hw hwl n r _ (by simp at hn; omega) (fun x hx => hl x (by simp [hx]))]
end Go.Proofs.YtllnnkiehckegaaDoor.W15
