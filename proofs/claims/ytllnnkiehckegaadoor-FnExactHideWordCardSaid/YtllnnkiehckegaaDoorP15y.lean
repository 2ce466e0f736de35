/-
  PlacesOfWord by the program and by the reference.
  Conditions: those written at each theorem.
-/
import Derived.Test.YtllnnkiehckegaaDoorP15x
namespace Go.Proofs.YtllnnkiehckegaaDoor
open Go.RowKit Go.BigFrame W15
set_option maxRecDepth 100000

theorem scan_places {t wd : ByteArray} (h1 : textB t = true) (h2 : wordB wd = true) : scanI t wd = placesF t wd := by
  obtain ⟨⟨hw, _⟩, hl⟩ := wordB_true h2
  unfold scanI placesF
  rw [places_eq (bytesOf wd) (fun e => by have := len_bytesOf wd; rw [e] at this; simp at this; omega) hl _ (bytesOf t) 0 (Nat.le_refl _) (textB_bytes h1)]
theorem placesF_len (t wd : ByteArray) (ht : t.size ≤ 100) : (placesF t wd).length ≤ 101 := by
  have h := foldP_len wd (pieces t)
  rw [foldP_pieces t wd (by omega)] at h
  have h2 : ∀ l : List (List UInt8), l.length ≤ totL l := by
    intro l
    induction l with
    | nil => simp
    | cons p r ih => rw [totL]; simp; omega
  have h3 := h2 (splitL (bytesOf t))
  rw [tot_split, len_bytesOf] at h3
  simp only [pieces, List.length_map] at h
  omega
def pwOk (t wd : ByteArray) : Bool := textB t && wordB wd
def pwOut (t wd : ByteArray) : List Int := if pwOk t wd = true then placesF t wd else []
theorem len_pw (t wd : ByteArray) : (pwOut t wd).length ≤ 1048576 := by
  unfold pwOut; split
  · rename_i h
    rw [pwOk, Bool.and_eq_true] at h
    exact Nat.le_trans (placesF_len t wd (textB_true h.1)) (by decide)
  · simp

theorem implPlacesOfWord_any (t wd : ByteArray) (ht : t.size ≤ 1048576) (hwd : wd.size ≤ 1048576) (w : World) :
    Calls Tryd.prog 15 #[.string t, .string wd] w fun e w' => ∃ v, e = .returned (.tuple #[v, .bool (pwOk t wd)]) ∧ SlI w.heap.size w' (pwOut t wd) v ∧ Below w.heap.size w w' := by
  have H1 := fun W => Lib.hid (implIsText_any t (by omega) W)
  have H2 := fun W => Lib.hid (isWord_any wd (by omega) W)
  have H3 := fun W => Lib.hid (placesOf_any t wd ht W)
  by_cases h1 : textB t = true
  · rw [h1] at H1
    by_cases h2 : wordB wd = true
    · rw [h2] at H2
      have e1 : Hid (pwOk t wd = true) := by show _ = _; rw [pwOk, h1, h2]; rfl
      have e2 : Hid (pwOut t wd = placesF t wd) := if_pos e1.out
      clear h1 h2
      go_enter Tryd.func15, Tryd.ntmps15
      go_wp2_with fail
      refine (H1 _).out.mono ?_
      rintro e w1 ⟨rfl, hb1⟩
      have B1 := Lib.hid hb1
      clear hb1
      go_wp2_with fail
      refine (H2 _).out.mono ?_
      rintro e w2 ⟨rfl, hb2⟩
      have B2 := Lib.hid (Below.transB B1.out (Nat.le_refl _) hb2)
      have hs2 := B2.out.size
      clear hb2
      go_wp2_with fail
      refine (H3 _).out.mono ?_
      rintro e w3 ⟨v, rfl, ⟨A, c, rfl, ho⟩, hb3⟩
      have B3 := Lib.hid (Below.transB B2.out (Nat.le_refl _) hb3)
      have O3 := Lib.hid (own_base ho hs2)
      clear hb3 ho
      go_wp2
      go_ret2
      exact ⟨_, by rw [e1.out]; rfl, by rw [e2.out]; exact ⟨A, c, rfl, O3.out⟩, B3.out⟩
    · have h2' : wordB wd = false := by simpa using h2
      rw [h2'] at H2
      have e1 : Hid (pwOk t wd = false) := by show _ = _; rw [pwOk, h2']; simp
      have e2 : Hid (pwOut t wd = []) := if_neg (by rw [e1.out]; simp)
      clear h1 h2 h2'
      go_enter Tryd.func15, Tryd.ntmps15
      go_wp2_with fail
      refine (H1 _).out.mono ?_
      rintro e w1 ⟨rfl, hb1⟩
      have B1 := Lib.hid hb1
      clear hb1
      go_wp2_with fail
      refine (H2 _).out.mono ?_
      rintro e w2 ⟨rfl, hb2⟩
      have B2 := Lib.hid (Below.transB B1.out (Nat.le_refl _) hb2)
      clear hb2
      go_wp2
      go_ret2
      exact ⟨_, by rw [e1.out]; rfl, by rw [e2.out]; exact SlI.nil _ _, B2.out⟩
  · have h1' : textB t = false := by simpa using h1
    rw [h1'] at H1
    have e1 : Hid (pwOk t wd = false) := by show _ = _; rw [pwOk, h1']; rfl
    have e2 : Hid (pwOut t wd = []) := if_neg (by rw [e1.out]; simp)
    clear h1 h1'
    go_enter Tryd.func15, Tryd.ntmps15
    go_wp2_with fail
    refine (H1 _).out.mono ?_
    rintro e w1 ⟨rfl, hb1⟩
    have B1 := Lib.hid hb1
    clear hb1
    go_wp2
    go_ret2
    exact ⟨_, by rw [e1.out]; rfl, by rw [e2.out]; exact SlI.nil _ _, B1.out⟩

theorem specPlacesOfWord_any (t wd : ByteArray) (ht : t.size ≤ 1048576) (hwd : wd.size ≤ 1048576) (w : World) :
    Calls Tryd.prog 14 #[.string t, .string wd] w fun e w' => ∃ v, e = .returned (.tuple #[v, .bool (pwOk t wd)]) ∧ SlI w.heap.size w' (pwOut t wd) v ∧ Below w.heap.size w w' := by
  have H1 := fun W => Lib.hid (l15Text_any t (by omega) W)
  have H2 := fun W => Lib.hid (l2Word_any wd (by omega) W)
  have E0 := fun W : World => Lib.hid (own_empty (B := W.heap.size) W 3 1 (Nat.le_refl _))
  have B0 := fun W : World => Lib.hid (Below.alloc (Below.refl W.heap.size W) (Nat.le_refl _) (.cells #[] 3))
  by_cases h1 : textB t = true
  · rw [h1] at H1
    by_cases h2 : wordB wd = true
    · rw [h2] at H2
      have e1 : Hid (pwOk t wd = true) := by show _ = _; rw [pwOk, h1, h2]; rfl
      have e2 : Hid (pwOut t wd = scanI t wd) := (if_pos e1.out).trans (scan_places h1 h2).symm
      obtain ⟨⟨hw1, hw2⟩, _⟩ := wordB_true h2
      have H3 := fun W => Lib.hid (l15Places_any t wd ht hw1 hw2 W)
      clear h1 h2
      go_enter Tryd.func14, Tryd.ntmps14
      go_wp2_with (first
        | (go_at_call 32; refine (H1 _).out.mono ?_; rintro e w' ⟨rfl, rfl⟩)
        | (go_at_call 33; refine (H2 _).out.mono ?_; rintro e w' ⟨rfl, rfl⟩))
      refine (H3 _).out.mono ?_
      rintro e w3 ⟨v, rfl, ⟨A, c, rfl, ho⟩, hb3⟩
      have B3 := Lib.hid hb3
      have O3 := Lib.hid ho
      clear hb3 ho
      go_wp2
      go_ret2
      exact ⟨_, by rw [e1.out]; rfl, by rw [e2.out]; exact ⟨A, c, rfl, O3.out⟩, B3.out⟩
    · have h2' : wordB wd = false := by simpa using h2
      rw [h2'] at H2
      have e1 : Hid (pwOk t wd = false) := by show _ = _; rw [pwOk, h2']; simp
      have e2 : Hid (pwOut t wd = []) := if_neg (by rw [e1.out]; simp)
      clear h1 h2 h2'
      go_enter Tryd.func14, Tryd.ntmps14
      go_wp2_with (first
        | (go_at_call 32; refine (H1 _).out.mono ?_; rintro e w' ⟨rfl, rfl⟩)
        | (go_at_call 33; refine (H2 _).out.mono ?_; rintro e w' ⟨rfl, rfl⟩))
      go_ret2
      exact ⟨_, by rw [e1.out]; rfl, by rw [e2.out]; exact ⟨_, _, rfl, (E0 _).out⟩, (B0 _).out⟩
  · have h1' : textB t = false := by simpa using h1
    rw [h1'] at H1
    have e1 : Hid (pwOk t wd = false) := by show _ = _; rw [pwOk, h1']; rfl
    have e2 : Hid (pwOut t wd = []) := if_neg (by rw [e1.out]; simp)
    clear h1 h1'
    go_enter Tryd.func14, Tryd.ntmps14
    go_wp2_with (go_at_call 32; refine (H1 _).out.mono ?_; rintro e w' ⟨rfl, rfl⟩)
    go_ret2
    exact ⟨_, by rw [e1.out]; rfl, by rw [e2.out]; exact ⟨_, _, rfl, (E0 _).out⟩, (B0 _).out⟩

end Go.Proofs.YtllnnkiehckegaaDoor
