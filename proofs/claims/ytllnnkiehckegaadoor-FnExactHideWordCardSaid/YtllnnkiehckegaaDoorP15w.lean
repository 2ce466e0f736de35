/-
  Words, and the places of a word in a text, by the reference and by the program.
  Conditions: those written at each theorem.
-/
import Derived.Test.YtllnnkiehckegaaDoorP15v
import Derived.Test.YtllnnkiehckegaaDoorP15a
namespace Go.Proofs.YtllnnkiehckegaaDoor
open Go.RowKit Go.BigFrame W15
set_option maxRecDepth 100000

/-- a letter -/
def ltC (c : UInt8) : Bool := decide (97 ≤ (c.toNat : Int) ∧ (c.toNat : Int) ≤ 122)
def cutW : ByteArray := ⟨#[97, 98, 99, 100, 101, 102, 103, 104, 105, 106, 107, 108, 109, 110, 111, 112, 113, 114, 115, 116, 117, 118, 119, 120, 121, 122]⟩
theorem cutW_has (c : UInt8) : cutW.data.toList.contains c = ltC c := by
  have h : ∀ n : Fin 256, cutW.data.toList.contains (UInt8.ofNat n.val) = ltC (UInt8.ofNat n.val) := by decide +kernel
  have h2 := h ⟨c.toNat, c.toNat_lt⟩
  simpa using h2
theorem ltC_let (c : UInt8) : ltC c = letU c := by
  unfold ltC letU
  by_cases h1 : 97 ≤ c.toNat <;> by_cases h2 : c.toNat ≤ 122 <;> simp [h1, h2] <;> omega
/-- a text is a word -/
def wordB (s : ByteArray) : Bool := inB s.size 1 10 && (bytesOf s).all ltC
theorem wordB_true {s : ByteArray} (h : wordB s = true) : (1 ≤ s.size ∧ s.size ≤ 10) ∧ ∀ x ∈ bytesOf s, letU x = true := by
  simp only [wordB, Bool.and_eq_true, List.all_eq_true] at h
  have := inB_true h.1
  exact ⟨by omega, fun x hx => by rw [← ltC_let]; exact h.2 x hx⟩
theorem textB_bytes {s : ByteArray} (h : textB s = true) : ∀ x ∈ bytesOf s, letU x = true ∨ x = 32 := by
  simp only [textB, Bool.and_eq_true, List.all_eq_true] at h
  intro x hx
  have := h.1 x hx
  simp only [textC, decide_eq_true_eq] at this
  rcases this with h1 | h1
  · left; rw [← ltC_let]; exact decide_eq_true h1
  · right; exact UInt8.toNat_inj.1 (by show x.toNat = 32; omega)

theorem isWord_any (s : ByteArray) (hs : s.size ≤ 9223372036854775807) (w : World) :
    Calls Tryd.prog 36 #[.string s] w fun e w' => e = .returned (.bool (wordB s)) ∧ Below w.heap.size w w' := by
  have HE : Hid (wordB s = (inB s.size 1 10 && (bytesOf s).all ltC)) := rfl
  have HT := fun W => Lib.hid (trim_any s cutW hs (by decide) (ascii_of_all (by decide)) W)
  by_cases h1 : inB s.size 1 10 = true
  · have hiff : Lib.trimS s.data.toList cutW.data.toList = [] ↔ (bytesOf s).all ltC = true := by
      rw [trim_nil, List.all_eq_true]; simp only [cutW_has]; exact Iff.rfl
    by_cases h2 : (bytesOf s).all ltC = true
    · have e1 : Hid (wordB s = true) := by show _ = _; rw [HE.out, h1, h2]; rfl
      rw [hiff.2 h2] at HT
      unfold cutW at HT
      clear hiff h2
      go_enter Tryd.func36, Tryd.ntmps36
      go_wp2_with (first
        | (go_at_call 46; refine (within_any _ _ _ _).mono ?_; rintro e w' ⟨rfl, rfl⟩; rw [h1])
        | (go_at_call 49; refine (HT _).out.mono ?_; rintro e w2 ⟨rfl, hb2⟩))
      go_ret
      exact ⟨by rw [e1.out]; rfl, hb2⟩
    · have e1 : Hid (wordB s = false) := by show _ = _; rw [HE.out, h1]; simpa using h2
      have hne : ¬ Lib.trimS s.data.toList cutW.data.toList = [] := fun h => h2 (hiff.1 h)
      generalize Lib.trimS s.data.toList cutW.data.toList = t at HT hne
      obtain ⟨x, r, rfl⟩ : ∃ x r, t = x :: r := by
        cases t with
        | nil => exact absurd rfl hne
        | cons x r => exact ⟨x, r, rfl⟩
      unfold cutW at HT
      clear hiff h2 hne
      go_enter Tryd.func36, Tryd.ntmps36
      go_wp2_with (first
        | (go_at_call 46; refine (within_any _ _ _ _).mono ?_; rintro e w' ⟨rfl, rfl⟩; rw [h1])
        | (go_at_call 49; refine (HT _).out.mono ?_; rintro e w2 ⟨rfl, hb2⟩))
      go_ret
      exact ⟨by rw [e1.out]; rfl, hb2⟩
  · have e1 : Hid (wordB s = false) := by show _ = _; rw [HE.out, show inB s.size 1 10 = false by simpa using h1]; rfl
    go_enter Tryd.func36, Tryd.ntmps36
    go_wp2_with (go_at_call 46; refine (within_any _ _ _ _).mono ?_; rintro e w' ⟨rfl, rfl⟩; rw [show inB s.size 1 10 = false by simpa using h1])
    go_ret
    exact ⟨by rw [e1.out]; rfl, Below.refl _ _⟩


set_option maxHeartbeats 800000 in
theorem l2Word_any (s : ByteArray) (hs : s.size ≤ 9223372036854775807) (w : World) :
    Calls Tryd.prog 33 #[.string s] w fun e w' => e = .returned (.bool (wordB s)) ∧ w = w' := by
  have HE : Hid (wordB s = (inB s.size 1 10 && (bytesOf s).all ltC)) := rfl
  go_enter Tryd.func33, Tryd.ntmps33
  go_wp2
  go_loop [3] (fun v => ∃ k : Nat, k ≤ s.size ∧ v = .int .i64 k ∧ Hid ((bytesOf s).all ltC = ((bytesOf s).drop k).all ltC)) (fun v => s.size - (intOf v).toNat)
  case atStart => exact ⟨0, Nat.zero_le _, rfl, by show _ = _; rfl⟩
  case round =>
    obtain ⟨k, hk, rfl, K⟩ := hrel
    by_cases hlt : k < s.size
    · have K1 := K.out
      rw [byte_drop s k hlt, List.all_cons] at K1
      have HK := Lib.hid K1
      clear K K1
      by_cases g1 : 97 ≤ (s[k].toNat : Int)
      · by_cases g2 : (s[k].toNat : Int) ≤ 122
        · have K2 : Hid ((bytesOf s).all ltC = ((bytesOf s).drop (k + 1)).all ltC) := by
            show _ = _; rw [HK.out, show ltC s[k] = true from decide_eq_true ⟨g1, g2⟩]; rfl
          have g3 : ¬ (s[k].toNat : Int) < 97 := by omega
          have g4 : ¬ 122 < (s[k].toNat : Int) := by omega
          clear HK
          go_wp2
          go_round
          case rel => exact ⟨k + 1, by omega, by go_num, K2⟩
          case measure => simp [intOf]; omega
        · have K2 : Hid (wordB s = false) := by
            show _ = _; rw [HE.out, HK.out, show ltC s[k] = false from decide_eq_false (by omega)]; simp
          have g3 : ¬ (s[k].toNat : Int) < 97 := by omega
          have g4 : 122 < (s[k].toNat : Int) := by omega
          clear HK
          go_wp2
          go_ret
          exact ⟨by rw [K2.out]; rfl, rfl⟩
      · have K2 : Hid (wordB s = false) := by
          show _ = _; rw [HE.out, HK.out, show ltC s[k] = false from decide_eq_false (by omega)]; simp
        have g3 : (s[k].toNat : Int) < 97 := by omega
        clear HK
        go_wp2
        go_ret
        exact ⟨by rw [K2.out]; rfl, rfl⟩
    · have K2 : Hid (wordB s = inB s.size 1 10) := by
        show _ = _; rw [HE.out, K.out, List.drop_of_length_le (by rw [len_bytesOf]; omega)]; simp
      clear K
      go_wp2_with (go_at_call 24; refine (l1In_any _ _ _ _).mono ?_; rintro e w' ⟨rfl, rfl⟩)
      go_ret
      exact ⟨by rw [K2.out]; rfl, rfl⟩

end Go.Proofs.YtllnnkiehckegaaDoor
