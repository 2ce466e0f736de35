/-
  Chapter 15: texts, by the reference and by the program.
  Conditions: those written at each theorem.
-/
import Derived.Test.YtllnnkiehckegaaDoorLayTrim
import Derived.WalkLawsBesides
namespace Go.Proofs.YtllnnkiehckegaaDoor
open Go.RowKit Go.BigFrame
set_option maxRecDepth 100000

/-- the bytes that a text may have -/
def textC (c : UInt8) : Bool := decide ((97 ≤ (c.toNat : Int) ∧ (c.toNat : Int) ≤ 122) ∨ (c.toNat : Int) = 32)
def cut15 : ByteArray := ⟨#[32, 97, 98, 99, 100, 101, 102, 103, 104, 105, 106, 107, 108, 109, 110, 111, 112, 113, 114, 115, 116, 117, 118, 119, 120, 121, 122]⟩
theorem cut15_has (c : UInt8) : cut15.data.toList.contains c = textC c := by
  have h : ∀ n : Fin 256, cut15.data.toList.contains (UInt8.ofNat n.val) = textC (UInt8.ofNat n.val) := by decide +kernel
  have h2 := h ⟨c.toNat, c.toNat_lt⟩
  simpa using h2
theorem u8_bd (c : UInt8) : 0 ≤ (c.toNat : Int) ∧ (c.toNat : Int) ≤ 255 := ⟨by omega, by have := c.toNat_lt; omega⟩
/-- a text is one -/
def textB (s : ByteArray) : Bool := (bytesOf s).all textC && decide ((s.size : Int) ≤ 100)
theorem textB_true {s : ByteArray} (h : textB s = true) : s.size ≤ 100 := by
  simp only [textB, Bool.and_eq_true, decide_eq_true_eq] at h
  omega

theorem l15Letter_any (c : UInt8) (w : World) : Calls Tryd.prog 48 #[.int .u8 (c.toNat : Int)] w fun e w' => e = .returned (.bool (decide (97 ≤ (c.toNat : Int) ∧ (c.toNat : Int) ≤ 122))) ∧ w = w' := by
  by_cases h1 : 97 ≤ (c.toNat : Int) <;> by_cases h2 : (c.toNat : Int) ≤ 122
  all_goals
    go_enter Tryd.func48, Tryd.ntmps48
    go_wp2
    go_ret
    exact ⟨by simp [h1, h2], rfl⟩

set_option maxHeartbeats 800000 in
theorem l15Text_any (s : ByteArray) (hs : s.size ≤ 9223372036854775807) (w : World) :
    Calls Tryd.prog 32 #[.string s] w fun e w' => e = .returned (.bool (textB s)) ∧ w = w' := by
  have HE : Hid (textB s = ((bytesOf s).all textC && decide ((s.size : Int) ≤ 100))) := rfl
  go_enter Tryd.func32, Tryd.ntmps32
  go_wp2
  go_loop [3] (fun v => ∃ k : Nat, k ≤ s.size ∧ v = .int .i64 k ∧ Hid ((bytesOf s).all textC = ((bytesOf s).drop k).all textC)) (fun v => s.size - (intOf v).toNat)
  case atStart => exact ⟨0, Nat.zero_le _, rfl, by show _ = _; rfl⟩
  case round =>
    obtain ⟨k, hk, rfl, K⟩ := hrel
    by_cases hlt : k < s.size
    · have hc := u8_bd s[k]
      have K1 := K.out
      rw [byte_drop s k hlt, List.all_cons] at K1
      have HK := Lib.hid K1
      clear K K1
      have hL := l15Letter_any s[k]
      by_cases g1 : 97 ≤ (s[k].toNat : Int) ∧ (s[k].toNat : Int) ≤ 122
      · have K2 : Hid ((bytesOf s).all textC = ((bytesOf s).drop (k + 1)).all textC) := by
          show _ = _; rw [HK.out, show textC s[k] = true from decide_eq_true (.inl g1)]; rfl
        rw [show decide (97 ≤ (s[k].toNat : Int) ∧ (s[k].toNat : Int) ≤ 122) = true from decide_eq_true g1] at hL
        have HL := fun W => Lib.hid (hL W)
        clear HK hL g1
        go_wp2_with (go_at_call 48; refine (HL _).out.mono ?_; rintro e w' ⟨rfl, rfl⟩)
        go_round
        case rel => exact ⟨k + 1, by omega, by go_num, K2⟩
        case measure => simp [intOf]; omega
      · rw [show decide (97 ≤ (s[k].toNat : Int) ∧ (s[k].toNat : Int) ≤ 122) = false from decide_eq_false g1] at hL
        have HL := fun W => Lib.hid (hL W)
        clear hL
        by_cases g3 : (s[k].toNat : Int) = 32
        · have K2 : Hid ((bytesOf s).all textC = ((bytesOf s).drop (k + 1)).all textC) := by
            show _ = _; rw [HK.out, show textC s[k] = true from decide_eq_true (.inr g3)]; rfl
          clear HK g1
          have q2 : ((s[k].toNat : Int) == 32) = true := by simpa using g3
          have q3 : ((s[k].toNat : Int) != 32) = false := by simpa using g3
          clear g3
          go_wp2_with (go_at_call 48; refine (HL _).out.mono ?_; rintro e w' ⟨rfl, rfl⟩)
          go_round
          case rel => exact ⟨k + 1, by omega, by go_num, K2⟩
          case measure => simp [intOf]; omega
        · have K2 : Hid (textB s = false) := by
            show _ = _; rw [HE.out, HK.out, show textC s[k] = false from decide_eq_false (by omega)]; simp
          have q4 : ((s[k].toNat : Int) != 32) = true := by simp; omega
          have q5 : ((s[k].toNat : Int) == 32) = false := by simp; omega
          clear HK g1 g3
          go_wp2_with (go_at_call 48; refine (HL _).out.mono ?_; rintro e w' ⟨rfl, rfl⟩)
          go_ret
          exact ⟨by rw [K2.out]; rfl, rfl⟩
    · have K2 : Hid (textB s = decide ((s.size : Int) ≤ 100)) := by
        show _ = _; rw [HE.out, K.out, List.drop_of_length_le (by rw [len_bytesOf]; omega)]; simp
      clear K
      go_wp2
      go_ret
      exact ⟨by rw [K2.out]; rfl, rfl⟩


theorem implIsText_any (s : ByteArray) (hs : s.size ≤ 9223372036854775807) (w : World) :
    Calls Tryd.prog 35 #[.string s] w fun e w' => e = .returned (.bool (textB s)) ∧ Below w.heap.size w w' := by
  have HE : Hid (textB s = ((bytesOf s).all textC && decide ((s.size : Int) ≤ 100))) := rfl
  have HT := fun W => Lib.hid (trim_any s cut15 hs (by decide) (ascii_of_all (by decide)) W)
  by_cases h1 : (s.size : Int) ≤ 100
  · have hiff : Lib.trimS s.data.toList cut15.data.toList = [] ↔ (bytesOf s).all textC = true := by
      rw [trim_nil, List.all_eq_true]; simp only [cut15_has]; exact Iff.rfl
    by_cases h2 : (bytesOf s).all textC = true
    · have e1 : Hid (textB s = true) := by show _ = _; rw [HE.out, h2, decide_eq_true h1]; rfl
      rw [hiff.2 h2] at HT
      unfold cut15 at HT
      clear hiff h2
      go_enter Tryd.func35, Tryd.ntmps35
      go_wp2_with (go_at_call 49; refine (HT _).out.mono ?_; rintro e w2 ⟨rfl, hb2⟩)
      go_ret
      exact ⟨by rw [e1.out]; rfl, hb2⟩
    · have e1 : Hid (textB s = false) := by show _ = _; rw [HE.out, show (bytesOf s).all textC = false by simpa using h2]; rfl
      have hne : ¬ Lib.trimS s.data.toList cut15.data.toList = [] := fun h => h2 (hiff.1 h)
      generalize Lib.trimS s.data.toList cut15.data.toList = t at HT hne
      obtain ⟨x, r, rfl⟩ : ∃ x r, t = x :: r := by
        cases t with
        | nil => exact absurd rfl hne
        | cons x r => exact ⟨x, r, rfl⟩
      unfold cut15 at HT
      clear hiff h2 hne
      go_enter Tryd.func35, Tryd.ntmps35
      go_wp2_with (go_at_call 49; refine (HT _).out.mono ?_; rintro e w2 ⟨rfl, hb2⟩)
      go_ret
      exact ⟨by rw [e1.out]; rfl, hb2⟩
  · have e1 : Hid (textB s = false) := by show _ = _; rw [HE.out, decide_eq_false h1]; simp
    go_enter Tryd.func35, Tryd.ntmps35
    go_wp2
    go_ret
    exact ⟨by rw [e1.out]; rfl, Below.refl _ _⟩

end Go.Proofs.YtllnnkiehckegaaDoor
