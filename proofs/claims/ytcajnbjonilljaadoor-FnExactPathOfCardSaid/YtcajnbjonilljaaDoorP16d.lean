/-
  Chapter 16: entries and their hashes, by the reference and by the program.
  Conditions: those written at each theorem.
-/
import Derived.Test.YtcajnbjonilljaaDoorLayTrim
import Derived.WalkLawsBesides
namespace Go.Proofs.YtcajnbjonilljaaDoor
open Go.RowKit Go.BigFrame
set_option maxRecDepth 100000

/-- the bytes that an entry may have -/
def entC (c : UInt8) : Bool := decide ((97 ≤ (c.toNat : Int) ∧ (c.toNat : Int) ≤ 122) ∨ (48 ≤ (c.toNat : Int) ∧ (c.toNat : Int) ≤ 57) ∨ (c.toNat : Int) = 32 ∨ (c.toNat : Int) = 45)
def cut16 : ByteArray := ⟨#[97, 98, 99, 100, 101, 102, 103, 104, 105, 106, 107, 108, 109, 110, 111, 112, 113, 114, 115, 116, 117, 118, 119, 120, 121, 122, 48, 49, 50, 51, 52, 53, 54, 55, 56, 57, 32, 45]⟩
theorem cut16_has (c : UInt8) : cut16.data.toList.contains c = entC c := by
  have h : ∀ n : Fin 256, cut16.data.toList.contains (UInt8.ofNat n.val) = entC (UInt8.ofNat n.val) := by decide +kernel
  have h2 := h ⟨c.toNat, c.toNat_lt⟩
  simpa using h2
/-- a text is an entry -/
def entryB (s : ByteArray) : Bool := inB s.size 1 40 && (bytesOf s).all entC
theorem entryB_true {s : ByteArray} (h : entryB s = true) : 1 ≤ s.size ∧ s.size ≤ 40 := by
  simp only [entryB, Bool.and_eq_true] at h
  have := inB_true h.1
  omega

theorem l15Letter_any (c : UInt8) (w : World) : Calls Tryd.prog 36 #[.int .u8 (c.toNat : Int)] w fun e w' => e = .returned (.bool (decide (97 ≤ (c.toNat : Int) ∧ (c.toNat : Int) ≤ 122))) ∧ w = w' := by
  by_cases h1 : 97 ≤ (c.toNat : Int) <;> by_cases h2 : (c.toNat : Int) ≤ 122
  all_goals
    go_enter Tryd.func36, Tryd.ntmps36
    go_wp2
    go_ret
    exact ⟨by simp [h1, h2], rfl⟩

set_option maxHeartbeats 800000 in
theorem l16Entry_any (s : ByteArray) (hs : s.size ≤ 9223372036854775807) (w : World) :
    Calls Tryd.prog 27 #[.string s] w fun e w' => e = .returned (.bool (entryB s)) ∧ w = w' := by
  have HE : Hid (entryB s = (inB s.size 1 40 && (bytesOf s).all entC)) := rfl
  go_enter Tryd.func27, Tryd.ntmps27
  go_wp2
  go_loop [3] (fun v => ∃ k : Nat, k ≤ s.size ∧ v = .int .i64 k ∧ Hid ((bytesOf s).all entC = ((bytesOf s).drop k).all entC)) (fun v => s.size - (intOf v).toNat)
  case atStart => exact ⟨0, Nat.zero_le _, rfl, by show _ = _; rfl⟩
  case round =>
    obtain ⟨k, hk, rfl, K⟩ := hrel
    by_cases hlt : k < s.size
    · have hc := u8_bd s[k]
      have K1 := K.out
      rw [byte_drop s k hlt, List.all_cons] at K1
      have HK := Lib.hid K1
      clear K K1
      have hL := l15Letter_any s[k]
      by_cases g1 : 97 ≤ (s[k].toNat : Int) ∧ (s[k].toNat : Int) ≤ 122
      · have K2 : Hid ((bytesOf s).all entC = ((bytesOf s).drop (k + 1)).all entC) := by
          show _ = _; rw [HK.out, show entC s[k] = true from decide_eq_true (.inl g1)]; rfl
        rw [show decide (97 ≤ (s[k].toNat : Int) ∧ (s[k].toNat : Int) ≤ 122) = true from decide_eq_true g1] at hL
        have HL := fun W => Lib.hid (hL W)
        clear HK hL g1
        go_wp2_with (go_at_call 36; refine (HL _).out.mono ?_; rintro e w' ⟨rfl, rfl⟩)
        go_round
        case rel => exact ⟨k + 1, by omega, by go_num, K2⟩
        case measure => simp [intOf]; omega
      · rw [show decide (97 ≤ (s[k].toNat : Int) ∧ (s[k].toNat : Int) ≤ 122) = false from decide_eq_false g1] at hL
        have HL := fun W => Lib.hid (hL W)
        clear hL
        by_cases g2 : (48 ≤ (s[k].toNat : Int) ∧ (s[k].toNat : Int) ≤ 57) ∨ (s[k].toNat : Int) = 32 ∨ (s[k].toNat : Int) = 45
        · have K2 : Hid ((bytesOf s).all entC = ((bytesOf s).drop (k + 1)).all entC) := by
            show _ = _; rw [HK.out, show entC s[k] = true from decide_eq_true (.inr g2)]; rfl
          clear HK g1
          rcases g2 with ⟨g3, g4⟩ | g3 | g3
          · go_wp2_with (go_at_call 36; refine (HL _).out.mono ?_; rintro e w' ⟨rfl, rfl⟩)
            all_goals
              go_round
              case rel => exact ⟨k + 1, by omega, by go_num, K2⟩
              case measure => simp [intOf]; omega
          · have q1 : ¬ 48 ≤ (s[k].toNat : Int) := by omega
            have q2 : ((s[k].toNat : Int) == 32) = true := by simpa using g3
            have q3 : ((s[k].toNat : Int) != 32) = false := by simpa using g3
            clear g3
            go_wp2_with (go_at_call 36; refine (HL _).out.mono ?_; rintro e w' ⟨rfl, rfl⟩)
            go_round
            case rel => exact ⟨k + 1, by omega, by go_num, K2⟩
            case measure => simp [intOf]; omega
          · have q1 : ¬ 48 ≤ (s[k].toNat : Int) := by omega
            have q2 : ((s[k].toNat : Int) == 45) = true := by simpa using g3
            have q3 : ((s[k].toNat : Int) != 45) = false := by simpa using g3
            have q4 : ((s[k].toNat : Int) != 32) = true := by simp; omega
            have q5 : ((s[k].toNat : Int) == 32) = false := by simp; omega
            clear g3
            go_wp2_with (go_at_call 36; refine (HL _).out.mono ?_; rintro e w' ⟨rfl, rfl⟩)
            go_round
            case rel => exact ⟨k + 1, by omega, by go_num, K2⟩
            case measure => simp [intOf]; omega
        · have K2 : Hid (entryB s = false) := by
            show _ = _; rw [HE.out, HK.out, show entC s[k] = false from decide_eq_false (by omega)]; simp
          have q4 : ((s[k].toNat : Int) != 32) = true := by simp; omega
          have q5 : ((s[k].toNat : Int) == 32) = false := by simp; omega
          have q6 : ((s[k].toNat : Int) != 45) = true := by simp; omega
          have q7 : ((s[k].toNat : Int) == 45) = false := by simp; omega
          have g5 : (s[k].toNat : Int) < 48 ∨ 57 < (s[k].toNat : Int) := by omega
          clear HK g1 g2
          rcases g5 with g5 | g5
          all_goals
            go_wp2_with (go_at_call 36; refine (HL _).out.mono ?_; rintro e w' ⟨rfl, rfl⟩)
            all_goals first
              | (go_ret; exact ⟨by rw [K2.out]; rfl, rfl⟩)
              | (exfalso; have h8 : (!decide ((s[k].toNat : Int) ≤ 57)) = false := (by assumption); have h9 : (s[k].toNat : Int) ≤ 57 := (by simpa using h8); omega)
    · have K2 : Hid (entryB s = inB s.size 1 40) := by
        show _ = _; rw [HE.out, K.out, List.drop_of_length_le (by rw [len_bytesOf]; omega)]; simp
      clear K
      go_wp2_with (go_at_call 21; refine (l1In_any _ _ _ _).mono ?_; rintro e w' ⟨rfl, rfl⟩)
      go_ret
      exact ⟨by rw [K2.out]; rfl, rfl⟩

theorem isEntry_any (s : ByteArray) (hs : s.size ≤ 9223372036854775807) (w : World) :
    Calls Tryd.prog 30 #[.string s] w fun e w' => e = .returned (.bool (entryB s)) ∧ Below w.heap.size w w' := by
  have HE : Hid (entryB s = (inB s.size 1 40 && (bytesOf s).all entC)) := rfl
  have HT := fun W => Lib.hid (trim_any s cut16 hs (by decide) (ascii_of_all (by decide)) W)
  by_cases h1 : inB s.size 1 40 = true
  · have hiff : Lib.trimS s.data.toList cut16.data.toList = [] ↔ (bytesOf s).all entC = true := by
      rw [trim_nil, List.all_eq_true]; simp only [cut16_has]; exact Iff.rfl
    by_cases h2 : (bytesOf s).all entC = true
    · have e1 : Hid (entryB s = true) := by show _ = _; rw [HE.out, h1, h2]; rfl
      rw [hiff.2 h2] at HT
      unfold cut16 at HT
      clear hiff h2
      go_enter Tryd.func30, Tryd.ntmps30
      go_wp2_with (first
        | (go_at_call 24; refine (within_any _ _ _ _).mono ?_; rintro e w' ⟨rfl, rfl⟩; rw [h1])
        | (go_at_call 38; refine (HT _).out.mono ?_; rintro e w2 ⟨rfl, hb2⟩))
      go_ret
      exact ⟨by rw [e1.out]; rfl, hb2⟩
    · have e1 : Hid (entryB s = false) := by show _ = _; rw [HE.out, h1]; simpa using h2
      have hne : ¬ Lib.trimS s.data.toList cut16.data.toList = [] := fun h => h2 (hiff.1 h)
      generalize Lib.trimS s.data.toList cut16.data.toList = t at HT hne
      obtain ⟨x, r, rfl⟩ : ∃ x r, t = x :: r := by
        cases t with
        | nil => exact absurd rfl hne
        | cons x r => exact ⟨x, r, rfl⟩
      unfold cut16 at HT
      clear hiff h2 hne
      go_enter Tryd.func30, Tryd.ntmps30
      go_wp2_with (first
        | (go_at_call 24; refine (within_any _ _ _ _).mono ?_; rintro e w' ⟨rfl, rfl⟩; rw [h1])
        | (go_at_call 38; refine (HT _).out.mono ?_; rintro e w2 ⟨rfl, hb2⟩))
      go_ret
      exact ⟨by rw [e1.out]; rfl, hb2⟩
  · have e1 : Hid (entryB s = false) := by show _ = _; rw [HE.out, show inB s.size 1 40 = false by simpa using h1]; rfl
    go_enter Tryd.func30, Tryd.ntmps30
    go_wp2_with (go_at_call 24; refine (within_any _ _ _ _).mono ?_; rintro e w' ⟨rfl, rfl⟩; rw [show inB s.size 1 40 = false by simpa using h1])
    go_ret
    exact ⟨by rw [e1.out]; rfl, Below.refl _ _⟩

/-- the hash of an entry -/
def leafF (s : ByteArray) : Int := sumF 7 (108 :: bytesOf s)
theorem leaf_bytes (s : ByteArray) : bytesOf (⟨#[108]⟩ ++ s) = 108 :: bytesOf s := by rw [bytes_add]; rfl
theorem leaf_size (s : ByteArray) : (⟨#[108]⟩ ++ s : ByteArray).size = s.size + 1 := by rw [← len_bytesOf, leaf_bytes, List.length_cons, len_bytesOf]

theorem l16Leaf_any (s : ByteArray) (hs : s.size ≤ 1048576) (w : World) : Calls Tryd.prog 34 #[.string s] w fun e w' => e = .returned (.int .i64 (leafF s)) ∧ w = w' := by
  have HS : ∀ W, Hid (Calls Tryd.prog 42 #[.string (⟨#[108]⟩ ++ s)] W fun e w' => e = .returned (.int .i64 (leafF s)) ∧ W = w') := fun W => by
    have := l1Sum_any (⟨#[108]⟩ ++ s) (by rw [leaf_size]; omega) W
    rw [leaf_bytes] at this
    exact this
  go_enter Tryd.func34, Tryd.ntmps34
  go_wp2_with (go_at_call 42; refine (HS _).out.mono ?_; rintro e w' ⟨rfl, rfl⟩)
  go_ret
  exact ⟨rfl, rfl⟩
theorem entryHash_any (s : ByteArray) (hs : s.size ≤ 40) (w : World) : Calls Tryd.prog 31 #[.string s] w fun e w' => e = .returned (.int .i64 (leafF s)) ∧ w = w' := by
  have HS : ∀ W, Hid (Calls Tryd.prog 39 #[.string (⟨#[108]⟩ ++ s)] W fun e w' => e = .returned (.tuple #[.int .i64 (leafF s), .bool true]) ∧ W = w') := fun W => by
    have := implChecksum_any (⟨#[108]⟩ ++ s) (by rw [leaf_size]; omega) W
    rw [leaf_bytes] at this
    exact this
  go_enter Tryd.func31, Tryd.ntmps31
  go_wp2_with (go_at_call 39; refine (HS _).out.mono ?_; rintro e w' ⟨rfl, rfl⟩)
  go_ret
  exact ⟨rfl, rfl⟩

def ehAns (s : ByteArray) : Value := if entryB s = true then .tuple #[.int .i64 (leafF s), .bool true] else .tuple #[.int .i64 0, .bool false]
theorem ehAns_form (s : ByteArray) : ∃ (x : Int) (y : Bool), ehAns s = .tuple #[.int .i64 x, .bool y] := by
  unfold ehAns; split <;> exact ⟨_, _, rfl⟩

end Go.Proofs.YtcajnbjonilljaaDoor
