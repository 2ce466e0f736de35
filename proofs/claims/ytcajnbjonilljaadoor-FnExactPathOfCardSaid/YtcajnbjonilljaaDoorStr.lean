/-
  Strings: one that came in; small laws on bytes. The checksum by the reference and by the program.
  Conditions: those written at each theorem.
-/
import Derived.Test.YtcajnbjonilljaaDoorNums
import Derived.Test.YtcajnbjonilljaaDoorOpen
namespace Go.Proofs.YtcajnbjonilljaaDoor
open Go.RowKit Go.BigFrame
set_option maxRecDepth 100000

section
variable {H : Type} {enc : TypeId × Value → H} {W : World} {base : Nat} {v : Value} {d : DataW H} {p : List MemPlace} {r : Reach}
open Go.ChangeShapes Go.WideShapes Go.ChangeAt Go.RowKit Go.Deep
open Go.ChangeMaps (open_string shut_string)
theorem in_string (hv : Value.okWide Tryd.prog W r base 9 v) (h : DataW.Trod enc Tryd.prog W 0 (fun _ => true) true 9 v d p) : ∃ s : ByteArray, s.size ≤ 9223372036854775807 ∧ v = .string s := by
  obtain ⟨s, rfl, rfl, rfl, hs⟩ := open_string Tryd.underlying9 hv h
  exact ⟨s, by unfold maxLen at hs; omega, rfl⟩
end

/-- the bytes of a string -/
def bytesOf (s : ByteArray) : List UInt8 := s.data.toList
theorem len_bytesOf (s : ByteArray) : (bytesOf s).length = s.size := by cases s; exact Array.length_toList
theorem byte_drop (s : ByteArray) (k : Nat) (h : k < s.size) : (bytesOf s).drop k = s[k] :: (bytesOf s).drop (k + 1) := by
  unfold bytesOf
  rw [List.drop_eq_getElem_cons (by simpa using h)]; rfl
theorem bytes_add (a b : ByteArray) : bytesOf (a ++ b) = bytesOf a ++ bytesOf b := by simp [bytesOf]

/-- the checksum, from a number on -/
def sumF : Int → List UInt8 → Int
  | h, [] => h
  | h, c :: r => sumF ((41 * h + (c.toNat : Int) + 1) % 999979) r
theorem u8_bd (c : UInt8) : 0 ≤ (c.toNat : Int) ∧ (c.toNat : Int) ≤ 255 := ⟨by omega, by have := c.toNat_lt; omega⟩
theorem sumF_bd (l : List UInt8) : ∀ h : Int, (0 ≤ h ∧ h ≤ 999978) → 0 ≤ sumF h l ∧ sumF h l ≤ 999978 := by
  induction l with
  | nil => intro h hh; exact hh
  | cons c r ih => intro h hh; unfold sumF; exact ih _ (by have := u8_bd c; omega)

theorem l1Sum_any (s : ByteArray) (hs : s.size ≤ 9223372036854775807) (w : World) :
    Calls Tryd.prog 42 #[.string s] w fun e w' => e = .returned (.int .i64 (sumF 7 (bytesOf s))) ∧ w = w' := by
  go_enter Tryd.func42, Tryd.ntmps42
  go_wp2
  go_loop [3, 4] (fun v3 v4 => ∃ (k : Nat) (h : Int), k ≤ s.size ∧ v4 = .int .i64 k ∧ v3 = .int .i64 h ∧ (0 ≤ h ∧ h ≤ 999978) ∧ Hid (sumF 7 (bytesOf s) = sumF h ((bytesOf s).drop k))) (fun _ v4 => s.size - (intOf v4).toNat)
  case atStart => exact ⟨0, 7, Nat.zero_le _, rfl, rfl, by omega, by show _ = _; rfl⟩
  case round =>
    obtain ⟨k, h, hk, rfl, rfl, hh, K⟩ := hrel
    by_cases hlt : k < s.size
    · have hc := u8_bd s[k]
      have K2 : Hid (sumF 7 (bytesOf s) = sumF ((41 * h + (s[k].toNat : Int) + 1) % 999979) ((bytesOf s).drop (k + 1))) := by
        show _ = _; rw [K.out, byte_drop s k hlt, sumF]
      clear K
      go_wp2
      go_round
      case rel => exact ⟨k + 1, _, by omega, by go_num, rfl, by omega, K2⟩
      case measure => simp [intOf]; omega
    · have K2 : Hid (sumF 7 (bytesOf s) = h) := by
        show _ = _; rw [K.out, List.drop_of_length_le (by rw [len_bytesOf]; omega), sumF]
      clear K
      go_wp2
      go_ret
      exact ⟨by rw [K2.out]; rfl, rfl⟩
theorem checksum_any (s : ByteArray) (hs : s.size ≤ 9223372036854775807) (w : World) :
    Calls Tryd.prog 51 #[.string s] w fun e w' => e = .returned (.int .i64 (sumF 7 (bytesOf s))) ∧ w = w' := by
  go_enter Tryd.func51, Tryd.ntmps51
  go_wp2
  go_loop [3, 7] (fun v3 v7 => ∃ (k : Nat) (h : Int), k ≤ s.size ∧ v7 = .int .i64 k ∧ v3 = .int .i64 h ∧ (0 ≤ h ∧ h ≤ 999978) ∧ Hid (sumF 7 (bytesOf s) = sumF h ((bytesOf s).drop k))) (fun _ v7 => s.size - (intOf v7).toNat)
  case atStart => exact ⟨0, 7, Nat.zero_le _, rfl, rfl, by omega, by show _ = _; rfl⟩
  case round =>
    obtain ⟨k, h, hk, rfl, rfl, hh, K⟩ := hrel
    by_cases hlt : k < s.size
    · have hc := u8_bd s[k]
      have K2 : Hid (sumF 7 (bytesOf s) = sumF ((41 * h + (s[k].toNat : Int) + 1) % 999979) ((bytesOf s).drop (k + 1))) := by
        show _ = _; rw [K.out, byte_drop s k hlt, sumF]
      clear K
      go_wp2
      go_round
      case rel => exact ⟨k + 1, _, by omega, by go_num, rfl, by omega, K2⟩
      case measure => simp [intOf]; omega
    · have K2 : Hid (sumF 7 (bytesOf s) = h) := by
        show _ = _; rw [K.out, List.drop_of_length_le (by rw [len_bytesOf]; omega), sumF]
      clear K
      go_wp2
      go_ret
      exact ⟨by rw [K2.out]; rfl, rfl⟩
theorem implChecksum_any (s : ByteArray) (hs : s.size ≤ 4000) (w : World) :
    Calls Tryd.prog 39 #[.string s] w fun e w' => e = .returned (.tuple #[.int .i64 (sumF 7 (bytesOf s)), .bool true]) ∧ w = w' := by
  go_enter Tryd.func39, Tryd.ntmps39
  go_wp2_with (go_at_call 51; refine (checksum_any _ (by omega) _).mono ?_; rintro e w' ⟨rfl, rfl⟩)
  go_ret2
  exact ⟨rfl, rfl⟩

end Go.Proofs.YtcajnbjonilljaaDoor
