/-
  Strings: one that came in; small laws on bytes. The checksum by the reference and by the program.
  Conditions: those written at each theorem.
-/
import Derived.Test.YtllnnkiehckegaaDoorNums
import Derived.Test.YtllnnkiehckegaaDoorOpen
namespace Go.Proofs.YtllnnkiehckegaaDoor
open Go.RowKit Go.BigFrame
set_option maxRecDepth 100000

section
variable {H : Type} {enc : TypeId × Value → H} {W : World} {base : Nat} {v : Value} {d : DataW H} {p : List MemPlace} {r : Reach}
open Go.ChangeShapes Go.WideShapes Go.ChangeAt Go.RowKit Go.Deep
open Go.ChangeMaps (open_string shut_string)
theorem in_string (hv : Value.okWide Tryd.prog W r base 9 v) (h : DataW.Trod enc Tryd.prog W 0 (fun _ => true) true 9 v d p) : ∃ s : ByteArray, s.size ≤ 9223372036854775807 ∧ v = .string s := by
  obtain ⟨s, rfl, rfl, rfl, hs⟩ := open_string Tryd.underlying9 hv h
  exact ⟨s, by unfold maxLen at hs; omega, rfl⟩
end

/-- the bytes of a string -/
def bytesOf (s : ByteArray) : List UInt8 := s.data.toList
theorem len_bytesOf (s : ByteArray) : (bytesOf s).length = s.size := by cases s; exact Array.length_toList
theorem byte_drop (s : ByteArray) (k : Nat) (h : k < s.size) : (bytesOf s).drop k = s[k] :: (bytesOf s).drop (k + 1) := by
  unfold bytesOf
  rw [List.drop_eq_getElem_cons (by simpa using h)]; rfl
theorem bytes_add (a b : ByteArray) : bytesOf (a ++ b) = bytesOf a ++ bytesOf b := by simp [bytesOf]


end Go.Proofs.YtllnnkiehckegaaDoor
