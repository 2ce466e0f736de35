/-
  Chapter 16: the hash of two hashes, by the reference and by the program.
  Conditions: those written at each theorem; the program's way asks the library's table.
-/
import Derived.Test.YtcajnbjonilljaaDoorP16h
import Derived.Test.YtcajnbjonilljaaDoorShPair
namespace Go.Proofs.YtcajnbjonilljaaDoor
open Go.RowKit Go.BigFrame
set_option maxRecDepth 100000

theorem l1Num_any (x : Int) (h0 : 0 ≤ x) (h1 : x ≤ 9223372036854775807) (w : World) : Calls Tryd.prog 43 #[.int .i64 x] w fun e w' => e = .returned (.string (numT x)) ∧ Below w.heap.size w w' :=
  l1Num_int x.toNat x (by omega) h1 w

/-- what is summed for two hashes -/
def pairT (a b : Int) : ByteArray := ⟨#[110]⟩ ++ numT a ++ ⟨#[44]⟩ ++ numT b
def pairF (a b : Int) : Int := sumF 7 (bytesOf (pairT a b))
theorem pairF_bd (a b : Int) : 0 ≤ pairF a b ∧ pairF a b ≤ 999999 := by
  have := sumF_bd (bytesOf (pairT a b)) 7 (by omega)
  unfold pairF; omega
theorem pairT_size (a b : Int) (ha : 0 ≤ a ∧ a ≤ 999999) (hb : 0 ≤ b ∧ b ≤ 999999) : (pairT a b).size ≤ 44 := by
  have h1 := numT_size a (by unfold I64; omega)
  have h2 := numT_size b (by unfold I64; omega)
  unfold pairT
  rw [ByteArray.size_append, ByteArray.size_append, ByteArray.size_append]
  have e1 : (⟨#[110]⟩ : ByteArray).size = 1 := rfl
  have e2 : (⟨#[44]⟩ : ByteArray).size = 1 := rfl
  omega

theorem l16Pair_any (a b : Int) (ha : 0 ≤ a ∧ a ≤ 999999) (hb : 0 ≤ b ∧ b ≤ 999999) (w : World) :
    Calls Tryd.prog 35 #[.int .i64 a, .int .i64 b] w fun e w' => e = .returned (.int .i64 (pairF a b)) ∧ Below w.heap.size w w' := by
  have HA := fun W => Lib.hid (l1Num_any a ha.1 (by omega) W)
  have HB := fun W => Lib.hid (l1Num_any b hb.1 (by omega) W)
  have hp := pairT_size a b ha hb
  have HS : ∀ W, Hid (Calls Tryd.prog 42 #[.string (pairT a b)] W fun e w' => e = .returned (.int .i64 (pairF a b)) ∧ W = w') := fun W => l1Sum_any (pairT a b) (by omega) W
  have hs1 := numT_size a (by unfold I64; omega)
  have hs2 := numT_size b (by unfold I64; omega)
  unfold pairT at HS
  clear ha hb hp
  generalize pairF a b = q at HS
  generalize numT a = s at HA HS hs1
  generalize numT b = t at HB HS hs2
  go_enter Tryd.func35, Tryd.ntmps35
  go_wp2_with fail
  refine (HA _).out.mono ?_
  rintro e w1 ⟨rfl, hb1⟩
  have B1 := Lib.hid hb1
  clear hb1
  go_wp2_with fail
  refine (HB _).out.mono ?_
  rintro e w2 ⟨rfl, hb2⟩
  have B2 := Lib.hid (Below.transB B1.out (Nat.le_refl _) hb2)
  clear hb2
  go_wp2_with fail
  refine (HS _).out.mono ?_
  rintro e w3 ⟨rfl, rfl⟩
  go_wp2
  go_ret
  exact ⟨rfl, B2.out⟩

theorem pairHash_any (a b : Int) (ha : 0 ≤ a ∧ a ≤ 999999) (hb : 0 ≤ b ∧ b ≤ 999999) (w : World) (hT : TabP w) :
    Calls Tryd.prog 33 #[.int .i64 a, .int .i64 b] w fun e w' => e = .returned (.int .i64 (pairF a b)) ∧ Below w.heap.size w w' := by
  have HA := fun W k => Lib.hid (decimal_any a (by unfold I64; omega) W k)
  have HB := fun W k => Lib.hid (decimal_any b (by unfold I64; omega) W k)
  have HT := Lib.hid hT
  have hp := pairT_size a b ha hb
  have HS : ∀ W, Hid (Calls Tryd.prog 39 #[.string (pairT a b)] W fun e w' => e = .returned (.tuple #[.int .i64 (pairF a b), .bool true]) ∧ W = w') := fun W => implChecksum_any (pairT a b) (by omega) W
  have hs1 := numT_size a (by unfold I64; omega)
  have hs2 := numT_size b (by unfold I64; omega)
  unfold pairT at HS
  clear ha hb hp hT
  generalize pairF a b = q at HS
  generalize numT a = s at HA HS hs1
  generalize numT b = t at HB HS hs2
  go_enter Tryd.func33, Tryd.ntmps33
  go_wp2_with fail
  refine (HA _ HT.out).out.mono ?_
  rintro e w1 ⟨rfl, hb1⟩
  have B1 := Lib.hid hb1
  clear hb1
  go_wp2_with fail
  refine (HB _ (HT.out.below B1.out)).out.mono ?_
  rintro e w2 ⟨rfl, hb2⟩
  have B2 := Lib.hid (Below.transB B1.out (Nat.le_refl _) hb2)
  clear hb2
  go_wp2_with fail
  refine (HS _).out.mono ?_
  rintro e w3 ⟨rfl, rfl⟩
  go_wp2
  go_ret
  exact ⟨rfl, B2.out⟩

def phAns (a b : Int) : Value := if inB a 0 999999 = true ∧ inB b 0 999999 = true then .tuple #[.int .i64 (pairF a b), .bool true] else .tuple #[.int .i64 0, .bool false]
theorem phAns_form (a b : Int) : ∃ (x : Int) (y : Bool), phAns a b = .tuple #[.int .i64 x, .bool y] := by
  unfold phAns; split <;> exact ⟨_, _, rfl⟩

end Go.Proofs.YtcajnbjonilljaaDoor
