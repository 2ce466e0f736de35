/-
  A number's decimal numeral by the reference.
  Conditions: those written at each theorem.
-/
import Derived.Test.YtcajnbjonilljaaDoorLayItoa
import Derived.Test.YtcajnbjonilljaaDoorSi
import Derived.Deep.RegionHeld3
namespace Go.Proofs.YtcajnbjonilljaaDoor
open Go.RowKit Go.BigFrame
set_option maxRecDepth 100000

def digits : ByteArray := ⟨#[48, 49, 50, 51, 52, 53, 54, 55, 56, 57]⟩
theorem digit_at (i : Nat) (h : i < 10) : digits.extract i (i + 1) = ⟨#[UInt8.ofNat (48 + i)]⟩ := by
  have h2 : ∀ n : Fin 10, digits.extract n.val (n.val + 1) = ⟨#[UInt8.ofNat (48 + n.val)]⟩ := by decide +kernel
  exact h2 ⟨i, h⟩

set_option maxHeartbeats 1600000 in
theorem l1Num_int : ∀ (n : Nat) (x : Int), x = n → x ≤ 9223372036854775807 → ∀ w : World, Calls Tryd.prog 43 #[.int .i64 x] w fun e w' => e = .returned (.string (numT x)) ∧ Below w.heap.size w w' := by
  intro n
  induction n using Nat.strongRecOn with
  | _ n ih =>
    intro x hx hn w
    by_cases h : x < 10
    · have e1 := Lib.hid (numT_small n (by omega))
      have e2 := Lib.hid (digit_at n (by omega))
      unfold digits at e2
      rw [← hx] at e1
      have h0 : 0 ≤ x := by omega
      have et : Hid (x.toNat = n ∧ (x + 1).toNat = n + 1) := Lib.hid (by omega)
      clear ih hx
      go_enter Tryd.func43, Tryd.ntmps43
      go_wp2
      go_ret
      exact ⟨by rw [e1.out, ← e2.out, ← et.out.1]; first | rfl | (rw [show x.toNat + 1 = (x + 1).toNat by omega]; rfl), Below.refl _ _⟩
    · have IH : ∀ W, Hid (Calls Tryd.prog 43 #[.int .i64 (x / 10)] W fun e w' => e = .returned (.string (numT (x / 10))) ∧ Below W.heap.size W w') := fun W => ih (n / 10) (by omega) (x / 10) (by omega) (by omega) W
      have hsz : (numT (x / 10)).size ≤ 21 := numT_size _ (by unfold I64; omega)
      have e1 := numT_big n (by omega)
      have e2 := digit_at (n % 10) (by omega)
      unfold digits at e2
      rw [← hx, show ((n / 10 : Nat) : Int) = x / 10 by omega, ← e2] at e1
      have et : Hid ((x % 10).toNat = n % 10 ∧ (x % 10 + 1).toNat = n % 10 + 1) := Lib.hid (by omega)
      rw [← et.out.2, ← et.out.1] at e1
      have E1 := Lib.hid e1
      generalize numT (x / 10) = t at IH hsz E1
      have h0 : 0 ≤ x := by omega
      clear ih e1 e2 hx et
      have g0 : 0 ≤ x % 10 := by omega
      have g1 : x % 10 + 1 ≤ 10 := by omega
      have g2 : IntKind.i64.wrap (x % 10 + 1) = x % 10 + 1 := by rw [IntKind.wrap_i64]; omega
      go_enter Tryd.func43, Tryd.ntmps43
      go_wp2_with fail
      refine wp_region_grow (by kernel_rfl) (by kernel_rfl) ?_
      repeat (go_big_quiet_step (first | (go_at_call 43; exact quietG (IH _).out)))
      refine wpQuiet_endG ?_
      intro w2 hb2
      go_wp2
      go_ret
      exact ⟨by rw [E1.out]; rfl, by assumption⟩

end Go.Proofs.YtcajnbjonilljaaDoor
