/-
  Chapter 14: the text of a bill, by the reference and by the program. Written by mk14q.py.
  Conditions: those written at each theorem; the program's way asks the library's table.
-/
import Derived.Test.YtkocblkodhfjiaaDoorP14a
import Derived.Test.YtkocblkodhfjiaaDoorP16h
namespace Go.Proofs.YtkocblkodhfjiaaDoor
open Go.RowKit Go.BigFrame
set_option maxRecDepth 100000

theorem l1Num_any (x : Int) (h0 : 0 ≤ x) (h1 : x ≤ 9223372036854775807) (w : World) : Calls Tryd.prog 11 #[.int .i64 x] w fun e w' => e = .returned (.string (numT x)) ∧ Below w.heap.size w w' :=
  l1Num_int x.toNat x (by omega) h1 w

/-- two digits -/
def padT (m : Int) : ByteArray := numT (m / 10) ++ numT (m % 10)
theorem pad_small (m : Nat) (h : m < 10) : padT m = ⟨#[48]⟩ ++ numT m := by
  unfold padT
  rw [show (m : Int) / 10 = ((0 : Nat) : Int) by omega, show (m : Int) % 10 = (m : Int) by omega, numT_small 0 (by omega)]; rfl
theorem pad_big (m : Nat) (h : ¬ m < 10) (h2 : m < 100) : padT m = numT m := by
  unfold padT
  rw [numT_big m h, show (m : Int) / 10 = ((m / 10 : Nat) : Int) by omega, show (m : Int) % 10 = ((m % 10 : Nat) : Int) by omega, numT_small (m % 10) (by omega)]
theorem pad_size (m : Nat) (h : m < 100) : (padT m).size = 2 := by
  unfold padT
  rw [ByteArray.size_append, show (m : Int) / 10 = ((m / 10 : Nat) : Int) by omega, show (m : Int) % 10 = ((m % 10 : Nat) : Int) by omega, numT_small (m % 10) (by omega), numT_small (m / 10) (by omega)]; rfl
theorem one_size (m : Nat) (h : m < 10) : (numT m).size = 1 := by rw [numT_small m h]; rfl

theorem padded_any (m : Nat) (h : m < 100) (w : World) : Calls Tryd.prog 16 #[.int .i64 m, .int .i64 2] w fun e w' => e = .returned (.string (padT m)) ∧ w = w' := by
  have HD := fun W => Lib.hid (decimal_small m h W)
  have hz := pad_size m h
  by_cases h1 : m < 10
  · have e1 := pad_small m h1
    have hs := one_size m h1
    have E1 := Lib.hid e1
    rw [e1] at hz
    generalize numT (m : Int) = s at HD hs E1 hz
    clear e1
    go_enter Tryd.func16, Tryd.ntmps16
    go_wp2_with (go_at_call 15; refine (HD _).out.mono ?_; rintro e w' ⟨rfl, rfl⟩)
    go_loop [5] (fun v => ∃ x : ByteArray, v = .string x ∧ (x.size ≤ 2 ∧ (x.size < 2 → x = s) ∧ (2 ≤ x.size → x = ⟨#[48]⟩ ++ s))) (fun v => 2 - (match v with | .string x => x.size | _ => 0))
    case atStart => exact ⟨s, rfl, by omega, fun _ => rfl, fun h => by omega⟩
    case round =>
      obtain ⟨x, rfl, hx, k1, k2⟩ := hrel
      have K1 := Lib.hid k1
      have K2 := Lib.hid k2
      clear k1 k2
      by_cases hc : x.size < 2
      · obtain rfl := K1.out hc
        have hx1 : (x.size : Int) < 2 := by omega
        go_wp2
        go_round
        case rel => exact ⟨_, rfl, Nat.le_of_eq hz, fun h => by rw [hz] at h; omega, fun _ => rfl⟩
        case measure => show 2 - (⟨#[48]⟩ ++ x).size < 2 - x.size; rw [hz]; omega
      · have he := K2.out (by omega)
        have hx1 : ¬ (x.size : Int) < 2 := by omega
        have HE := Lib.hid he
        go_wp2
        go_ret
        exact ⟨by rw [E1.out, ← HE.out]; rfl, rfl⟩
  · have e1 := pad_big m h1 h
    have E1 := Lib.hid e1
    rw [e1] at hz
    generalize numT (m : Int) = s at HD E1 hz
    clear e1
    have hz2 : ¬ (s.size : Int) < 2 := by omega
    go_enter Tryd.func16, Tryd.ntmps16
    go_wp2_with (go_at_call 15; refine (HD _).out.mono ?_; rintro e w' ⟨rfl, rfl⟩)
    go_loop [5] (fun v => v = .string s) (fun _ => 0)
    case atStart => rfl
    case round =>
      obtain rfl := hrel
      go_wp2
      go_ret
      exact ⟨by rw [E1.out]; rfl, rfl⟩

/-- the text of a bill -/
def btT (id n : Int) : ByteArray := ⟨#[98, 105, 108, 108, 32]⟩ ++ numT id ++ ⟨#[58, 32]⟩ ++ numT (n / 100) ++ ⟨#[46]⟩ ++ padT (n % 100)
def btR : ByteArray := ⟨#[32, 40, 114, 101, 100, 117, 99, 101, 100, 41]⟩
theorem btT_spec (id n : Int) (hn : 0 ≤ n) : btT id n = ⟨#[98, 105, 108, 108, 32]⟩ ++ numT id ++ ⟨#[58, 32]⟩ ++ numT (n / 100) ++ ⟨#[46]⟩ ++ numT (n / 10 % 10) ++ numT (n % 10) := by
  unfold btT padT
  rw [show n % 100 / 10 = n / 10 % 10 by omega, show n % 100 % 10 = n % 10 by omega]
  simp only [ByteArray.append_assoc]
def bill2 (b : Bill) : Bill := ⟨0, b.hours, b.pages, false, false, 0⟩
def btAns (t : Tariff) (b : Bill) : Value := if tarOk t = true ∧ billOk b = true then .tuple #[.string (if feeI t b < feeI t (bill2 b) then btT b.id (feeI t b) ++ btR else btT b.id (feeI t b)), .bool true] else .tuple #[.string ⟨#[]⟩, .bool false]
theorem btAns_form (t : Tariff) (b : Bill) : ∃ (x : ByteArray) (y : Bool), btAns t b = .tuple #[.string x, .bool y] := by
  unfold btAns; split <;> exact ⟨_, _, rfl⟩

set_option maxHeartbeats 1600000 in
theorem specBillText_any (t : Tariff) (b : Bill) (w : World) : Calls Tryd.prog 4 #[aggTariff t, aggBill b] w fun e w' => e = .returned (btAns t b) ∧ Below w.heap.size w w' := by
  have HT := fun W => Lib.hid (l14Tariff_any t W)
  have HB := fun W => Lib.hid (l14Bill_any b W)
  by_cases h1 : tarOk t = true
  · by_cases h2 : billOk b = true
    · have hn := fee_bd (FeeIn.of h1 h2)
      have hid := (billOk_true h2).1
      have hf2 : FeeIn t (bill2 b) := ⟨h1, (billOk_true h2).2.1, (billOk_true h2).2.2.1⟩
      have hn2 := fee_bd hf2
      have HF := fun W => Lib.hid (l14Fee_any t b W (FeeIn.of h1 h2))
      have HF2 := fun W => Lib.hid (l14Fee_any t (bill2 b) W hf2)
      have hans : Hid (btAns t b = .tuple #[.string (if feeI t b < feeI t (bill2 b) then btT b.id (feeI t b) ++ btR else btT b.id (feeI t b)), .bool true]) := if_pos ⟨h1, h2⟩
      rw [h1] at HT
      rw [h2] at HB
      clear h1 h2 hf2
      generalize feeI t (bill2 b) = n2 at HF2 hans hn2
      generalize feeI t b = n at HF hans hn
      have H1 := fun W => Lib.hid (l1Num_any b.id (by omega) (by omega) W)
      have H2 := fun W => Lib.hid (l1Num_any (n / 100) (by omega) (by omega) W)
      have H3 := fun W => Lib.hid (l1Num_any (n / 10 % 10) (by omega) (by omega) W)
      have H4 := fun W => Lib.hid (l1Num_any (n % 10) (by omega) (by omega) W)
      have z1 := numT_size b.id (by unfold I64; omega)
      have z2 := numT_size (n / 100) (by unfold I64; omega)
      have z3 := numT_size (n / 10 % 10) (by unfold I64; omega)
      have z4 := numT_size (n % 10) (by unfold I64; omega)
      rw [btT_spec b.id n hn.1] at hans
      generalize numT b.id = s1 at H1 z1 hans
      generalize numT (n / 100) = s2 at H2 z2 hans
      generalize numT (n / 10 % 10) = s3 at H3 z3 hans
      generalize numT (n % 10) = s4 at H4 z4 hans
      unfold btR at hans
      unfold bill2 at HF2
      unfold aggTariff aggBill at *
      go_enter Tryd.func4, Tryd.ntmps4
      go_wp2_with fail
      have bx := (Box.new w #[.int .i64 t.search, .int .i64 t.page, .int .i64 t.free, .int .i64 t.limit] 28).below ((Below.refl _ _).alloc (Nat.le_refl _) (.cells #[.int .i64 b.id, .int .i64 b.hours, .int .i64 b.pages, .bool b.poor, .bool b.pub, .int .i64 b.paid] 30))
      have by_ := Box.new (w.alloc (.cells #[.int .i64 t.search, .int .i64 t.page, .int .i64 t.free, .int .i64 t.limit] 28)) #[.int .i64 b.id, .int .i64 b.hours, .int .i64 b.pages, .bool b.poor, .bool b.pub, .int .i64 b.paid] 30
      rw [World.size_alloc] at by_
      refine (HT _).out.mono ?_
      rintro e w1 ⟨rfl, hb1⟩
      have BX1 := Lib.hid (bx.below hb1)
      have BY1 := Lib.hid (by_.below hb1)
      have B1 := Lib.hid (Below.trans' (a := w) (((Below.refl _ _).alloc (Nat.le_refl _) _).alloc (by simp) _) hb1)
      clear hb1 bx by_
      obtain ⟨x0, x1, x2, x3⟩ := BX1.out.four
      obtain ⟨y0, y1, y2, y3, y4, y5⟩ := BY1.out.six
      go_wp2_with fail
      refine (HB _).out.mono ?_
      rintro e w2 ⟨rfl, hb⟩
      have BX2 := Lib.hid (BX1.out.below hb)
      have BY2 := Lib.hid (BY1.out.below hb)
      have B2 := Lib.hid (Below.trans' B1.out hb)
      clear hb x0 x1 x2 x3 y0 y1 y2 y3 y4 y5 BX1 BY1 B1
      obtain ⟨x0, x1, x2, x3⟩ := BX2.out.four
      obtain ⟨y0, y1, y2, y3, y4, y5⟩ := BY2.out.six
      go_wp2_with fail
      refine (HF _).out.mono ?_
      rintro e w3 ⟨rfl, hb⟩
      have BX3 := Lib.hid (BX2.out.below hb)
      have BY3 := Lib.hid (BY2.out.below hb)
      have B3 := Lib.hid (Below.trans' B2.out hb)
      clear hb x0 x1 x2 x3 y0 y1 y2 y3 y4 y5 BX2 BY2 B2
      obtain ⟨x0, x1, x2, x3⟩ := BX3.out.four
      obtain ⟨y0, y1, y2, y3, y4, y5⟩ := BY3.out.six
      go_wp2_with fail
      refine (H1 _).out.mono ?_
      rintro e w4 ⟨rfl, hb⟩
      have BX4 := Lib.hid (BX3.out.below hb)
      have BY4 := Lib.hid (BY3.out.below hb)
      have B4 := Lib.hid (Below.trans' B3.out hb)
      clear hb x0 x1 x2 x3 y0 y1 y2 y3 y4 y5 BX3 BY3 B3
      obtain ⟨x0, x1, x2, x3⟩ := BX4.out.four
      obtain ⟨y0, y1, y2, y3, y4, y5⟩ := BY4.out.six
      go_wp2_with fail
      refine (H2 _).out.mono ?_
      rintro e w5 ⟨rfl, hb⟩
      have BX5 := Lib.hid (BX4.out.below hb)
      have BY5 := Lib.hid (BY4.out.below hb)
      have B5 := Lib.hid (Below.trans' B4.out hb)
      clear hb x0 x1 x2 x3 y0 y1 y2 y3 y4 y5 BX4 BY4 B4
      obtain ⟨x0, x1, x2, x3⟩ := BX5.out.four
      obtain ⟨y0, y1, y2, y3, y4, y5⟩ := BY5.out.six
      go_wp2_with fail
      refine (H3 _).out.mono ?_
      rintro e w6 ⟨rfl, hb⟩
      have BX6 := Lib.hid (BX5.out.below hb)
      have BY6 := Lib.hid (BY5.out.below hb)
      have B6 := Lib.hid (Below.trans' B5.out hb)
      clear hb x0 x1 x2 x3 y0 y1 y2 y3 y4 y5 BX5 BY5 B5
      obtain ⟨x0, x1, x2, x3⟩ := BX6.out.four
      obtain ⟨y0, y1, y2, y3, y4, y5⟩ := BY6.out.six
      go_wp2_with fail
      refine (H4 _).out.mono ?_
      rintro e w7 ⟨rfl, hb⟩
      have BX7 := Lib.hid (BX6.out.below hb)
      have BY7 := Lib.hid (BY6.out.below hb)
      have B7 := Lib.hid (Below.trans' B6.out hb)
      clear hb x0 x1 x2 x3 y0 y1 y2 y3 y4 y5 BX6 BY6 B6
      obtain ⟨x0, x1, x2, x3⟩ := BX7.out.four
      obtain ⟨y0, y1, y2, y3, y4, y5⟩ := BY7.out.six
      go_wp2_with fail
      refine (HF2 _).out.mono ?_
      rintro e w8 ⟨rfl, hb⟩
      have BX8 := Lib.hid (BX7.out.below hb)
      have BY8 := Lib.hid (BY7.out.below hb)
      have B8 := Lib.hid (Below.trans' B7.out hb)
      clear hb x0 x1 x2 x3 y0 y1 y2 y3 y4 y5 BX7 BY7 B7
      obtain ⟨x0, x1, x2, x3⟩ := BX8.out.four
      obtain ⟨y0, y1, y2, y3, y4, y5⟩ := BY8.out.six
      by_cases hc : n < n2
      · rw [if_pos hc] at hans
        go_wp2
        go_ret2
        exact ⟨by rw [hans.out]; rfl, B8.out⟩
      · rw [if_neg hc] at hans
        go_wp2
        go_ret2
        exact ⟨by rw [hans.out]; rfl, B8.out⟩
    · have hans : Hid (btAns t b = .tuple #[.string ⟨#[]⟩, .bool false]) := if_neg fun h => h2 h.2
      rw [h1] at HT
      rw [show billOk b = false by simpa using h2] at HB
      unfold aggTariff aggBill at *
      go_enter Tryd.func4, Tryd.ntmps4
      go_wp2_with fail
      have by_ := Box.new (w.alloc (.cells #[.int .i64 t.search, .int .i64 t.page, .int .i64 t.free, .int .i64 t.limit] 28)) #[.int .i64 b.id, .int .i64 b.hours, .int .i64 b.pages, .bool b.poor, .bool b.pub, .int .i64 b.paid] 30
      rw [World.size_alloc] at by_
      refine (HT _).out.mono ?_
      rintro e w1 ⟨rfl, hb1⟩
      obtain ⟨y0, y1, y2, y3, y4, y5⟩ := (by_.below hb1).six
      have B1 := Lib.hid (Below.trans' (a := w) (((Below.refl _ _).alloc (Nat.le_refl _) _).alloc (by simp) _) hb1)
      clear hb1 by_
      go_wp2_with fail
      refine (HB _).out.mono ?_
      rintro e w2 ⟨rfl, hb2⟩
      have B2 := Lib.hid (Below.trans' B1.out hb2)
      clear hb2
      go_wp2
      go_ret2
      exact ⟨by rw [hans.out]; rfl, B2.out⟩
  · have hans : Hid (btAns t b = .tuple #[.string ⟨#[]⟩, .bool false]) := if_neg fun h => h1 h.1
    rw [show tarOk t = false by simpa using h1] at HT
    unfold aggTariff aggBill at *
    go_enter Tryd.func4, Tryd.ntmps4
    go_wp2_with fail
    refine (HT _).out.mono ?_
    rintro e w1 ⟨rfl, hb1⟩
    have B1 := Lib.hid (Below.trans' (a := w) (((Below.refl _ _).alloc (Nat.le_refl _) _).alloc (by simp) _) hb1)
    clear hb1
    go_wp2
    go_ret2
    exact ⟨by rw [hans.out]; rfl, B1.out⟩

set_option maxHeartbeats 1600000 in
theorem implBillText_any (t : Tariff) (b : Bill) (w : World) (hT : TabP w) : Calls Tryd.prog 7 #[aggTariff t, aggBill b] w fun e w' => e = .returned (btAns t b) ∧ Below w.heap.size w w' := by
  have HT := fun W => Lib.hid (implIsTariff_any t W)
  have HB := fun W => Lib.hid (isBill_any b W)
  have HTab := Lib.hid hT
  clear hT
  by_cases h1 : tarOk t = true
  · by_cases h2 : billOk b = true
    · have hn := fee_bd (FeeIn.of h1 h2)
      have hid := (billOk_true h2).1
      have hf2 : FeeIn t (bill2 b) := ⟨h1, (billOk_true h2).2.1, (billOk_true h2).2.2.1⟩
      have hn2 := fee_bd hf2
      have HF := fun W => Lib.hid (fee_any t b W (FeeIn.of h1 h2))
      have HF2 := fun W => Lib.hid (fee_any t (bill2 b) W hf2)
      have hans : Hid (btAns t b = .tuple #[.string (if feeI t b < feeI t (bill2 b) then btT b.id (feeI t b) ++ btR else btT b.id (feeI t b)), .bool true]) := if_pos ⟨h1, h2⟩
      rw [h1] at HT
      rw [h2] at HB
      clear h1 h2 hf2
      generalize feeI t (bill2 b) = n2 at HF2 hans hn2
      generalize feeI t b = n at HF hans hn
      obtain ⟨m, hm⟩ : ∃ m : Nat, n % 100 = (m : Int) := ⟨(n % 100).toNat, by omega⟩
      have hm9 : m < 100 := by omega
      have H1 := fun W k => Lib.hid (decimal_any b.id (by unfold I64; omega) W k)
      have H2 := fun W k => Lib.hid (decimal_any (n / 100) (by unfold I64; omega) W k)
      have H3 : ∀ W, Hid (Calls Tryd.prog 16 #[.int .i64 (n % 100), .int .i64 2] W fun e w' => e = .returned (.string (padT (n % 100))) ∧ W = w') := fun W => by rw [hm]; exact padded_any m hm9 W
      have z1 := numT_size b.id (by unfold I64; omega)
      have z2 := numT_size (n / 100) (by unfold I64; omega)
      have z3 : (padT (n % 100)).size = 2 := by rw [hm]; exact pad_size m hm9
      unfold btT at hans
      generalize numT b.id = s1 at H1 z1 hans
      generalize numT (n / 100) = s2 at H2 z2 hans
      generalize padT (n % 100) = s3 at H3 z3 hans
      clear hm hm9
      unfold btR at hans
      unfold bill2 at HF2
      unfold aggTariff aggBill at *
      go_enter Tryd.func7, Tryd.ntmps7
      go_wp2_with fail
      have bx := (Box.new w #[.int .i64 t.search, .int .i64 t.page, .int .i64 t.free, .int .i64 t.limit] 28).below ((Below.refl _ _).alloc (Nat.le_refl _) (.cells #[.int .i64 b.id, .int .i64 b.hours, .int .i64 b.pages, .bool b.poor, .bool b.pub, .int .i64 b.paid] 30))
      have by_ := Box.new (w.alloc (.cells #[.int .i64 t.search, .int .i64 t.page, .int .i64 t.free, .int .i64 t.limit] 28)) #[.int .i64 b.id, .int .i64 b.hours, .int .i64 b.pages, .bool b.poor, .bool b.pub, .int .i64 b.paid] 30
      rw [World.size_alloc] at by_
      refine (HT _).out.mono ?_
      rintro e w1 ⟨rfl, hb1⟩
      have BX1 := Lib.hid (bx.below hb1)
      have BY1 := Lib.hid (by_.below hb1)
      have B1 := Lib.hid (Below.trans' (a := w) (((Below.refl _ _).alloc (Nat.le_refl _) _).alloc (by simp) _) hb1)
      clear hb1 bx by_
      obtain ⟨x0, x1, x2, x3⟩ := BX1.out.four
      obtain ⟨y0, y1, y2, y3, y4, y5⟩ := BY1.out.six
      go_wp2_with fail
      refine (HB _).out.mono ?_
      rintro e w2 ⟨rfl, hb⟩
      have BX2 := Lib.hid (BX1.out.below hb)
      have BY2 := Lib.hid (BY1.out.below hb)
      have B2 := Lib.hid (Below.trans' B1.out hb)
      clear hb x0 x1 x2 x3 y0 y1 y2 y3 y4 y5 BX1 BY1 B1
      obtain ⟨x0, x1, x2, x3⟩ := BX2.out.four
      obtain ⟨y0, y1, y2, y3, y4, y5⟩ := BY2.out.six
      go_wp2_with fail
      refine (HF _).out.mono ?_
      rintro e w3 ⟨rfl, hb⟩
      have BX3 := Lib.hid (BX2.out.below hb)
      have BY3 := Lib.hid (BY2.out.below hb)
      have B3 := Lib.hid (Below.trans' B2.out hb)
      clear hb x0 x1 x2 x3 y0 y1 y2 y3 y4 y5 BX2 BY2 B2
      obtain ⟨x0, x1, x2, x3⟩ := BX3.out.four
      obtain ⟨y0, y1, y2, y3, y4, y5⟩ := BY3.out.six
      go_wp2_with fail
      refine (H1 _ (HTab.out.below B3.out)).out.mono ?_
      rintro e w4 ⟨rfl, hb⟩
      have BX4 := Lib.hid (BX3.out.below hb)
      have BY4 := Lib.hid (BY3.out.below hb)
      have B4 := Lib.hid (Below.trans' B3.out hb)
      clear hb x0 x1 x2 x3 y0 y1 y2 y3 y4 y5 BX3 BY3 B3
      obtain ⟨x0, x1, x2, x3⟩ := BX4.out.four
      obtain ⟨y0, y1, y2, y3, y4, y5⟩ := BY4.out.six
      go_wp2_with fail
      refine (H2 _ (HTab.out.below B4.out)).out.mono ?_
      rintro e w5 ⟨rfl, hb⟩
      have BX5 := Lib.hid (BX4.out.below hb)
      have BY5 := Lib.hid (BY4.out.below hb)
      have B5 := Lib.hid (Below.trans' B4.out hb)
      clear hb x0 x1 x2 x3 y0 y1 y2 y3 y4 y5 BX4 BY4 B4
      obtain ⟨x0, x1, x2, x3⟩ := BX5.out.four
      obtain ⟨y0, y1, y2, y3, y4, y5⟩ := BY5.out.six
      go_wp2_with fail
      refine (H3 _).out.mono ?_
      rintro e w6 ⟨rfl, rfl⟩
      go_wp2_with fail
      refine (HF2 _).out.mono ?_
      rintro e w8 ⟨rfl, hb⟩
      have BX8 := Lib.hid (BX5.out.below hb)
      have BY8 := Lib.hid (BY5.out.below hb)
      have B8 := Lib.hid (Below.trans' B5.out hb)
      clear hb x0 x1 x2 x3 y0 y1 y2 y3 y4 y5 BX5 BY5 B5
      obtain ⟨x0, x1, x2, x3⟩ := BX8.out.four
      obtain ⟨y0, y1, y2, y3, y4, y5⟩ := BY8.out.six
      by_cases hc : n < n2
      · rw [if_pos hc] at hans
        go_wp2
        go_ret2
        exact ⟨by rw [hans.out]; rfl, B8.out⟩
      · rw [if_neg hc] at hans
        go_wp2
        go_ret2
        exact ⟨by rw [hans.out]; rfl, B8.out⟩
    · have hans : Hid (btAns t b = .tuple #[.string ⟨#[]⟩, .bool false]) := if_neg fun h => h2 h.2
      rw [h1] at HT
      rw [show billOk b = false by simpa using h2] at HB
      unfold aggTariff aggBill at *
      go_enter Tryd.func7, Tryd.ntmps7
      go_wp2_with fail
      have by_ := Box.new (w.alloc (.cells #[.int .i64 t.search, .int .i64 t.page, .int .i64 t.free, .int .i64 t.limit] 28)) #[.int .i64 b.id, .int .i64 b.hours, .int .i64 b.pages, .bool b.poor, .bool b.pub, .int .i64 b.paid] 30
      rw [World.size_alloc] at by_
      refine (HT _).out.mono ?_
      rintro e w1 ⟨rfl, hb1⟩
      obtain ⟨y0, y1, y2, y3, y4, y5⟩ := (by_.below hb1).six
      have B1 := Lib.hid (Below.trans' (a := w) (((Below.refl _ _).alloc (Nat.le_refl _) _).alloc (by simp) _) hb1)
      clear hb1 by_
      go_wp2_with fail
      refine (HB _).out.mono ?_
      rintro e w2 ⟨rfl, hb2⟩
      have B2 := Lib.hid (Below.trans' B1.out hb2)
      clear hb2
      go_wp2
      go_ret2
      exact ⟨by rw [hans.out]; rfl, B2.out⟩
  · have hans : Hid (btAns t b = .tuple #[.string ⟨#[]⟩, .bool false]) := if_neg fun h => h1 h.1
    rw [show tarOk t = false by simpa using h1] at HT
    unfold aggTariff aggBill at *
    go_enter Tryd.func7, Tryd.ntmps7
    go_wp2_with fail
    refine (HT _).out.mono ?_
    rintro e w1 ⟨rfl, hb1⟩
    have B1 := Lib.hid (Below.trans' (a := w) (((Below.refl _ _).alloc (Nat.le_refl _) _).alloc (by simp) _) hb1)
    clear hb1
    go_wp2
    go_ret2
    exact ⟨by rw [hans.out]; rfl, B1.out⟩

end Go.Proofs.YtkocblkodhfjiaaDoor
