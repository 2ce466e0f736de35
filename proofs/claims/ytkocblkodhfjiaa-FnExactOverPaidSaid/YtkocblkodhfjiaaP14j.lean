/-
  OverPaid and CheaperTariff by the reference. Written by mk14h2.py.
  Conditions: those written at each theorem.
-/
import Derived.Test.YtkocblkodhfjiaaP14h
import Derived.Deep.RegionHeld3
namespace Go.Proofs.Ytkocblkodhfjiaa
open Go.RowKit Go.BigFrame
set_option maxRecDepth 100000

set_option maxHeartbeats 1000000 in
theorem specCheaperTariff_any (a b : Tariff) (l : List Bill) (A : Option Addr) (c : Nat) (hl : l.length ≤ 1048576) (w : World) (hr : Rd w 6 A l.length (cellsBill l)) :
    Calls Try.prog 25 #[aggTariff a, aggTariff b, .slice A l.length c] w fun e w' => e = .returned (ctAns a b l) ∧ Below w.heap.size w w' := by
  have HT := fun x W => Lib.hid (l14Tariff_any x W)
  have HA := fun W h => Lib.hid (l14Good_any l A c (by omega) W h)
  have X0 := Lib.hid ((BXT.new w #[.int .i64 a.search, .int .i64 a.page, .int .i64 a.free, .int .i64 a.limit] 25).alloc (.cells #[.int .i64 b.search, .int .i64 b.page, .int .i64 b.free, .int .i64 b.limit] 25))
  have y0 := BXT.new (w.alloc (.cells #[.int .i64 a.search, .int .i64 a.page, .int .i64 a.free, .int .i64 a.limit] 25)) #[.int .i64 b.search, .int .i64 b.page, .int .i64 b.free, .int .i64 b.limit] 25
  rw [World.size_alloc] at y0
  have Y0 := Lib.hid y0
  have hb0 : Below w.heap.size w ((w.alloc (.cells #[.int .i64 a.search, .int .i64 a.page, .int .i64 a.free, .int .i64 a.limit] 25)).alloc (.cells #[.int .i64 b.search, .int .i64 b.page, .int .i64 b.free, .int .i64 b.limit] 25)) := ((Below.refl _ _).alloc (Nat.le_refl _) _).alloc (by simp) _
  have B0 := Lib.hid hb0
  have HR := Lib.hid hr
  clear hr hb0 y0
  unfold aggTariff at *
  by_cases g1 : tarOk a = true
  · by_cases g2 : tarOk b = true
    · by_cases g3 : areB l = true
      · have e1 : Hid (ctOk a b l = true) := by show _ = _; rw [ctOk, g1, g2, g3]; rfl
        obtain ⟨hbo, hb10⟩ := bills_of g3
        have HBO := Lib.hid hbo
        clear hbo
        go_enter Try.func25, Try.ntmps25
        go_wp2_with fail
        refine (HT a _).out.mono ?_
        rintro e w1 ⟨rfl, hb1⟩
        rw [g1]
        have X1 := Lib.hid (X0.out.below hb1)
        have Y1 := Lib.hid (Y0.out.below hb1)
        have B1 := Lib.hid (Below.transB B0.out (Nat.le_refl _) hb1)
        clear hb1 X0 Y0 B0
        obtain ⟨y0, y1, y2, y3⟩ := Y1.out.four
        go_wp2_with fail
        refine (HT b _).out.mono ?_
        rintro e w2 ⟨rfl, hb2⟩
        clear y0 y1 y2 y3
        rw [g2]
        have X2 := Lib.hid (X1.out.below hb2)
        have Y2 := Lib.hid (Y1.out.below hb2)
        have B2 := Lib.hid (Below.transB B1.out (Nat.le_refl _) hb2)
        clear hb2 X1 Y1 B1
        go_wp2_with fail
        refine (HA _ (HR.out.below B2.out)).out.mono ?_
        rintro e w3 ⟨rfl, hb3⟩
        rw [g3]
        have X3 := Lib.hid (X2.out.below hb3)
        have Y3 := Lib.hid (Y2.out.below hb3)
        have B3 := Lib.hid (Below.transB B2.out (Nat.le_refl _) hb3)
        clear hb3 X2 Y2 B2
        go_wp2_with fail
        go_loopw [8, 9, 10] (fun v8 v9 v10 wr => ∃ (k : Nat) (x y : Int), k ≤ l.length ∧ v10 = .int .i64 k ∧ v8 = .int .i64 x ∧ v9 = .int .i64 y ∧ (0 ≤ x ∧ x ≤ 1000000 * k) ∧ (0 ≤ y ∧ y ≤ 1000000 * k) ∧ Below w3.heap.size w3 wr ∧ Hid (feeSum a l = x + feeSum a (l.drop k)) ∧ Hid (feeSum b l = y + feeSum b (l.drop k))) (fun _ _ v10 _ => l.length - (intOf v10).toNat)
        case atStart => exact ⟨0, 0, 0, Nat.zero_le _, rfl, rfl, rfl, by omega, by omega, Below.refl _ _, by show _ = _; simp, by show _ = _; simp⟩
        case round =>
          obtain ⟨k, x, y, hk, rfl, rfl, rfl, hx, hy, hb, M, N⟩ := hrel
          by_cases hlt : k < l.length
          · have hlt' : ((k : Int) < (l.length : Int)) := by omega
            obtain ⟨gb, go, rfl, hgb, hcell⟩ := (HR.out.below (Below.transB B3.out (Nat.le_refl _) hb)).2 (by omega)
            obtain ⟨h0, h1, h2, h3, h4, h5⟩ := cellsBill_at hcell hlt
            clear hcell
            have hok := HBO.out k hlt
            have hia := FeeIn.of g1 hok
            have hib := FeeIn.of g2 hok
            have hpd := (billOk_true hok).2.2.2
            have hid := (billOk_true hok).1
            have M2 : Hid (feeSum a l = (x + feeI a l[k]) + feeSum a (l.drop (k + 1))) := sum_cons (f := feeI a) (s := feeSum a) (fun _ _ => rfl) hlt M.out
            have N2 : Hid (feeSum b l = (y + feeI b l[k]) + feeSum b (l.drop (k + 1))) := sum_cons (f := feeI b) (s := feeSum b) (fun _ _ => rfl) hlt N.out
            have HB := Lib.hid hb
            have HX := Lib.hid (X3.out.below hb).box
            have HZ := Lib.hid (Y3.out.below hb).box
            have HF := fun (x : Tariff) (hx : FeeIn x l[k]) W => Lib.hid (l14Fee_any x l[k] W hx)
            unfold aggTariff aggBill at HF
            have hfa := fee_bd hia
            have hfb := fee_bd hib
            have e2 : IntKind.i64.wrap (x + feeI a l[k]) = x + feeI a l[k] := IntWalk.i64_in _ (by omega)
            have e3 : IntKind.i64.wrap (y + feeI b l[k]) = y + feeI b l[k] := IntWalk.i64_in _ (by omega)
            have hs2 : 0 ≤ x + feeI a l[k] ∧ x + feeI a l[k] ≤ 1000000 * ((k + 1 : Nat) : Int) := by omega
            have hs3 : 0 ≤ y + feeI b l[k] ∧ y + feeI b l[k] ≤ 1000000 * ((k + 1 : Nat) : Int) := by omega
            have HS2 := Lib.hid hs2
            have HS3 := Lib.hid hs3
            clear M N hb hs2 hs3
            have a0 := HX.out.G 0 _ rfl
            have a1 := HX.out.G 1 _ rfl
            have a2 := HX.out.G 2 _ rfl
            have a3 := HX.out.G 3 _ rfl
            have q0 := cellG (w := wr) hgb h0
            have q1 := cellG (w := wr) hgb h1
            have q2 := cellG (w := wr) hgb h2
            have q3 := cellG (w := wr) hgb h3
            have q4 := cellG (w := wr) hgb h4
            have q5 := cellG (w := wr) hgb h5
            go_wp2_with fail
            refine wp_region_grow (by kernel_rfl) (by kernel_rfl) ?_
            repeat (go_big_quiet_step (first | (go_at_call 44; exact quietG (HF _ hia _).out)))
            refine wpQuiet_endG ?_
            intro w4 hb4
            have hgb4 := Nat.lt_of_lt_of_le hgb hb4.size
            have HB4 := Lib.hid (Below.transB HB.out (Nat.le_refl _) hb4)
            have HZ4 := Lib.hid (HZ.out.below hb4)
            have k0 := cellG (w := w4) hgb4 ((hb4.cell (p := ⟨gb, go + k * 6, none⟩) hgb).trans h0)
            have k1 := cellG (w := w4) hgb4 ((hb4.cell (p := ⟨gb, go + k * 6 + 1, none⟩) hgb).trans h1)
            have k2 := cellG (w := w4) hgb4 ((hb4.cell (p := ⟨gb, go + k * 6 + 2, none⟩) hgb).trans h2)
            have k3 := cellG (w := w4) hgb4 ((hb4.cell (p := ⟨gb, go + k * 6 + 3, none⟩) hgb).trans h3)
            have k4 := cellG (w := w4) hgb4 ((hb4.cell (p := ⟨gb, go + k * 6 + 4, none⟩) hgb).trans h4)
            have k5 := cellG (w := w4) hgb4 ((hb4.cell (p := ⟨gb, go + k * 6 + 5, none⟩) hgb).trans h5)
            have b0 := HZ4.out.G 0 _ rfl
            have b1 := HZ4.out.G 1 _ rfl
            have b2 := HZ4.out.G 2 _ rfl
            have b3 := HZ4.out.G 3 _ rfl
            clear hb4 HB HX HZ a0 a1 a2 a3 q0 q1 q2 q3 q4 q5 h0 h1 h2 h3 h4 h5
            go_wp2_with fail
            refine wp_region_grow (by kernel_rfl) (by kernel_rfl) ?_
            repeat (go_big_quiet_step (first | (go_at_call 44; exact quietG (HF _ hib _).out)))
            refine wpQuiet_endG ?_
            intro w5 hb5
            have HB5 := Lib.hid (Below.transB HB4.out (Nat.le_refl _) hb5)
            clear hb5 HB4 HZ4 b0 b1 b2 b3 k0 k1 k2 k3 k4 k5
            go_wp2
            go_roundw
            case rel => exact ⟨k + 1, _, _, by omega, by go_num, rfl, rfl, HS2.out, HS3.out, HB5.out, M2, N2⟩
            case measure => simp [intOf]; omega
          · have hD : x < y ∨ y < x ∨ x = y := by omega
            have HB := Lib.hid (Below.transB B3.out (Nat.le_refl _) hb)
            have HM := Lib.hid (show feeSum a l = x ∧ feeSum b l = y by rw [M.out, N.out, List.drop_of_length_le (by omega)]; simp [feeSum])
            clear M N hb
            rcases hD with hD | hD | hD
            · have e2 : Hid (ctAns a b l = .tuple #[.int .i64 1, .bool true]) := by
                show _ = _; rw [ctAns, if_pos e1.out, ctNum, if_pos (by have := HM.out; omega)]
              clear HM
              go_wp2
              go_ret2
              exact ⟨by rw [e2.out]; rfl, HB.out⟩
            · have e2 : Hid (ctAns a b l = .tuple #[.int .i64 2, .bool true]) := by
                show _ = _; rw [ctAns, if_pos e1.out, ctNum, if_neg (by have := HM.out; omega), if_pos (by have := HM.out; omega)]
              clear HM
              go_wp2
              go_ret2
              exact ⟨by rw [e2.out]; rfl, HB.out⟩
            · have e2 : Hid (ctAns a b l = .tuple #[.int .i64 0, .bool true]) := by
                show _ = _; rw [ctAns, if_pos e1.out, ctNum, if_neg (by have := HM.out; omega), if_neg (by have := HM.out; omega)]
              subst hD
              clear HM
              go_wp2
              go_ret2
              exact ⟨by rw [e2.out]; rfl, HB.out⟩
      · have e1 : Hid (ctAns a b l = .tuple #[.int .i64 0, .bool false]) := if_neg (by rw [ctOk]; simp_all)
        go_enter Try.func25, Try.ntmps25
        go_wp2_with fail
        refine (HT a _).out.mono ?_
        rintro e w1 ⟨rfl, hb1⟩
        rw [g1]
        have X1 := Lib.hid (X0.out.below hb1)
        have Y1 := Lib.hid (Y0.out.below hb1)
        have B1 := Lib.hid (Below.transB B0.out (Nat.le_refl _) hb1)
        clear hb1 X0 Y0 B0
        obtain ⟨y0, y1, y2, y3⟩ := Y1.out.four
        go_wp2_with fail
        refine (HT b _).out.mono ?_
        rintro e w2 ⟨rfl, hb2⟩
        clear y0 y1 y2 y3
        rw [g2]
        have X2 := Lib.hid (X1.out.below hb2)
        have Y2 := Lib.hid (Y1.out.below hb2)
        have B2 := Lib.hid (Below.transB B1.out (Nat.le_refl _) hb2)
        clear hb2 X1 Y1 B1
        go_wp2_with fail
        refine (HA _ (HR.out.below B2.out)).out.mono ?_
        rintro e w3 ⟨rfl, hb3⟩
        rw [show areB l = false by simpa using g3]
        have X3 := Lib.hid (X2.out.below hb3)
        have Y3 := Lib.hid (Y2.out.below hb3)
        have B3 := Lib.hid (Below.transB B2.out (Nat.le_refl _) hb3)
        clear hb3 X2 Y2 B2
        go_wp2
        go_ret2
        exact ⟨by rw [e1.out]; rfl, B3.out⟩
    · have e1 : Hid (ctAns a b l = .tuple #[.int .i64 0, .bool false]) := if_neg (by rw [ctOk]; simp_all)
      go_enter Try.func25, Try.ntmps25
      go_wp2_with fail
      refine (HT a _).out.mono ?_
      rintro e w1 ⟨rfl, hb1⟩
      rw [g1]
      have X1 := Lib.hid (X0.out.below hb1)
      have Y1 := Lib.hid (Y0.out.below hb1)
      have B1 := Lib.hid (Below.transB B0.out (Nat.le_refl _) hb1)
      clear hb1 X0 Y0 B0
      obtain ⟨y0, y1, y2, y3⟩ := Y1.out.four
      go_wp2_with fail
      refine (HT b _).out.mono ?_
      rintro e w2 ⟨rfl, hb2⟩
      clear y0 y1 y2 y3
      rw [show tarOk b = false by simpa using g2]
      have X2 := Lib.hid (X1.out.below hb2)
      have Y2 := Lib.hid (Y1.out.below hb2)
      have B2 := Lib.hid (Below.transB B1.out (Nat.le_refl _) hb2)
      clear hb2 X1 Y1 B1
      go_wp2
      go_ret2
      exact ⟨by rw [e1.out]; rfl, B2.out⟩
  · have e1 : Hid (ctAns a b l = .tuple #[.int .i64 0, .bool false]) := if_neg (by rw [ctOk]; simp_all)
    go_enter Try.func25, Try.ntmps25
    go_wp2_with fail
    refine (HT a _).out.mono ?_
    rintro e w1 ⟨rfl, hb1⟩
    rw [show tarOk a = false by simpa using g1]
    have X1 := Lib.hid (X0.out.below hb1)
    have Y1 := Lib.hid (Y0.out.below hb1)
    have B1 := Lib.hid (Below.transB B0.out (Nat.le_refl _) hb1)
    clear hb1 X0 Y0 B0
    go_wp2
    go_ret2
    exact ⟨by rw [e1.out]; rfl, B1.out⟩

set_option maxHeartbeats 1000000 in
theorem specOverPaid_any (t : Tariff) (l : List Bill) (A : Option Addr) (c : Nat) (hl : l.length ≤ 1048576) (w : World) (hr : Rd w 6 A l.length (cellsBill l)) :
    Calls Try.prog 36 #[aggTariff t, .slice A l.length c] w fun e w' => ∃ v, e = .returned (.tuple #[v, .int .i64 (opSum t l), .bool (ofOk t l)]) ∧ SlI w.heap.size w' (opIds t l) v ∧ Below w.heap.size w w' := by
  obtain ⟨i0, hi, hz0, hz1, hz2⟩ := info_parts infoI
  have HT := fun W => Lib.hid (l14Tariff_any t W)
  have HA := fun W h => Lib.hid (l14Good_any l A c (by omega) W h)
  have X0 := Lib.hid ((BXT.new w #[.int .i64 t.search, .int .i64 t.page, .int .i64 t.free, .int .i64 t.limit] 25).alloc (.cells #[] 3))
  have e0 := own_empty (B := w.heap.size) (w.alloc (.cells #[.int .i64 t.search, .int .i64 t.page, .int .i64 t.free, .int .i64 t.limit] 25)) 3 1 (by simp)
  rw [World.size_alloc] at e0
  have E0 := Lib.hid e0
  have hb0 : Below w.heap.size w ((w.alloc (.cells #[.int .i64 t.search, .int .i64 t.page, .int .i64 t.free, .int .i64 t.limit] 25)).alloc (.cells #[] 3)) := ((Below.refl _ _).alloc (Nat.le_refl _) _).alloc (by simp) _
  have B0 := Lib.hid hb0
  have HR := Lib.hid hr
  clear hr hb0 e0
  unfold aggTariff at *
  by_cases h1 : tarOk t = true
  · by_cases h2 : areB l = true
    · have e1 : Hid (ofOk t l = true) := by show _ = _; rw [ofOk, h1, h2]; rfl
      have h1' := h1
      obtain ⟨hbo, hb10⟩ := bills_of h2
      have HBO := Lib.hid hbo
      clear hbo
      go_enter Try.func36, Try.ntmps36
      go_wp2_with fail
      refine (HT _).out.mono ?_
      rintro e w1 ⟨rfl, hb1⟩
      rw [h1]
      have X1 := Lib.hid (X0.out.below hb1)
      have E1 := Lib.hid (own_below E0.out hb1)
      have B1 := Lib.hid (Below.transB B0.out (Nat.le_refl _) hb1)
      clear hb1 X0 B0 E0
      go_wp2_with fail
      refine (HA _ (HR.out.below B1.out)).out.mono ?_
      rintro e w2 ⟨rfl, hb2⟩
      rw [h2]
      have X2 := Lib.hid (X1.out.below hb2)
      have E2 := Lib.hid (own_below E1.out hb2)
      have B2 := Lib.hid (Below.transB B1.out (Nat.le_refl _) hb2)
      clear hb2 X1 B1 E1
      go_wp2_with fail
      go_loopw [7, 8, 9] (fun v7 v8 v9 wr => ∃ (k : Nat) (acc : List Int) (s : Int) (A' : Option Addr) (c' : Nat), k ≤ l.length ∧ acc.length ≤ k ∧ v9 = .int .i64 k ∧ v7 = .slice A' acc.length c' ∧ v8 = .int .i64 s ∧ (0 ≤ s ∧ s ≤ 1000000 * k) ∧ wr.ownsRow w.heap.size 3 1 (.slice A' acc.length c') acc.length (cellsI acc) ∧ BXT 25 wr w.heap.size [.int .i64 t.search, .int .i64 t.page, .int .i64 t.free, .int .i64 t.limit] ∧ Below w.heap.size w wr ∧ Hid (overIds t l = acc ++ overIds t (l.drop k)) ∧ Hid (overSum t l = s + overSum t (l.drop k))) (fun _ _ v9 _ => l.length - (intOf v9).toNat)
      case atStart => exact ⟨0, [], 0, some ⟨w.heap.size + 1, 0, none⟩, 0, Nat.zero_le _, Nat.zero_le _, rfl, rfl, rfl, by omega, E2.out, X2.out, B2.out, by show _ = _; rfl, by show _ = _; simp⟩
      case round =>
        obtain ⟨k, acc, s, A', c', hk, hak, rfl, rfl, rfl, hs, hown, hX, hb, M, M5⟩ := hrel
        by_cases hlt : k < l.length
        · have hlt' : ((k : Int) < (l.length : Int)) := by omega
          obtain ⟨gb, go, rfl, hgb, hcell⟩ := (HR.out.below hb).2 (by omega)
          obtain ⟨h0, h1, h2, h3, h4, h5⟩ := cellsBill_at hcell hlt
          clear hcell
          have hok := HBO.out k hlt
          have hin := FeeIn.of h1' hok
          have hpd := (billOk_true hok).2.2.2
          have hid := (billOk_true hok).1
          have hsz := hb.size
          have M1 := M.out
          rw [List.drop_eq_getElem_cons hlt, overIds] at M1
          have M6 := M5.out
          rw [List.drop_eq_getElem_cons hlt, overSum] at M6
          have HF := fun W => Lib.hid (l14Fee_any t l[k] W hin)
          unfold aggTariff aggBill at HF
          have hfb := fee_bd hin
          have e2 : IntKind.i64.wrap (l[k].paid - feeI t l[k]) = l[k].paid - feeI t l[k] := IntWalk.i64_in _ (by omega)
          have hmo : Hid (moreI t l[k] = l[k].paid - feeI t l[k]) := rfl
          rw [hmo.out] at M1 M6
          have HX := Lib.hid hX
          have HO := Lib.hid hown
          have HB := Lib.hid hb
          clear M M5 hown hX hb
          have a0 := HX.out.box.G 0 _ rfl
          have a1 := HX.out.box.G 1 _ rfl
          have a2 := HX.out.box.G 2 _ rfl
          have a3 := HX.out.box.G 3 _ rfl
          have q0 := cellG (w := wr) hgb h0
          have q1 := cellG (w := wr) hgb h1
          have q2 := cellG (w := wr) hgb h2
          have q3 := cellG (w := wr) hgb h3
          have q4 := cellG (w := wr) hgb h4
          have q5 := cellG (w := wr) hgb h5
          generalize feeI t l[k] = F at *
          by_cases hc : 0 < l[k].paid - F
          all_goals
            go_wp2_with fail
            refine wp_region_grow (by kernel_rfl) (by kernel_rfl) ?_
            repeat (go_big_quiet_step (first | (go_at_call 44; exact quietG (HF _).out)))
            refine wpQuiet_endG ?_
            intro w3 hb3
            have HO3 := Lib.hid (own_below HO.out hb3)
            have HB3 := Lib.hid (Below.transB HB.out (Nat.le_refl _) hb3)
            have hs3 : w.heap.size ≤ w3.heap.size := HB3.out.size
            have HX3 := Lib.hid (HX.out.below hb3)
            have z0 := (hb3.cell (p := ⟨gb, go + k * 6, none⟩) hgb).trans h0
            clear hb3 HO HB HX a0 a1 a2 a3 q0 q1 q2 q3 q4 q5 h0 h1 h2 h3 h4 h5
          · rw [if_pos hc] at M1 M6
            have M2 : Hid (overIds t l = (acc ++ [l[k].id]) ++ overIds t (l.drop (k + 1))) := by
              show _ = _; rw [M1]; simp only [List.append_assoc, List.singleton_append]
            have M7 : Hid (overSum t l = (s + (l[k].paid - F)) + overSum t (l.drop (k + 1))) := by
              show _ = _; rw [M6]; omega
            clear M1 M6
            go_wp2_with (at_builtin; refine wpList_push rfl _ _ 50 rfl w.heap.size 3 i0 (.int .i64 0) 1 8 Try.underlying50 hi hz0 hz1 hz2 rfl (by decide) (by decide) _ _ _ _ rfl HO3.out #[.int .i64 l[k].id] _ rfl rfl (by simp [Value.oneCell']) (by omega) hs3 ?_; intro A2 c2 w4 hown2 hg2)
            go_roundw
            case rel => exact ⟨k + 1, acc ++ [l[k].id], s + (l[k].paid - F), A2, c2, by omega, by simp; omega, by go_num, by simp, rfl, by omega, by simpa [cellsI] using hown2, HX3.out.grown hg2 (HX3.out.not_own (by decide) HO3.out), Below.row HB3.out HO3.out hg2 (Nat.le_refl _) hs3, M2, M7⟩
            case measure => simp [intOf]; omega
          · rw [if_neg (by omega)] at M1 M6
            have M2 := Lib.hid M1
            have M7 := Lib.hid M6
            clear M1 M6
            go_wp2
            go_roundw
            case rel => exact ⟨k + 1, acc, s, A', c', by omega, by omega, by go_num, rfl, rfl, by omega, HO3.out, HX3.out, HB3.out, M2, M7⟩
            case measure => simp [intOf]; omega
        · have M3 : Hid (opIds t l = acc) := by
            show _ = _; rw [opIds, if_pos e1.out, M.out, List.drop_of_length_le (by omega)]; simp [overIds]
          have M4 : Hid (opSum t l = s) := by
            show _ = _; rw [opSum, if_pos e1.out, M5.out, List.drop_of_length_le (by omega)]; simp [overSum]
          have HB := Lib.hid hb
          have HO := Lib.hid hown
          clear M M5 hb hown hX
          go_wp2
          go_ret3
          exact ⟨_, by rw [e1.out, M4.out]; rfl, ⟨A', c', by rw [M3.out]; rfl, by rw [M3.out]; exact HO.out⟩, HB.out⟩
    · have e1 : Hid (ofOk t l = false) := by
        show _ = _; rw [ofOk]; simp_all
      go_enter Try.func36, Try.ntmps36
      go_wp2_with fail
      refine (HT _).out.mono ?_
      rintro e w1 ⟨rfl, hb1⟩
      rw [h1]
      have B1 := Lib.hid (Below.transB B0.out (Nat.le_refl _) hb1)
      have hb1x := Lib.hid hb1
      clear hb1
      go_wp2_with fail
      refine (HA _ (HR.out.below B1.out)).out.mono ?_
      rintro e w2 ⟨rfl, hb2⟩
      rw [show areB l = false by simpa using h2]
      have B2 := Lib.hid (Below.transB B1.out (Nat.le_refl _) hb2)
      have hb2x := Lib.hid hb2
      clear hb2
      go_wp2
      go_ret3
      exact ⟨_, by rw [e1.out, opSum, if_neg (by rw [e1.out]; simp)]; rfl, by rw [opIds, if_neg (by rw [e1.out]; simp)]; exact ⟨_, _, rfl, own_below (own_below E0.out hb1x.out) hb2x.out⟩, B2.out⟩
  · have e1 : Hid (ofOk t l = false) := by
      show _ = _; rw [ofOk]; simp_all
    go_enter Try.func36, Try.ntmps36
    go_wp2_with fail
    refine (HT _).out.mono ?_
    rintro e w1 ⟨rfl, hb1⟩
    rw [show tarOk t = false by simpa using h1]
    have B1 := Lib.hid (Below.transB B0.out (Nat.le_refl _) hb1)
    have hb1x := Lib.hid hb1
    clear hb1
    go_wp2
    go_ret3
    exact ⟨_, by rw [e1.out, opSum, if_neg (by rw [e1.out]; simp)]; rfl, by rw [opIds, if_neg (by rw [e1.out]; simp)]; exact ⟨_, _, rfl, own_below E0.out hb1x.out⟩, B1.out⟩

end Go.Proofs.Ytkocblkodhfjiaa
