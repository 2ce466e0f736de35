/-
  OverPaid and CheaperTariff by the program. Written by mk14h2.py.
  Conditions: those written at each theorem.
-/
import Derived.Test.YtkocblkodhfjiaaP14h
import Derived.Deep.RegionHeld3
namespace Go.Proofs.Ytkocblkodhfjiaa
open Go.RowKit Go.BigFrame
set_option maxRecDepth 100000

set_option maxHeartbeats 1000000 in
theorem implOverPaid_any (t : Tariff) (l : List Bill) (A : Option Addr) (c : Nat) (hl : l.length ≤ 1048576) (w : World) (hr : Rd w 6 A l.length (cellsBill l)) :
    Calls Try.prog 37 #[aggTariff t, .slice A l.length c] w fun e w' => ∃ v, e = .returned (.tuple #[v, .int .i64 (opSum t l), .bool (ofOk t l)]) ∧ SlI w.heap.size w' (opIds t l) v ∧ Below w.heap.size w w' := by
  obtain ⟨i0, hi, hz0, hz1, hz2⟩ := info_parts infoI
  have HT := fun W => Lib.hid (implIsTariff_any t W)
  have HA := fun W h => Lib.hid (implAreBills_any l A c (by omega) W h)
  have X0 := Lib.hid (BXT.new w #[.int .i64 t.search, .int .i64 t.page, .int .i64 t.free, .int .i64 t.limit] 25)
  have hb0 : Below w.heap.size w (w.alloc (.cells #[.int .i64 t.search, .int .i64 t.page, .int .i64 t.free, .int .i64 t.limit] 25)) := (Below.refl _ _).alloc (Nat.le_refl _) _
  have B0 := Lib.hid hb0
  have HR := Lib.hid hr
  clear hr hb0
  unfold aggTariff at *
  by_cases h1 : tarOk t = true
  · by_cases h2 : areB l = true
    · have e1 : Hid (ofOk t l = true) := by show _ = _; rw [ofOk, h1, h2]; rfl
      have h1' := h1
      obtain ⟨hbo, hb10⟩ := bills_of h2
      have HBO := Lib.hid hbo
      clear hbo
      go_enter Try.func37, Try.ntmps37
      go_wp2_with fail
      refine (HT _).out.mono ?_
      rintro e w1 ⟨rfl, hb1⟩
      rw [h1]
      have X1 := Lib.hid (X0.out.below hb1)
      have B1 := Lib.hid (Below.transB B0.out (Nat.le_refl _) hb1)
      clear hb1 X0 B0
      go_wp2_with fail
      refine (HA _ (HR.out.below B1.out)).out.mono ?_
      rintro e w2 ⟨rfl, hb2⟩
      rw [h2]
      have X2 := Lib.hid (X1.out.below hb2)
      have B2 := Lib.hid (Below.transB B1.out (Nat.le_refl _) hb2)
      clear hb2 X1 B1
      go_wp2_with fail
      go_loopw [7, 8, 22] (fun v7 v8 v22 wr => ∃ (k : Nat) (acc : List Int) (s : Int) (A' : Option Addr) (c' : Nat), k ≤ l.length ∧ acc.length ≤ k ∧ v22 = .int .i64 k ∧ v7 = .slice A' acc.length c' ∧ v8 = .int .i64 s ∧ (0 ≤ s ∧ s ≤ 1000000 * k) ∧ wr.ownsRow w.heap.size 3 1 (.slice A' acc.length c') acc.length (cellsI acc) ∧ BXT 25 wr w.heap.size [.int .i64 t.search, .int .i64 t.page, .int .i64 t.free, .int .i64 t.limit] ∧ Below w.heap.size w wr ∧ Hid (overIds t l = acc ++ overIds t (l.drop k)) ∧ Hid (overSum t l = s + overSum t (l.drop k))) (fun _ _ v22 _ => l.length - (intOf v22).toNat)
      case atStart => exact ⟨0, [], 0, none, 0, Nat.zero_le _, Nat.zero_le _, rfl, rfl, rfl, by omega, World.ownsRow_nil _ _ _ _, X2.out, B2.out, by show _ = _; rfl, by show _ = _; simp⟩
      case round =>
        obtain ⟨k, acc, s, A', c', hk, hak, rfl, rfl, rfl, hs, hown, hX, hb, M, M5⟩ := hrel
        by_cases hlt : k < l.length
        · have hlt' : ((k : Int) < (l.length : Int)) := by omega
          obtain ⟨gb, go, rfl, hgb, hcell⟩ := (HR.out.below hb).2 (by omega)
          obtain ⟨h0, h1, h2, h3, h4, h5⟩ := cellsBill_at hcell hlt
          clear hcell
          have hok := HBO.out k hlt
          have hin := FeeIn.of h1' hok
          have hpd := (billOk_true hok).2.2.2
          have hid := (billOk_true hok).1
          have hsz := hb.size
          have M1 := M.out
          rw [List.drop_eq_getElem_cons hlt, overIds] at M1
          have M6 := M5.out
          rw [List.drop_eq_getElem_cons hlt, overSum] at M6
          have hb3 : Below wr.heap.size wr (wr.alloc (.cells #[.int .i64 l[k].id, .int .i64 l[k].hours, .int .i64 l[k].pages, .bool l[k].poor, .bool l[k].pub, .int .i64 l[k].paid] 32)) := (Below.refl _ _).alloc (Nat.le_refl _) _
          have HO := Lib.hid (hown.alloc (.cells #[.int .i64 l[k].id, .int .i64 l[k].hours, .int .i64 l[k].pages, .bool l[k].poor, .bool l[k].pub, .int .i64 l[k].paid] 32))
          have HB := Lib.hid (Below.transB hb (Nat.le_refl _) hb3)
          have HX := Lib.hid (hX.alloc (.cells #[.int .i64 l[k].id, .int .i64 l[k].hours, .int .i64 l[k].pages, .bool l[k].poor, .bool l[k].pub, .int .i64 l[k].paid] 32))
          have HY := Lib.hid (BXT.new wr #[.int .i64 l[k].id, .int .i64 l[k].hours, .int .i64 l[k].pages, .bool l[k].poor, .bool l[k].pub, .int .i64 l[k].paid] 32)
          have HF := fun W => Lib.hid (fee_any t l[k] W hin)
          unfold aggTariff aggBill at HF
          have hfb := fee_bd hin
          have e2 : IntKind.i64.wrap (l[k].paid - feeI t l[k]) = l[k].paid - feeI t l[k] := IntWalk.i64_in _ (by omega)
          have hmo : Hid (moreI t l[k] = l[k].paid - feeI t l[k]) := rfl
          rw [hmo.out] at M1 M6
          clear M M5 hown hX hb hb3
          have a0 := HX.out.box.G 0 _ rfl
          have a1 := HX.out.box.G 1 _ rfl
          have a2 := HX.out.box.G 2 _ rfl
          have a3 := HX.out.box.G 3 _ rfl
          have y0 := HY.out.box.G 0 _ rfl
          have y1 := HY.out.box.G 1 _ rfl
          have y2 := HY.out.box.G 2 _ rfl
          have y3 := HY.out.box.G 3 _ rfl
          have y4 := HY.out.box.G 4 _ rfl
          have y5 := HY.out.box.G 5 _ rfl
          generalize feeI t l[k] = F at *
          by_cases hc : 0 < l[k].paid - F
          all_goals
            go_wp2_with fail
            refine wp_region_grow (by kernel_rfl) (by kernel_rfl) ?_
            repeat (go_big_quiet_step (first | (go_at_call 46; exact quietG (HF _).out)))
            refine wpQuiet_endG ?_
            intro w3 hb3
            have HO3 := Lib.hid (own_below HO.out hb3)
            have HB3 := Lib.hid (Below.transB HB.out (Nat.le_refl _) hb3)
            have hs3 : w.heap.size ≤ w3.heap.size := HB3.out.size
            have HX3 := Lib.hid (HX.out.below hb3)
            obtain ⟨z0, z1, z2, z3, z4, z5⟩ := (HY.out.below hb3).six
            clear hb3 HO HB HX HY a0 a1 a2 a3 y0 y1 y2 y3 y4 y5 h0 h1 h2 h3 h4 h5
          · rw [if_pos hc] at M1 M6
            have M2 : Hid (overIds t l = (acc ++ [l[k].id]) ++ overIds t (l.drop (k + 1))) := by
              show _ = _; rw [M1]; simp only [List.append_assoc, List.singleton_append]
            have M7 : Hid (overSum t l = (s + (l[k].paid - F)) + overSum t (l.drop (k + 1))) := by
              show _ = _; rw [M6]; omega
            clear M1 M6
            go_wp2_with (at_builtin; refine wpList_push rfl _ _ 50 rfl w.heap.size 3 i0 (.int .i64 0) 1 8 Try.underlying50 hi hz0 hz1 hz2 rfl (by decide) (by decide) _ _ _ _ rfl HO3.out #[.int .i64 l[k].id] _ rfl rfl (by simp [Value.oneCell']) (by omega) hs3 ?_; intro A2 c2 w4 hown2 hg2)
            go_roundw
            case rel => exact ⟨k + 1, acc ++ [l[k].id], s + (l[k].paid - F), A2, c2, by omega, by simp; omega, by go_num, by simp, rfl, by omega, by simpa [cellsI] using hown2, HX3.out.grown hg2 (HX3.out.not_own (by decide) HO3.out), Below.row HB3.out HO3.out hg2 (Nat.le_refl _) hs3, M2, M7⟩
            case measure => simp [intOf]; omega
          · rw [if_neg (by omega)] at M1 M6
            have M2 := Lib.hid M1
            have M7 := Lib.hid M6
            clear M1 M6
            go_wp2
            go_roundw
            case rel => exact ⟨k + 1, acc, s, A', c', by omega, by omega, by go_num, rfl, rfl, by omega, HO3.out, HX3.out, HB3.out, M2, M7⟩
            case measure => simp [intOf]; omega
        · have M3 : Hid (opIds t l = acc) := by
            show _ = _; rw [opIds, if_pos e1.out, M.out, List.drop_of_length_le (by omega)]; simp [overIds]
          have M4 : Hid (opSum t l = s) := by
            show _ = _; rw [opSum, if_pos e1.out, M5.out, List.drop_of_length_le (by omega)]; simp [overSum]
          have HB := Lib.hid hb
          have HO := Lib.hid hown
          clear M M5 hb hown hX
          go_wp2
          go_ret3
          exact ⟨_, by rw [e1.out, M4.out]; rfl, ⟨A', c', by rw [M3.out]; rfl, by rw [M3.out]; exact HO.out⟩, HB.out⟩
    · have e1 : Hid (ofOk t l = false) := by
        show _ = _; rw [ofOk]; simp_all
      go_enter Try.func37, Try.ntmps37
      go_wp2_with fail
      refine (HT _).out.mono ?_
      rintro e w1 ⟨rfl, hb1⟩
      rw [h1]
      have B1 := Lib.hid (Below.transB B0.out (Nat.le_refl _) hb1)
      clear hb1
      go_wp2_with fail
      refine (HA _ (HR.out.below B1.out)).out.mono ?_
      rintro e w2 ⟨rfl, hb2⟩
      rw [show areB l = false by simpa using h2]
      have B2 := Lib.hid (Below.transB B1.out (Nat.le_refl _) hb2)
      clear hb2
      go_wp2
      go_ret3
      exact ⟨_, by rw [e1.out, opSum, if_neg (by rw [e1.out]; simp)]; rfl, by rw [opIds, if_neg (by rw [e1.out]; simp)]; exact SlI.nil _ _, B2.out⟩
  · have e1 : Hid (ofOk t l = false) := by
      show _ = _; rw [ofOk]; simp_all
    go_enter Try.func37, Try.ntmps37
    go_wp2_with fail
    refine (HT _).out.mono ?_
    rintro e w1 ⟨rfl, hb1⟩
    rw [show tarOk t = false by simpa using h1]
    have B1 := Lib.hid (Below.transB B0.out (Nat.le_refl _) hb1)
    clear hb1
    go_wp2
    go_ret3
    exact ⟨_, by rw [e1.out, opSum, if_neg (by rw [e1.out]; simp)]; rfl, by rw [opIds, if_neg (by rw [e1.out]; simp)]; exact SlI.nil _ _, B1.out⟩

set_option maxHeartbeats 1000000 in
theorem implCheaperTariff_any (a b : Tariff) (l : List Bill) (A : Option Addr) (c : Nat) (hl : l.length ≤ 1048576) (w : World) (hr : Rd w 6 A l.length (cellsBill l)) :
    Calls Try.prog 26 #[aggTariff a, aggTariff b, .slice A l.length c] w fun e w' => e = .returned (ctAns a b l) ∧ Below w.heap.size w w' := by
  have HT := fun x W => Lib.hid (implIsTariff_any x W)
  have HA := fun W h => Lib.hid (implAreBills_any l A c (by omega) W h)
  have X0 := Lib.hid ((BXT.new w #[.int .i64 a.search, .int .i64 a.page, .int .i64 a.free, .int .i64 a.limit] 25).alloc (.cells #[.int .i64 b.search, .int .i64 b.page, .int .i64 b.free, .int .i64 b.limit] 25))
  have y0 := BXT.new (w.alloc (.cells #[.int .i64 a.search, .int .i64 a.page, .int .i64 a.free, .int .i64 a.limit] 25)) #[.int .i64 b.search, .int .i64 b.page, .int .i64 b.free, .int .i64 b.limit] 25
  rw [World.size_alloc] at y0
  have Y0 := Lib.hid y0
  have hb0 : Below w.heap.size w ((w.alloc (.cells #[.int .i64 a.search, .int .i64 a.page, .int .i64 a.free, .int .i64 a.limit] 25)).alloc (.cells #[.int .i64 b.search, .int .i64 b.page, .int .i64 b.free, .int .i64 b.limit] 25)) := ((Below.refl _ _).alloc (Nat.le_refl _) _).alloc (by simp) _
  have B0 := Lib.hid hb0
  have HR := Lib.hid hr
  clear hr hb0 y0
  unfold aggTariff at *
  by_cases g1 : tarOk a = true
  · by_cases g2 : tarOk b = true
    · by_cases g3 : areB l = true
      · have e1 : Hid (ctOk a b l = true) := by show _ = _; rw [ctOk, g1, g2, g3]; rfl
        obtain ⟨hbo, hb10⟩ := bills_of g3
        have HBO := Lib.hid hbo
        clear hbo
        go_enter Try.func26, Try.ntmps26
        go_wp2_with fail
        refine (HT a _).out.mono ?_
        rintro e w1 ⟨rfl, hb1⟩
        rw [g1]
        have X1 := Lib.hid (X0.out.below hb1)
        have Y1 := Lib.hid (Y0.out.below hb1)
        have B1 := Lib.hid (Below.transB B0.out (Nat.le_refl _) hb1)
        clear hb1 X0 Y0 B0
        obtain ⟨y0, y1, y2, y3⟩ := Y1.out.four
        go_wp2_with fail
        refine (HT b _).out.mono ?_
        rintro e w2 ⟨rfl, hb2⟩
        clear y0 y1 y2 y3
        rw [g2]
        have X2 := Lib.hid (X1.out.below hb2)
        have Y2 := Lib.hid (Y1.out.below hb2)
        have B2 := Lib.hid (Below.transB B1.out (Nat.le_refl _) hb2)
        clear hb2 X1 Y1 B1
        go_wp2_with fail
        refine (HA _ (HR.out.below B2.out)).out.mono ?_
        rintro e w3 ⟨rfl, hb3⟩
        rw [g3]
        have X3 := Lib.hid (X2.out.below hb3)
        have Y3 := Lib.hid (Y2.out.below hb3)
        have B3 := Lib.hid (Below.transB B2.out (Nat.le_refl _) hb3)
        clear hb3 X2 Y2 B2
        go_wp2_with fail
        go_loopw [8, 26] (fun v8 v26 wr => ∃ (k : Nat) (s : Int), k ≤ l.length ∧ v26 = .int .i64 k ∧ v8 = .int .i64 s ∧ (-1000000 * k ≤ s ∧ s ≤ 1000000 * k) ∧ Below w3.heap.size w3 wr ∧ Hid (feeSum a l - feeSum b l = s + (feeSum a (l.drop k) - feeSum b (l.drop k)))) (fun _ v26 _ => l.length - (intOf v26).toNat)
        case atStart => exact ⟨0, 0, Nat.zero_le _, rfl, rfl, by omega, Below.refl _ _, by show _ = _; simp⟩
        case round =>
          obtain ⟨k, s, hk, rfl, rfl, hs, hb, M⟩ := hrel
          by_cases hlt : k < l.length
          · have hlt' : ((k : Int) < (l.length : Int)) := by omega
            obtain ⟨gb, go, rfl, hgb, hcell⟩ := (HR.out.below (Below.transB B3.out (Nat.le_refl _) hb)).2 (by omega)
            obtain ⟨h0, h1, h2, h3, h4, h5⟩ := cellsBill_at hcell hlt
            clear hcell
            have hok := HBO.out k hlt
            have hia := FeeIn.of g1 hok
            have hib := FeeIn.of g2 hok
            have hpd := (billOk_true hok).2.2.2
            have hid := (billOk_true hok).1
            have M1 := M.out
            rw [List.drop_eq_getElem_cons hlt, feeSum, feeSum] at M1
            have M2 : Hid (feeSum a l - feeSum b l = (s + (feeI a l[k] - feeI b l[k])) + (feeSum a (l.drop (k + 1)) - feeSum b (l.drop (k + 1)))) := by show _ = _; rw [M1]; omega
            have hb4 : Below wr.heap.size wr (wr.alloc (.cells #[.int .i64 l[k].id, .int .i64 l[k].hours, .int .i64 l[k].pages, .bool l[k].poor, .bool l[k].pub, .int .i64 l[k].paid] 32)) := (Below.refl _ _).alloc (Nat.le_refl _) _
            have HB := Lib.hid (Below.transB hb (Nat.le_refl _) hb4)
            have HX := Lib.hid (((X3.out.below hb).below hb4).box)
            have HZ := Lib.hid (((Y3.out.below hb).below hb4).box)
            have HY := Lib.hid (BXT.new wr #[.int .i64 l[k].id, .int .i64 l[k].hours, .int .i64 l[k].pages, .bool l[k].poor, .bool l[k].pub, .int .i64 l[k].paid] 32).box
            have HF := fun (x : Tariff) (hx : FeeIn x l[k]) W => Lib.hid (fee_any x l[k] W hx)
            unfold aggTariff aggBill at HF
            have hfa := fee_bd hia
            have hfb := fee_bd hib
            have e2 : IntKind.i64.wrap (feeI a l[k] - feeI b l[k]) = feeI a l[k] - feeI b l[k] := IntWalk.i64_in _ (by omega)
            have e3 : IntKind.i64.wrap (s + (feeI a l[k] - feeI b l[k])) = s + (feeI a l[k] - feeI b l[k]) := IntWalk.i64_in _ (by omega)
            have hs2 : -1000000 * ((k + 1 : Nat) : Int) ≤ s + (feeI a l[k] - feeI b l[k]) ∧ s + (feeI a l[k] - feeI b l[k]) ≤ 1000000 * ((k + 1 : Nat) : Int) := by omega
            have HS2 := Lib.hid hs2
            clear M M1 hb hb4 hs2
            have a0 := HX.out.G 0 _ rfl
            have a1 := HX.out.G 1 _ rfl
            have a2 := HX.out.G 2 _ rfl
            have a3 := HX.out.G 3 _ rfl
            have b0 := HZ.out.G 0 _ rfl
            have b1 := HZ.out.G 1 _ rfl
            have b2 := HZ.out.G 2 _ rfl
            have b3 := HZ.out.G 3 _ rfl
            have y0 := HY.out.G 0 _ rfl
            have y1 := HY.out.G 1 _ rfl
            have y2 := HY.out.G 2 _ rfl
            have y3 := HY.out.G 3 _ rfl
            have y4 := HY.out.G 4 _ rfl
            have y5 := HY.out.G 5 _ rfl
            go_wp2_with fail
            refine wp_region_grow (by kernel_rfl) (by kernel_rfl) ?_
            repeat (go_big_quiet_step (first | (go_at_call 46; exact quietG (HF _ (by first | exact hia | exact hib) _).out)))
            refine wpQuiet_endG ?_
            intro w4 hb4
            have HB4 := Lib.hid (Below.transB HB.out (Nat.le_refl _) hb4)
            clear hb4 HB HX HY HZ a0 a1 a2 a3 b0 b1 b2 b3 y0 y1 y2 y3 y4 y5 h0 h1 h2 h3 h4 h5
            go_wp2
            go_roundw
            case rel => exact ⟨k + 1, _, by omega, by go_num, rfl, HS2.out, HB4.out, M2⟩
            case measure => simp [intOf]; omega
          · have hD : s < 0 ∨ 0 < s ∨ s = 0 := by omega
            have HB := Lib.hid (Below.transB B3.out (Nat.le_refl _) hb)
            have HM := Lib.hid (show feeSum a l - feeSum b l = s by rw [M.out, List.drop_of_length_le (by omega)]; simp [feeSum])
            clear M hb
            rcases hD with hD | hD | hD
            · have e2 : Hid (ctAns a b l = .tuple #[.int .i64 1, .bool true]) := by
                show _ = _; rw [ctAns, if_pos e1.out, ctNum, if_pos (by have := HM.out; omega)]
              clear HM
              go_wp2
              go_ret2
              exact ⟨by rw [e2.out]; rfl, HB.out⟩
            · have e2 : Hid (ctAns a b l = .tuple #[.int .i64 2, .bool true]) := by
                show _ = _; rw [ctAns, if_pos e1.out, ctNum, if_neg (by have := HM.out; omega), if_pos (by have := HM.out; omega)]
              clear HM
              go_wp2
              go_ret2
              exact ⟨by rw [e2.out]; rfl, HB.out⟩
            · have e2 : Hid (ctAns a b l = .tuple #[.int .i64 0, .bool true]) := by
                show _ = _; rw [ctAns, if_pos e1.out, ctNum, if_neg (by have := HM.out; omega), if_neg (by have := HM.out; omega)]
              subst hD
              clear HM
              go_wp2
              go_ret2
              exact ⟨by rw [e2.out]; rfl, HB.out⟩
      · have e1 : Hid (ctAns a b l = .tuple #[.int .i64 0, .bool false]) := if_neg (by rw [ctOk]; simp_all)
        go_enter Try.func26, Try.ntmps26
        go_wp2_with fail
        refine (HT a _).out.mono ?_
        rintro e w1 ⟨rfl, hb1⟩
        rw [g1]
        have X1 := Lib.hid (X0.out.below hb1)
        have Y1 := Lib.hid (Y0.out.below hb1)
        have B1 := Lib.hid (Below.transB B0.out (Nat.le_refl _) hb1)
        clear hb1 X0 Y0 B0
        obtain ⟨y0, y1, y2, y3⟩ := Y1.out.four
        go_wp2_with fail
        refine (HT b _).out.mono ?_
        rintro e w2 ⟨rfl, hb2⟩
        clear y0 y1 y2 y3
        rw [g2]
        have X2 := Lib.hid (X1.out.below hb2)
        have Y2 := Lib.hid (Y1.out.below hb2)
        have B2 := Lib.hid (Below.transB B1.out (Nat.le_refl _) hb2)
        clear hb2 X1 Y1 B1
        go_wp2_with fail
        refine (HA _ (HR.out.below B2.out)).out.mono ?_
        rintro e w3 ⟨rfl, hb3⟩
        rw [show areB l = false by simpa using g3]
        have X3 := Lib.hid (X2.out.below hb3)
        have Y3 := Lib.hid (Y2.out.below hb3)
        have B3 := Lib.hid (Below.transB B2.out (Nat.le_refl _) hb3)
        clear hb3 X2 Y2 B2
        go_wp2
        go_ret2
        exact ⟨by rw [e1.out]; rfl, B3.out⟩
    · have e1 : Hid (ctAns a b l = .tuple #[.int .i64 0, .bool false]) := if_neg (by rw [ctOk]; simp_all)
      go_enter Try.func26, Try.ntmps26
      go_wp2_with fail
      refine (HT a _).out.mono ?_
      rintro e w1 ⟨rfl, hb1⟩
      rw [g1]
      have X1 := Lib.hid (X0.out.below hb1)
      have Y1 := Lib.hid (Y0.out.below hb1)
      have B1 := Lib.hid (Below.transB B0.out (Nat.le_refl _) hb1)
      clear hb1 X0 Y0 B0
      obtain ⟨y0, y1, y2, y3⟩ := Y1.out.four
      go_wp2_with fail
      refine (HT b _).out.mono ?_
      rintro e w2 ⟨rfl, hb2⟩
      clear y0 y1 y2 y3
      rw [show tarOk b = false by simpa using g2]
      have X2 := Lib.hid (X1.out.below hb2)
      have Y2 := Lib.hid (Y1.out.below hb2)
      have B2 := Lib.hid (Below.transB B1.out (Nat.le_refl _) hb2)
      clear hb2 X1 Y1 B1
      go_wp2
      go_ret2
      exact ⟨by rw [e1.out]; rfl, B2.out⟩
  · have e1 : Hid (ctAns a b l = .tuple #[.int .i64 0, .bool false]) := if_neg (by rw [ctOk]; simp_all)
    go_enter Try.func26, Try.ntmps26
    go_wp2_with fail
    refine (HT a _).out.mono ?_
    rintro e w1 ⟨rfl, hb1⟩
    rw [show tarOk a = false by simpa using g1]
    have X1 := Lib.hid (X0.out.below hb1)
    have Y1 := Lib.hid (Y0.out.below hb1)
    have B1 := Lib.hid (Below.transB B0.out (Nat.le_refl _) hb1)
    clear hb1 X0 Y0 B0
    go_wp2
    go_ret2
    exact ⟨by rw [e1.out]; rfl, B1.out⟩

end Go.Proofs.Ytkocblkodhfjiaa
