/-
  SpreadPayment by the program.
  Conditions: those written at each theorem.
-/
import Derived.Test.YtpifimghlfpbaaaH14b
import Derived.Deep.RegionHeld3
namespace Go.Proofs.Ytpifimghlfpbaaa
open Go.RowKit Go.BigFrame
set_option maxRecDepth 100000

set_option maxHeartbeats 4000000 in
theorem implSpreadPayment_any (t : Tariff) (l : List Bill) (cents : Int) (A : Option Addr) (c : Nat) (hA : A = none → c = 0) (hl : l.length ≤ 1048576) (w : World) (hr : Rd w 6 A l.length (cellsBill l)) :
    Calls Try.prog 8 #[aggTariff t, .slice A l.length c, .int .i64 cents] w fun e w' => ∃ v, e = .returned (.tuple #[v, .int .i64 (spdRest t l cents), .bool (spdOk t l cents)]) ∧ SlBill w.heap.size w' (spdOut t l cents) v ∧ Below w.heap.size w w' := by
  obtain ⟨i0, hi, hz0, hz1, hz2⟩ := info_parts infoI
  have HT := fun W => Lib.hid (implIsTariff_any t W)
  have HAB := fun W h => Lib.hid (implAreBills_any l A c (by omega) W h)
  have X0 := Lib.hid ((BXT.new w #[.int .i64 t.search, .int .i64 t.page, .int .i64 t.free, .int .i64 t.limit] 29).alloc (.cells #[.slice A l.length c] 26))
  have y0 := BXT.new (w.alloc (.cells #[.int .i64 t.search, .int .i64 t.page, .int .i64 t.free, .int .i64 t.limit] 29)) #[.slice A l.length c] 26
  rw [World.size_alloc] at y0
  have Y0 := Lib.hid y0
  have hb0 : Below w.heap.size w ((w.alloc (.cells #[.int .i64 t.search, .int .i64 t.page, .int .i64 t.free, .int .i64 t.limit] 29)).alloc (.cells #[.slice A l.length c] 26)) := ((Below.refl _ _).alloc (Nat.le_refl _) _).alloc (by simp) _
  have B0 := Lib.hid hb0
  have HR := Lib.hid hr
  clear hr hb0 y0
  unfold aggTariff at *
  by_cases h1 : tarOk t = true
  · by_cases h2 : areB l = true
    · by_cases h3 : inB cents 0 1000000 = true
      · have e1 : Hid (spdOk t l cents = true) := by show _ = _; rw [spdOk, ofOk, h1, h2, h3]; rfl
        have e2 : Hid (spdOut t l cents = (spdAll t l cents).1) := if_pos e1.out
        have e3 : Hid (spdRest t l cents = (spdAll t l cents).2) := if_pos e1.out
        have H1 := Lib.hid h1
        have H2 := Lib.hid h2
        have hce := inB_true h3
        obtain ⟨_, hb10⟩ := bills_of h2
        go_enter Try.func8, Try.ntmps8
        go_wp2_with fail
        refine (HT _).out.mono ?_
        rintro e w1 ⟨rfl, hb1⟩
        rw [h1]
        have X1 := Lib.hid (X0.out.below hb1)
        have Y1 := Lib.hid (Y0.out.below hb1)
        have y1 := Y1.out.bx.cell 0 _ rfl
        have B1 := Lib.hid (Below.transB B0.out (Nat.le_refl _) hb1)
        clear hb1 X0 Y0 B0 h1
        go_wp2_with fail
        refine (HAB _ (HR.out.below B1.out)).out.mono ?_
        rintro e w2 ⟨rfl, hb2⟩
        rw [h2]
        have X2 := Lib.hid (X1.out.below hb2)
        have Y2 := Lib.hid (Y1.out.below hb2)
        have y2 := Y2.out.bx.cell 0 _ rfl
        have B2 := Lib.hid (Below.transB B1.out (Nat.le_refl _) hb2)
        clear hb2 X1 Y1 B1 y1 h2
        go_wp2_with (go_at_call 18; refine (isCents_any _ _).mono ?_; rintro e w' ⟨rfl, rfl⟩; rw [h3])
        refine (cloneBill_any l A c _ (HR.out.below B2.out) hA hl).mono ?_
        rintro e w3 ⟨_, rfl, ⟨A3, c3, rfl, ho3⟩, hb3⟩
        have X3 := Lib.hid (X2.out.below hb3)
        have Y3 := Lib.hid (Y2.out.below hb3)
        have y3 := Y3.out.bx.cell 0 _ rfl
        have B23 := Lib.hid hb3
        have B3 := Lib.hid (Below.transB B2.out (Nat.le_refl _) hb3)
        have O3 := Lib.hid ho3
        have HG : Hid (∀ g, A3 = some ⟨g, 0, none⟩ → w2.heap.size ≤ g ∧ g < w3.heap.size) := Lib.hid (fun g hg => by subst hg; exact ho3.lt g rfl)
        have XL : Hid (w.heap.size < w2.heap.size) := Lib.hid X2.out.lt
        have YL : Hid (w.heap.size + 1 < w2.heap.size) := Lib.hid Y2.out.lt
        clear hb3 ho3 y2
        go_wp2_with (at_make; refine wpList_make_full _ rfl _ _ 35 rfl w3.heap.size 3 i0 _ 1 Try.underlying35 hi hz0 hz1 .i64 .i64 _ _ l.length rfl rfl rfl rfl (by rw [hz2]; omega) (by unfold maxLen; omega) (by simp) ?_; intro w4 hown4 hgrow4)
        have hb4 : Below w3.heap.size w3 w4 := (Below.refl _ _).grown hgrow4 (Nat.le_refl _) (fun k h => by cases h)
        clear hgrow4 y3
        go_loopw [35] (fun v35 wr => ∃ k : Nat, k ≤ l.length ∧ v35 = .int .i64 k ∧ Below w3.heap.size w3 wr ∧
          wr.ownsRow w3.heap.size 3 1 (.slice (some ⟨w3.heap.size, 0, none⟩) l.length l.length) l.length (cellsI ((List.range k).map (fun i : Nat => (i : Int))) ++ (madeCells (Value.int .i64 0).cells (l.length * 1)).toList.drop k)) (fun v35 _ => l.length - (intOf v35).toNat)
        case atStart => exact ⟨0, Nat.zero_le _, rfl, hb4, hown4⟩
        case round =>
          clear hown4 hb4
          obtain ⟨k, hk, rfl, hb, hown⟩ := hrel
          by_cases hlt : k < l.length
          · have hlt' : ((k : Int) < (l.length : Int)) := by omega
            obtain ⟨⟨z0, e0⟩, f0⟩ := own_has hown k (by omega)
            have HO := Lib.hid hown
            have HB := Lib.hid hb
            clear hown hb
            go_wp2
            go_roundw
            case rel =>
              refine ⟨k + 1, by omega, by go_num, (HB.out.setCell (Nat.le_refl _) _), ?_⟩
              have h := (HO.out.stored k (.int .i64 k)).1
              rw [fill1 (by rw [len_cellsI, range_ints]) (by rw [len_made]; omega)] at h
              rw [range_ints_succ, cellsI_append, List.append_assoc]
              exact h
            case measure => simp [intOf]; omega
          · have hkl : k = l.length := by omega
            have hge : ¬ ((k : Int) < (l.length : Int)) := by omega
            have H4 : Hid (wr.ownsRow w3.heap.size 3 1 (.slice (some ⟨w3.heap.size, 0, none⟩) l.length l.length) l.length (cellsI ((List.range l.length).map (fun i : Nat => (i : Int))))) := by
              rw [hkl, List.drop_of_length_le (by rw [len_made]; omega), List.append_nil] at hown
              exact Lib.hid hown
            have HB := Lib.hid hb
            have hs3 := hb.size
            clear hown hb hkl
            have HS := Lib.hid (sortStable_any t l A (some ⟨w3.heap.size, 0, none⟩) c w.heap.size (w.heap.size + 1) l.length w3.heap.size H1.out H2.out wr H4.out ((HR.out.below B3.out).below HB.out)
              (fun h0 ad ha e => by
                obtain ⟨b, o, hbo, hlt2, _⟩ := HR.out.2 h0
                rw [hbo] at ha
                cases ha
                have := B3.out.size
                simp [Value.ownBlock] at e
                omega)
              ⟨(X3.out.below HB.out).lt, fun i v hv => (X3.out.below HB.out).bx.cell i v hv⟩ ⟨(Y3.out.below HB.out).lt, fun i v hv => (Y3.out.below HB.out).bx.cell i v hv⟩
              (fun e => by have := XL.out; have := B23.out.size; simp [Value.ownBlock] at e; omega) (fun e => by have := YL.out; have := B23.out.size; simp [Value.ownBlock] at e; omega))
            go_wp2_with fail
            refine HS.out.mono ?_
            rintro e w5 ⟨rfl, ho5, hg5⟩
            have hb5 : Below w3.heap.size w3 w5 := Below.row HB.out H4.out hg5 (Nat.le_refl _) hs3
            have B25 := Lib.hid (Below.transB B23.out (Nat.le_refl _) hb5)
            have O5 := Lib.hid (own_below O3.out hb5)
            have R5 := Lib.hid ho5
            have L5 : Hid (w3.heap.size < w5.heap.size) := Lib.hid (ho5.lt _ rfl).2
            have hord := S14.len_ordF (wgt t l) l.length
            have hnd := S14.nodup_ordF (wgt t l) l.length
            have hmo : ∀ x ∈ S14.ordF (wgt t l) l.length, ∃ i : Nat, i < l.length ∧ x = i := fun x hx => S14.mem_ordF hx
            have HK : Hid (spdAll t l cents = payO t l (S14.ordF (wgt t l) l.length) l cents) := by show _ = _; rfl
            generalize S14.ordF (wgt t l) l.length = ord at R5 hord hnd hmo HK
            have ND := Lib.hid hnd
            have MO := Lib.hid hmo
            have LO := Lib.hid hord
            clear ho5 hg5 hb5 H4 HS hnd hmo hord HB O3 B23 Y3 Y2 HT HAB
            go_wp2_with fail
            go_loopw [2, 48] (fun v2 v48 wr => ∃ (k : Nat) (out : List Bill) (c' : Int), k ≤ l.length ∧ v48 = .int .i64 k ∧ v2 = .int .i64 c' ∧ (0 ≤ c' ∧ c' ≤ 1000000) ∧ out.length = l.length ∧ Below w2.heap.size w2 wr ∧ w3.heap.size < wr.heap.size ∧
              wr.ownsRow w2.heap.size 40 6 (.slice A3 l.length c3) l.length (cellsBill out) ∧ wr.ownsRow w3.heap.size 3 1 (.slice (some ⟨w3.heap.size, 0, none⟩) l.length l.length) l.length (cellsI ord) ∧
              Hid (Fresh l out (ord.drop k)) ∧ Hid (spdAll t l cents = payO t l (ord.drop k) out c')) (fun _ v48 _ => l.length - (intOf v48).toNat)
            case atStart => exact ⟨0, l, cents, Nat.zero_le _, rfl, rfl, hce, rfl, B25.out, L5.out, O5.out, R5.out, Lib.hid (fun _ _ => rfl), HK⟩
            case round =>
              clear B25 O5 R5 L5 HK
              obtain ⟨k, out, c', hk, rfl, rfl, hc', hol, hb, hL, hown, hrow, F, K⟩ := hrel
              by_cases hlt : k < l.length
              · have hlo : k < ord.length := by rw [LO.out]; exact hlt
                have hlt' : ((k : Int) < (l.length : Int)) := by omega
                obtain ⟨i, hil, hx⟩ := MO.out _ (List.getElem_mem hlo)
                obtain ⟨g, rfl⟩ := own_some hown (by omega)
                obtain ⟨hg2, hg3⟩ := HG.out g rfl
                obtain ⟨gb, go, hbo, hgb, hcell⟩ := (Rd.of_own hrow).2 (by omega)
                cases hbo
                have r0 := cellsI_at hcell hlo
                rw [hx, Nat.zero_add] at r0
                clear hcell
                have F1 := F.out
                have K1 := K.out
                rw [List.drop_eq_getElem_cons hlo, hx] at F1 K1
                rw [payO, Int.toNat_natCast] at K1
                have hni := F1 (i : Int) (by simp)
                rw [Int.toNat_natCast] at hni
                have hio : i < out.length := by omega
                have hoi : out[i] = l[i] := by
                  rw [List.getElem?_eq_getElem hio, List.getElem?_eq_getElem hil] at hni
                  exact Option.some.inj hni
                rw [List.getElem?_eq_getElem hil, Option.getD_some] at K1
                have F2 : Hid (Fresh l (out.set i (addPaid l[i] (partI t l i c'))) (ord.drop (k + 1))) := by
                  refine Lib.hid (Fresh.step F1 ?_ (fun x hx => ?_))
                  · rw [← hx, ← List.drop_eq_getElem_cons hlo]
                    exact List.Pairwise.sublist (List.drop_sublist _ _) ND.out
                  · obtain ⟨j, _, rfl⟩ := MO.out x (List.mem_of_mem_drop hx)
                    omega
                have K2 := Lib.hid K1
                have hpb := part_bd (t := t) (l := l) hil H1.out H2.out hc'.1
                have hpp : Hid (partI t l i c' = if openI t l[i] < c' then openI t l[i] else c') := by show _ = _; rw [partI, wgt_at t l hil]
                have hok := (bills_of H2.out).1 i hil
                have hpd := (billOk_true hok).2.2.2
                have HOP := fun W => Lib.hid (open_any t l[i] W (FeeIn.of H1.out hok) hpd)
                clear K K1 F F1 hni hok
                generalize partI t l i c' = n at F2 K2 hpb hpp
                obtain ⟨gb2, go2, hbo, hgb2, hcell⟩ := (Rd.of_own hown).2 (by omega)
                cases hbo
                obtain ⟨q0, q1, q2, q3, q4, q5⟩ := cellsBill_at hcell hio
                rw [hoi] at q0 q1 q2 q3 q4 q5
                rw [Nat.zero_add] at q0 q1 q2 q3 q4 q5
                clear hcell
                have hi0 : (0 : Int) ≤ (i : Int) := by omega
                have hi1 : (i : Int) < (l.length : Int) := by omega
                have HB := Lib.hid hb
                have HO := Lib.hid hown
                have HW := Lib.hid hrow
                have HX := Lib.hid (X2.out.below hb)
                have a0 := cellG HX.out.lt (HX.out.bx.cell 0 _ rfl)
                have a1 := cellG HX.out.lt (HX.out.bx.cell 1 _ rfl)
                have a2 := cellG HX.out.lt (HX.out.bx.cell 2 _ rfl)
                have a3 := cellG HX.out.lt (HX.out.bx.cell 3 _ rfl)
                have p0 := cellG hgb2 q0
                have p1 := cellG hgb2 q1
                have p2 := cellG hgb2 q2
                have p3 := cellG hgb2 q3
                have p4 := cellG hgb2 q4
                have p5 := cellG hgb2 q5
                clear hb hown hrow
                unfold aggTariff aggBill at *
                generalize openI t l[i] = oi at *
                go_wp2_with fail
                refine wp_region_grow (by kernel_rfl) (by kernel_rfl) ?_
                repeat (go_big_quiet_step (first | (go_at_call 23; exact quietG (HOP _).out)))
                refine wpQuiet_endG ?_
                intro w7 hb7
                have hm : min oi c' = n := by rw [hpp.out]; split <;> omega
                rw [hm]
                clear hm p0 p1 p2 p3 p4 p5 a0 a1 a2 a3 q0 q1 q2 q3 q4 r0
                have HB7 := Lib.hid (Below.transB HB.out (Nat.le_refl _) hb7)
                have HO7 := Lib.hid (own_below HO.out hb7)
                have HW7 := Lib.hid (own_below HW.out hb7)
                have hL7 : w3.heap.size < w7.heap.size := Nat.lt_of_lt_of_le hL hb7.size
                have q7 := (hb7.cell (p := ⟨g, i * 6 + 5, none⟩) hgb2).trans q5
                have f7 := (own_has HO7.out (i * 6 + 5) (by omega)).2
                clear hb7 q5
                have HS4 := (HO7.out.stored (i * 6 + 5) (.int .i64 (l[i].paid + n))).1
                rw [cellsBill_set out i hio, hoi] at HS4
                have O8 := Lib.hid HS4
                have B8 := Lib.hid (HB7.out.setCell (p := ⟨g, i * 6 + 5, none⟩) hg2 (.int .i64 (l[i].paid + n)))
                have W8 := Lib.hid (HW7.out.kept (grown_set (a := w7) (w := w7) (g := g) ⟨rfl, rfl, rfl, Nat.le_refl _, fun _ _ _ => rfl⟩ (i * 6 + 5) (.int .i64 (l[i].paid + n))) (.inr (fun e => by simp [Value.ownBlock] at e; omega)))
                clear HS4
                go_wp2_with fail
                go_roundw
                case rel => exact ⟨k + 1, out.set i (addPaid l[i] n), c' - n, by omega, by go_num, by go_num, by omega, by simpa using hol, B8.out, by simpa using hL7, O8.out, W8.out, F2, K2⟩
                case measure => simp [intOf]; omega
              · have hge : ¬ ((k : Int) < (l.length : Int)) := by omega
                have K2 : Hid (spdAll t l cents = (out, c')) := by
                  show _ = _; rw [K.out, List.drop_of_length_le (by rw [LO.out]; omega), payO]
                have HO := Lib.hid hown
                have HB := Lib.hid (Below.transB B2.out (Nat.le_refl _) hb)
                have hsz := B2.out.size
                have HL := Lib.hid hol
                clear K hown hb hrow F hol
                go_wp2
                go_ret3
                refine ⟨_, by rw [e1.out, e3.out, K2.out]; rfl, ?_, HB.out⟩
                rw [e2.out, K2.out]
                exact ⟨A3, c3, by rw [HL.out]; rfl, by rw [HL.out]; exact own_base HO.out hsz⟩
      · have h3' : inB cents 0 1000000 = false := by simpa using h3
        have e1 : Hid (spdOk t l cents = false) := by show _ = _; rw [spdOk, h3']; simp
        have e2 : Hid (spdOut t l cents = []) := if_neg (by rw [e1.out]; simp)
        have e3 : Hid (spdRest t l cents = 0) := if_neg (by rw [e1.out]; simp)
        go_enter Try.func8, Try.ntmps8
        go_wp2_with fail
        refine (HT _).out.mono ?_
        rintro e w1 ⟨rfl, hb1⟩
        rw [h1]
        have Y1 := Lib.hid (Y0.out.below hb1)
        have y1 := Y1.out.bx.cell 0 _ rfl
        have B1 := Lib.hid (Below.transB B0.out (Nat.le_refl _) hb1)
        clear hb1 X0 Y0 B0 h1
        go_wp2_with fail
        refine (HAB _ (HR.out.below B1.out)).out.mono ?_
        rintro e w2 ⟨rfl, hb2⟩
        rw [h2]
        have B2 := Lib.hid (Below.transB B1.out (Nat.le_refl _) hb2)
        clear hb2 Y1 B1 y1 h2
        go_wp2_with (go_at_call 18; refine (isCents_any _ _).mono ?_; rintro e w' ⟨rfl, rfl⟩; rw [h3'])
        go_ret3
        exact ⟨_, by rw [e1.out, e3.out]; rfl, by rw [e2.out]; exact SlBill.nil _ _, B2.out⟩
    · have h2' : areB l = false := by simpa using h2
      have e1 : Hid (spdOk t l cents = false) := by show _ = _; rw [spdOk, ofOk, h2']; simp
      have e2 : Hid (spdOut t l cents = []) := if_neg (by rw [e1.out]; simp)
      have e3 : Hid (spdRest t l cents = 0) := if_neg (by rw [e1.out]; simp)
      go_enter Try.func8, Try.ntmps8
      go_wp2_with fail
      refine (HT _).out.mono ?_
      rintro e w1 ⟨rfl, hb1⟩
      rw [h1]
      have Y1 := Lib.hid (Y0.out.below hb1)
      have y1 := Y1.out.bx.cell 0 _ rfl
      have B1 := Lib.hid (Below.transB B0.out (Nat.le_refl _) hb1)
      clear hb1 X0 Y0 B0 h1
      go_wp2_with fail
      refine (HAB _ (HR.out.below B1.out)).out.mono ?_
      rintro e w2 ⟨rfl, hb2⟩
      rw [h2']
      have B2 := Lib.hid (Below.transB B1.out (Nat.le_refl _) hb2)
      clear hb2 Y1 B1 y1 h2 h2'
      go_wp2
      go_ret3
      exact ⟨_, by rw [e1.out, e3.out]; rfl, by rw [e2.out]; exact SlBill.nil _ _, B2.out⟩
  · have h1' : tarOk t = false := by simpa using h1
    have e1 : Hid (spdOk t l cents = false) := by show _ = _; rw [spdOk, ofOk, h1']; rfl
    have e2 : Hid (spdOut t l cents = []) := if_neg (by rw [e1.out]; simp)
    have e3 : Hid (spdRest t l cents = 0) := if_neg (by rw [e1.out]; simp)
    go_enter Try.func8, Try.ntmps8
    go_wp2_with fail
    refine (HT _).out.mono ?_
    rintro e w1 ⟨rfl, hb1⟩
    rw [h1']
    have B1 := Lib.hid (Below.transB B0.out (Nat.le_refl _) hb1)
    clear hb1 X0 Y0 B0 h1 h1'
    go_wp2
    go_ret3
    exact ⟨_, by rw [e1.out, e3.out]; rfl, by rw [e2.out]; exact SlBill.nil _ _, B1.out⟩

end Go.Proofs.Ytpifimghlfpbaaa
