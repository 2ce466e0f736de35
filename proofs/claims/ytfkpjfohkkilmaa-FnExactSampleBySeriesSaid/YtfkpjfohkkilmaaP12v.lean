/-
  SampleBySeries by the program.
  Conditions: those written at each theorem.
-/
import Derived.Test.YtfkpjfohkkilmaaW12
import Derived.Deep.RegionHeld3
namespace Go.Proofs.Ytfkpjfohkkilmaa
open Go.RowKit Go.BigFrame Go.Maps
set_option maxRecDepth 100000

theorem keysI : Keyed Try.prog 3 := int_keyed Try.underlying3
theorem zeroInts (w : World) : (zeroValue 24).run Try.prog w = .ok (.slice none 0 0) w := by kernel_rfl

theorem recsB_ok : ∀ {L : List RQ} {last : Int}, recsB last L = true → ∀ x ∈ L, recB x.r = true
  | [], _, _, x, hx => by cases hx
  | y :: t, last, h, x, hx => by
    rw [recsB, Bool.and_eq_true, Bool.and_eq_true] at h
    rcases List.mem_cons.1 hx with e | hx2
    · rw [e]; exact h.1
    · exact recsB_ok h.2.2 x hx2

set_option maxHeartbeats 4000000 in
theorem implSample_any
    (HSORT1 : ∀ (base : Nat) (l : List Int) (g c : Nat) (w : World), w.ownsRow base 3 1 (.slice (some ⟨g, 0, none⟩) l.length c) l.length (cellsI l) → l.length ≤ 1000000 →
      Calls Try.prog 27 #[.slice (some ⟨g, 0, none⟩) l.length c] w fun e w' => e = .returned (.tuple #[]) ∧ w'.ownsRow base 3 1 (.slice (some ⟨g, 0, none⟩) l.length c) l.length (cellsI (sortF l)) ∧ w.grownBy w' (some g))
    (HSORT0 : ∀ (A : Option Addr) (c : Nat) (w : World), Calls Try.prog 27 #[.slice A 0 c] w fun e w' => e = .returned (.tuple #[]) ∧ w = w')
    (L : List RQ) (p sd : Int) (A : Option Addr) (c : Nat) (hl : L.length ≤ 1048576) (hs : ∀ x ∈ L, x.r.events.length ≤ 1048576) (w : World) (hr : RdQ w A L) :
    Calls Try.prog 7 #[.slice A L.length c, .int .i64 p, .int .i64 sd] w fun e w' => ∃ v, e = .returned (.tuple #[v, .bool (sbOk L p sd)]) ∧ SlI w.heap.size w' (sbOut L p sd) v ∧ Below w.heap.size w w' := by
  obtain ⟨i0, hi, hz0, hz1, hz2⟩ := info_parts infoI
  have HL := Lib.hid (areRecords_any L A c w hr hl hs)
  have HR := Lib.hid hr
  clear hr hs
  have HNO : Hid (sbOk L p sd = false → sbOut L p sd = []) := Lib.hid (fun h => if_neg (by rw [h]; simp))
  by_cases h1 : goodR L = true
  · by_cases h2 : inB p 0 100 = true
    · by_cases h3 : inB sd 0 99999 = true
      · have e1 : Hid (sbOk L p sd = true) := by show _ = _; rw [sbOk, h1, h2, h3]; rfl
        have e2 : Hid (sbOut L p sd = sortF (sbAll L p sd)) := if_pos e1.out
        have G1 := Lib.hid h1
        have hp := inB_true h2
        have hsd := inB_true h3
        have LN := Lib.hid (len_sbAll h1 hp.1 sd)
        rw [h1] at HL
        have HA : Hid (sbAll L p sd = serF p (fun s => inS s L) 99 1 sd) := rfl
        have hl10 := (goodR_true h1).2
        generalize sbAll L p sd = all at e2 LN HA
        clear h1 HNO
        have hmm := @run_makeMap Try.prog
        go_enter Try.func7, Try.ntmps7
        go_wp2_with fail
        refine HL.out.mono ?_
        rintro e w1 ⟨rfl, hb1⟩
        have B1 := Lib.hid hb1
        have hs1 := hb1.size
        clear hb1
        go_wp2_with (first
          | (go_at_call 23; refine (within_any _ _ _ _).mono ?_; rintro e w' ⟨rfl, rfl⟩; rw [h2])
          | (go_at_call 24; refine (isSeed_any _ _).mono ?_; rintro e w' ⟨rfl, rfl⟩; rw [h3]))
        go_loopw [32] (fun v32 wr => ∃ (k : Nat) (D : DataW Unit), k ≤ L.length ∧ v32 = .int .i64 k ∧ Hid (wr.ownsGroups Try.prog 3 (w1.heap.size + 1) 3 .i64 w1.heap.size k D) ∧ Hid (grpD D (fun s => inS s (L.take k))) ∧
          Below w1.heap.size w1 wr ∧ w1.heap.size + 1 ≤ wr.heap.size) (fun v32 _ => L.length - (intOf v32).toNat)
        case atStart => exact ⟨0, .map [], Nat.zero_le _, rfl, World.ownsGroups_made _ _ _ _ _, grpD_nil, (Below.refl _ _).alloc (Nat.le_refl _) _, by simp⟩
        case round =>
          obtain ⟨k, D, hk, rfl, HGR, HD, hb, hws⟩ := hrel
          have hbw : Below w.heap.size w wr := Below.trans' B1.out hb
          by_cases hlt : k < L.length
          · have hlt' : ((k : Int) < (L.length : Int)) := by omega
            have hk0 : (0 : Int) ≤ (k : Int) := by omega
            obtain ⟨gb, go, rfl, hgb, hcell⟩ := (HR.out.below hbw).1.2 (by omega)
            obtain ⟨h0, h1, h2, h3⟩ := cellsRQ_at hcell hlt
            have hbd := recB_head (recsB_ok (goodR_true G1.out).1 _ (List.getElem_mem hlt))
            have hkey : keyOf Try.prog 3 (.int .i64 L[k].r.series) = some (.int .i64 L[k].r.series) := keyOf_int_mk Try.underlying3 (WalkArith.wf_i64 (by omega))
            obtain ⟨v, zs, hlook, hat, hoi, hzl, hback⟩ := groups_look HGR.out keysI Try.underlying50 zeroInts (by unfold maxLen; omega) hkey
            have hzs := grpD_at HD.out hat hoi
            have HD2 := Lib.hid (grpD_same (grpD_put HD.out L[k].r.series (zs ++ [L[k].r.id]) (by simp)) (N := fun s => inS s (L.take (k + 1))) (fun s => by
              simp only [inS_take hlt s, hzs]
              by_cases e : L[k].r.series = s
              · rw [if_pos e, if_pos e, e]
              · rw [if_neg e, if_neg e]))
            clear hat hkey hzs
            obtain ⟨Av, cv, rfl⟩ := own_form hoi.1
            have hBw : w1.heap.size < wr.heap.size := by omega
            have G0 : wr.grownBy (wr.alloc (.cells #[.int .i64 L[k].r.id, .int .i64 L[k].r.series, .int .i64 L[k].r.made, .slice L[k].A L[k].r.events.length L[k].c] 48)).drew (Value.slice Av zs.length cv).ownBlock := (World.grownBy_alloc _ _ _).trans (grown_drew' _ _)
            have G2 : wr.grownBy (((wr.alloc (.cells #[.int .i64 L[k].r.id, .int .i64 L[k].r.series, .int .i64 L[k].r.made, .slice L[k].A L[k].r.events.length L[k].c] 48)).alloc (.cells #[.int .i64 L[k].r.id] 3)).drew) (Value.slice Av zs.length cv).ownBlock := ((World.grownBy_alloc _ _ _).trans (World.grownBy_alloc _ _ _)).trans (grown_drew' _ _)
            have hbn : some w1.heap.size ≠ (Value.slice Av zs.length cv).ownBlock := fun e => by have := (hoi.1.lt _ e.symm).1; omega
            have E1 := hlook _ (G0.block _ hBw hbn)
            have E2 := hlook _ (G2.block _ hBw hbn)
            have HBK := Lib.hid hback
            have HOI := Lib.hid hoi
            have HG2 := Lib.hid G2
            have bx := BX.new wr #[.int .i64 L[k].r.id, .int .i64 L[k].r.series, .int .i64 L[k].r.made, .slice L[k].A L[k].r.events.length L[k].c] 48
            have hbo : Hid (some wr.heap.size ≠ (Value.slice Av zs.length cv).ownBlock) := Lib.hid (fun e => by have := (hoi.1.lt _ e.symm).2; omega)
            have x0 := bx.cell 0 _ rfl
            have x1 := bx.cell 1 _ rfl
            have HBX := Lib.hid bx
            have HBN : Hid (BX (((wr.alloc (.cells #[.int .i64 L[k].r.id, .int .i64 L[k].r.series, .int .i64 L[k].r.made, .slice L[k].A L[k].r.events.length L[k].c] 48)).alloc (.cells #[.int .i64 L[k].r.id] 3)).drew) (wr.heap.size + 1) [.int .i64 L[k].r.id]) := Lib.hid (by have := (BX.new (wr.alloc (.cells #[.int .i64 L[k].r.id, .int .i64 L[k].r.series, .int .i64 L[k].r.made, .slice L[k].A L[k].r.events.length L[k].c] 48)) #[.int .i64 L[k].r.id] 3).drew; simpa using this)
            have HO2 : Hid ((((wr.alloc (.cells #[.int .i64 L[k].r.id, .int .i64 L[k].r.series, .int .i64 L[k].r.made, .slice L[k].A L[k].r.events.length L[k].c] 48)).alloc (.cells #[.int .i64 L[k].r.id] 3)).drew).ownsRow (w1.heap.size + 1) 3 1 (.slice Av zs.length cv) zs.length (cellsI zs)) := Lib.hid ((((hoi.1.alloc _).alloc _).drew))
            have HB := Lib.hid hb
            have HWS := Lib.hid hws
            clear hlook G0 G2 hback hoi bx HGR hcell hb hbn
            go_wp2_with fail
            go_region_held3 (fun w' => w'.cell? ⟨wr.heap.size, 0, none⟩ = some (.int .i64 L[k].r.id) ∧ w'.cell? ⟨wr.heap.size, 1, none⟩ = some (.int .i64 L[k].r.series)) (go_keep)
              (first
                | (refine step_appendMany' rfl _ _ 24 rfl (w1.heap.size + 1) 3 i0 (.int .i64 0) 1 8 Try.underlying24 hi hz0 hz1 hz2 rfl (by decide) (by decide) Av zs.length cv (cellsI zs) rfl HO2.out _ 1 _ [.int .i64 L[k].r.id] rfl (BX.rd1 HBN.out) (fun h => by cases h) (by simp [Value.oneCell']) (by omega) (by simp; omega) ?_
                   intro A2 c2 w4 hown2 hg2 hpl2
                   obtain ⟨w5, hrun5, hG5, hg5⟩ := HBK.out w4 (.slice A2 (zs.length + 1) c2) (zs ++ [L[k].r.id]) (HG2.out.trans hg2) (HOI.out.appended hown2 (WalkArith.wf_i64 (by omega))) (by simp; omega) (hpl2.imp id (fun h => ⟨_, h, by simp; omega⟩))
                   have HX4 := (HBX.out.alloc (.cells #[.int .i64 L[k].r.id] 3)).drew.grown hg2 hbo.out
                   have y0 := HX4.cell 0 _ rfl
                   have y1 := HX4.cell 1 _ rfl
                   have HX5 := HX4.grown hg5 (fun e => by injection e; omega)
                   have z0 := HX5.cell 0 _ rfl
                   have z1 := HX5.cell 1 _ rfl
                   have hall := HG2.out.trans hg2
                   have HB5 := Lib.hid (Below.groups HB.out HOI.out hall hg5 (by omega) (by omega) (Nat.le_refl _))
                   have HS5 := Lib.hid (Nat.le_trans HWS.out (Nat.le_trans hall.size hg5.size))
                   rw [(HOI.out.appended hown2 (WalkArith.wf_i64 (by omega))).datum_pos (by simp)] at hG5
                   have HG5 := Lib.hid hG5
                   clear HX4 HX5 hall hG5 hown2 hpl2))
            all_goals
              clear hrun5 y0 y1 z0 z1 x0 x1 E1 E2 h0 h1 h2 h3 hg2 hg5
              go_wp2
              go_roundw
              case rel => exact ⟨k + 1, _, by omega, by go_num, HG5, HD2, HB5.out, HS5.out⟩
              case measure => simp [intOf]; omega
          · have hge : ¬ ((k : Int) < (L.length : Int)) := by omega
            obtain rfl : k = L.length := by omega
            have HM : Hid (grpD D (fun s => inS s L)) := by
              have := HD.out
              rw [List.take_length] at this
              exact Lib.hid this
            have HLK : Hid (∀ s : Int, 1 ≤ s ∧ s ≤ 99 → ∃ (Av : Option Addr) (cv : Nat), (∀ w' : World, w'.heap[w1.heap.size]? = wr.heap[w1.heap.size]? → (Instr.lookup 50 (.map (some w1.heap.size)) (.int .i64 s) false).run Try.prog w' = .ok (.slice Av (inS s L).length cv) w') ∧
                wr.ownsRow (w1.heap.size + 1) 3 1 (.slice Av (inS s L).length cv) (inS s L).length (cellsI (inS s L))) := Lib.hid (fun s hs => by
              obtain ⟨v, zs, hlook, hat, hoi, _, _⟩ := groups_look HGR.out keysI Try.underlying50 zeroInts (by unfold maxLen; omega) (keyOf_int_mk Try.underlying3 (WalkArith.wf_i64 (n := s) (by omega)))
              obtain rfl := grpD_at HM.out hat hoi
              obtain ⟨Av, cv, rfl⟩ := own_form hoi.1
              exact ⟨Av, cv, hlook, hoi.1⟩)
            have hBw : w1.heap.size < wr.heap.size := by omega
            have HBW := Lib.hid hbw
            clear HGR HD HM hb hws hlt hbw hmm
            obtain ⟨w3, hw3⟩ : ∃ w3, w3 = wr := ⟨_, rfl⟩
            subst hw3
            go_wp2
            go_loopw [2, 11, 12] (fun v2 v11 v12 wr => ∃ (k : Nat) (q : Int) (acc : List Int) (A' : Option Addr) (c' : Nat), 1 ≤ k ∧ k ≤ 100 ∧ acc.length ≤ 20 * k ∧ (0 ≤ q ∧ q ≤ 99999) ∧ v2 = .int .i64 q ∧ v12 = .int .i64 k ∧ v11 = .slice A' acc.length c' ∧ Below w3.heap.size w3 wr ∧
              wr.ownsRow w3.heap.size 3 1 (.slice A' acc.length c') acc.length (cellsI acc) ∧ Hid (all = acc ++ serF p (fun s => inS s L) (100 - k) k q)) (fun _ _ v12 _ => 100 - (intOf v12).toNat)
            case atStart => exact ⟨1, sd, [], none, 0, Nat.le_refl _, by omega, by simp, hsd, rfl, rfl, rfl, Below.refl _ _, World.ownsRow_nil _ _ _ _, HA⟩
            case round =>
              clear HA
              obtain ⟨k, q, acc, A', c', hk1, hk, hak, hq, rfl, rfl, rfl, hb, hown, M⟩ := hrel
              by_cases hlt : k ≤ 99
              · have hlt' : ((k : Int) ≤ 99) := by omega
                have M1 := M.out
                rw [serF_step p _ k q hlt] at M1
                have hin := len_inS20 G1.out (k : Int)
                have hdr := drawN_eq (l := inS k L) hp.1
                have hqn := takeF_bd (drawN (inS k L) p) (inS k L) q hq
                have hlt2 := len_takeF (drawN (inS k L) p) (inS k L) q
                obtain ⟨Av, cv, hlook, hov⟩ := HLK.out k (by omega)
                have E1 := hlook wr (hb.block _ hBw)
                have HV := Lib.hid (own_below hov hb)
                have HB := Lib.hid hb
                have HO := Lib.hid hown
                generalize hids : inS k L = ids at E1 HV M1 hin hdr hqn hlt2
                have HSZ := fun W => Lib.hid (sampleSize_any ids.length p 1 ⟨by omega, by omega⟩ hp ⟨by omega, by omega⟩ W)
                rw [hdr.1] at HSZ
                have HT := fun A3 c3 W h1 h2 => Lib.hid (taken_any ids (drawN ids p) q A3 c3 W h1 h2 hin hdr.2 hq)
                have hdr2 := hdr.2
                generalize drawN ids p = nd at HSZ HT M1 hqn hlt2 hdr2
                generalize takeF ids nd q = tf at HT M1 hqn hlt2
                obtain ⟨tl, tq⟩ := tf
                have M2 : Hid (all = (acc ++ tl) ++ serF p (fun s => inS s L) (100 - (k + 1)) ((k + 1 : Nat) : Int) tq) := by show _ = _; rw [M1, List.append_assoc]
                simp only at hqn hlt2 HT
                clear M M1 hb hown hids hdr hlook hov
                go_wp2_with (first
                  | (go_at_call 26; refine (HSZ _).out.mono ?_; rintro e w' ⟨rfl, rfl⟩)
                  | fail)
                refine (HT Av cv _ (Rd.of_own HV.out) (own_cap0 HV.out)).out.mono ?_
                rintro e w4 ⟨_, rfl, ⟨A4, c4, rfl, ho4⟩, hb3⟩
                have B3 := Lib.hid (Below.transB HB.out (Nat.le_refl _) hb3)
                have O3 := Lib.hid (own_below HO.out hb3)
                have T3 := Lib.hid ho4
                have hs3 := B3.out.size
                clear hb3 ho4 HB HO HV E1
                go_wp2_with (at_builtin; refine wpList_appendMany _ rfl _ _ 24 rfl w3.heap.size 3 i0 (.int .i64 0) 1 8 Try.underlying24 hi hz0 hz1 hz2 rfl (by decide) (by decide) A' acc.length c' (cellsI acc) rfl O3.out A4 tl.length c4 (cellsI tl) rfl (Rd.of_own T3.out) (own_cap0 T3.out) (one_cellsI tl) (by omega) hs3 ?_; intro A5 c5 w5 hown5 hg5)
                have hf : w5.ownsRow w3.heap.size 3 1 (.slice A5 (acc ++ tl).length c5) (acc ++ tl).length (cellsI (acc ++ tl)) := by
                  rw [cellsI_append]; simpa using hown5
                have HF := Lib.hid hf
                have B5 := Lib.hid (Below.row B3.out O3.out hg5 (Nat.le_refl _) hs3)
                clear hf hown5 hg5 T3
                go_roundw
                case rel => exact ⟨k + 1, tq, acc ++ tl, A5, c5, by omega, by omega, by simp; omega, hqn, rfl, by go_num, by simp, B5.out, HF.out, M2⟩
                case measure => simp [intOf]; omega
              · obtain rfl : k = 100 := by omega
                have K2 : Hid (all = acc) := by
                  have := M.out
                  simp only [Nat.sub_self, serF, List.append_nil] at this
                  exact Lib.hid this
                have hle : acc.length ≤ 1980 := by rw [← K2.out]; exact LN.out
                have hwr := HBW.out.size
                have HW2 := Lib.hid (Below.transB HBW.out (Nat.le_refl _) hb)
                have hs2 := hb.size
                have HO := Lib.hid hown
                clear M hb hlt
                rcases Nat.eq_zero_or_pos acc.length with hz | hz
                · obtain rfl : acc = [] := List.eq_nil_of_length_eq_zero hz
                  clear hz hown hle hak
                  go_wp2_with fail
                  refine (HSORT0 _ _ _).mono ?_
                  rintro e w' ⟨rfl, rfl⟩
                  go_wp2
                  go_ret2
                  exact ⟨_, by rw [e1.out]; rfl, by rw [e2.out, K2.out]; exact ⟨A', c', rfl, own_base HO.out hwr⟩, HW2.out⟩
                · obtain ⟨g, rfl⟩ := own_some hown hz
                  have hg := (hown.lt g rfl).1
                  clear hown
                  go_wp2_with fail
                  refine (HSORT1 _ acc g c' _ HO.out (by omega)).mono ?_
                  rintro e w' ⟨rfl, ho, hgr⟩
                  have HF := Lib.hid (own_base ho hwr)
                  have BF := Lib.hid (Below.row HW2.out (own_base HO.out hwr) hgr (Nat.le_refl _) (by omega))
                  clear ho hgr
                  go_wp2
                  go_ret2
                  exact ⟨_, by rw [e1.out]; rfl, by rw [e2.out, K2.out]; exact ⟨some ⟨g, 0, none⟩, c', by rw [len_sortF]; rfl, by rw [len_sortF]; exact HF.out⟩, BF.out⟩
      · have h3' : inB sd 0 99999 = false := by simpa using h3
        have e1 : Hid (sbOk L p sd = false) := by show _ = _; rw [sbOk, h3']; simp
        rw [h1] at HL
        clear h1
        go_enter Try.func7, Try.ntmps7
        go_wp2_with fail
        refine HL.out.mono ?_
        rintro e w1 ⟨rfl, hb1⟩
        have B1 := Lib.hid hb1
        clear hb1
        go_wp2_with (first
          | (go_at_call 23; refine (within_any _ _ _ _).mono ?_; rintro e w' ⟨rfl, rfl⟩; rw [h2])
          | (go_at_call 24; refine (isSeed_any _ _).mono ?_; rintro e w' ⟨rfl, rfl⟩; rw [h3']))
        go_ret2
        exact ⟨_, by rw [e1.out]; rfl, by rw [HNO.out e1.out]; exact SlI.nil _ _, B1.out⟩
    · have h2' : inB p 0 100 = false := by simpa using h2
      have e1 : Hid (sbOk L p sd = false) := by show _ = _; rw [sbOk, h2']; simp
      rw [h1] at HL
      clear h1
      go_enter Try.func7, Try.ntmps7
      go_wp2_with fail
      refine HL.out.mono ?_
      rintro e w1 ⟨rfl, hb1⟩
      have B1 := Lib.hid hb1
      clear hb1
      go_wp2_with (go_at_call 23; refine (within_any _ _ _ _).mono ?_; rintro e w' ⟨rfl, rfl⟩; rw [h2'])
      go_ret2
      exact ⟨_, by rw [e1.out]; rfl, by rw [HNO.out e1.out]; exact SlI.nil _ _, B1.out⟩
  · have h1' : goodR L = false := by simpa using h1
    rw [h1'] at HL
    have e1 : Hid (sbOk L p sd = false) := by show _ = _; rw [sbOk, h1']; rfl
    clear h1 h1'
    go_enter Try.func7, Try.ntmps7
    go_wp2_with fail
    refine HL.out.mono ?_
    rintro e w1 ⟨rfl, hb1⟩
    have B1 := Lib.hid hb1
    clear hb1
    go_wp2
    go_ret2
    exact ⟨_, by rw [e1.out]; rfl, by rw [HNO.out e1.out]; exact SlI.nil _ _, B1.out⟩

end Go.Proofs.Ytfkpjfohkkilmaa
