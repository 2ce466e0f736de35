/-
  OpenFees by the reference. Written by mk14h2.py.
  Conditions: those written at each theorem.
-/
import Derived.Test.YtpifimghlfpbaaaP14h
import Derived.Deep.RegionHeld3
namespace Go.Proofs.Ytpifimghlfpbaaa
open Go.RowKit Go.BigFrame
set_option maxRecDepth 100000

set_option maxHeartbeats 1000000 in
theorem specOpenFees_any (t : Tariff) (l : List Bill) (A : Option Addr) (c : Nat) (hl : l.length ≤ 1048576) (w : World) (hr : Rd w 6 A l.length (cellsBill l)) :
    Calls Try.prog 12 #[aggTariff t, .slice A l.length c] w fun e w' => ∃ v, e = .returned (.tuple #[v, .bool (ofOk t l)]) ∧ SlI w.heap.size w' (ofOut t l) v ∧ Below w.heap.size w w' := by
  obtain ⟨i0, hi, hz0, hz1, hz2⟩ := info_parts infoI
  have HT := fun W => Lib.hid (l14Tariff_any t W)
  have HA := fun W h => Lib.hid (l14Good_any l A c (by omega) W h)
  have X0 := Lib.hid ((BXT.new w #[.int .i64 t.search, .int .i64 t.page, .int .i64 t.free, .int .i64 t.limit] 29).alloc (.cells #[] 3))
  have e0 := own_empty (B := w.heap.size) (w.alloc (.cells #[.int .i64 t.search, .int .i64 t.page, .int .i64 t.free, .int .i64 t.limit] 29)) 3 1 (by simp)
  rw [World.size_alloc] at e0
  have E0 := Lib.hid e0
  have hb0 : Below w.heap.size w ((w.alloc (.cells #[.int .i64 t.search, .int .i64 t.page, .int .i64 t.free, .int .i64 t.limit] 29)).alloc (.cells #[] 3)) := ((Below.refl _ _).alloc (Nat.le_refl _) _).alloc (by simp) _
  have B0 := Lib.hid hb0
  have HR := Lib.hid hr
  clear hr hb0 e0
  unfold aggTariff at *
  by_cases h1 : tarOk t = true
  · by_cases h2 : areB l = true
    · have e1 : Hid (ofOk t l = true) := by show _ = _; rw [ofOk, h1, h2]; rfl
      have h1' := h1
      obtain ⟨hbo, hb10⟩ := bills_of h2
      have HBO := Lib.hid hbo
      clear hbo
      go_enter Try.func12, Try.ntmps12
      go_wp2_with fail
      refine (HT _).out.mono ?_
      rintro e w1 ⟨rfl, hb1⟩
      rw [h1]
      have X1 := Lib.hid (X0.out.below hb1)
      have E1 := Lib.hid (own_below E0.out hb1)
      have B1 := Lib.hid (Below.transB B0.out (Nat.le_refl _) hb1)
      clear hb1 X0 B0 E0
      go_wp2_with fail
      refine (HA _ (HR.out.below B1.out)).out.mono ?_
      rintro e w2 ⟨rfl, hb2⟩
      rw [h2]
      have X2 := Lib.hid (X1.out.below hb2)
      have E2 := Lib.hid (own_below E1.out hb2)
      have B2 := Lib.hid (Below.transB B1.out (Nat.le_refl _) hb2)
      clear hb2 X1 B1 E1
      go_wp2_with fail
      go_loopw [6, 7] (fun v6 v7 wr => ∃ (k : Nat) (acc : List Int) (A' : Option Addr) (c' : Nat), k ≤ l.length ∧ acc.length ≤ k ∧ v7 = .int .i64 k ∧ v6 = .slice A' acc.length c' ∧ wr.ownsRow w.heap.size 3 1 (.slice A' acc.length c') acc.length (cellsI acc) ∧ BXT 29 wr w.heap.size [.int .i64 t.search, .int .i64 t.page, .int .i64 t.free, .int .i64 t.limit] ∧ Below w.heap.size w wr ∧ Hid (l.map (openI t) = acc ++ (l.drop k).map (openI t))) (fun _ v7 _ => l.length - (intOf v7).toNat)
      case atStart => exact ⟨0, [], some ⟨w.heap.size + 1, 0, none⟩, 0, Nat.zero_le _, Nat.zero_le _, rfl, rfl, E2.out, X2.out, B2.out, by show _ = _; rfl⟩
      case round =>
        obtain ⟨k, acc, A', c', hk, hak, rfl, rfl, hown, hX, hb, M⟩ := hrel
        by_cases hlt : k < l.length
        · have hlt' : ((k : Int) < (l.length : Int)) := by omega
          obtain ⟨gb, go, rfl, hgb, hcell⟩ := (HR.out.below hb).2 (by omega)
          obtain ⟨h0, h1, h2, h3, h4, h5⟩ := cellsBill_at hcell hlt
          clear hcell
          have hok := HBO.out k hlt
          have hin := FeeIn.of h1' hok
          have hpd := (billOk_true hok).2.2.2
          have hid := (billOk_true hok).1
          have hsz := hb.size
          obtain ⟨gb', go', he, hgw, _⟩ := HR.out.2 (by omega)
          cases he
          have M1 := M.out
          rw [List.drop_eq_getElem_cons hlt, List.map_cons] at M1
          have M2 : Hid (l.map (openI t) = (acc ++ [openI t l[k]]) ++ (l.drop (k + 1)).map (openI t)) := by
            show _ = _; rw [M1]; simp only [List.append_assoc, List.singleton_append]
          have HF := fun W => Lib.hid (l14Fee_any t l[k] W hin)
          unfold aggTariff aggBill at HF
          have HM : ∀ W, Hid (Calls Try.prog 27 #[.int .i64 0, .int .i64 (feeI t l[k] - l[k].paid)] W fun e w' => e = .returned (.int .i64 (openI t l[k])) ∧ W = w') := fun W => l1Most0 _ W
          have hfb := fee_bd hin
          have e2 : IntKind.i64.wrap (feeI t l[k] - l[k].paid) = feeI t l[k] - l[k].paid := IntWalk.i64_in _ (by omega)
          have hk0 : (0 : Int) ≤ (k : Int) := by omega
          have HO := Lib.hid hown
          have HB := Lib.hid hb
          have HX := Lib.hid hX
          obtain ⟨x0, x1, x2, x3⟩ := hX.four
          clear M M1 hown hX hb
          generalize openI t l[k] = X at *
          generalize feeI t l[k] = F at *
          go_wp2_with fail
          go_region_held3 (fun w' => w'.cell? ⟨w.heap.size, 0, none⟩ = some (.int .i64 t.search) ∧ w'.cell? ⟨w.heap.size, 1, none⟩ = some (.int .i64 t.page) ∧ w'.cell? ⟨w.heap.size, 2, none⟩ = some (.int .i64 t.free) ∧ w'.cell? ⟨w.heap.size, 3, none⟩ = some (.int .i64 t.limit) ∧ w'.cell? ⟨gb, go + k * 6, none⟩ = some (.int .i64 l[k].id) ∧ w'.cell? ⟨gb, go + k * 6 + 1, none⟩ = some (.int .i64 l[k].hours) ∧ w'.cell? ⟨gb, go + k * 6 + 2, none⟩ = some (.int .i64 l[k].pages) ∧ w'.cell? ⟨gb, go + k * 6 + 3, none⟩ = some (.bool l[k].poor) ∧ w'.cell? ⟨gb, go + k * 6 + 4, none⟩ = some (.bool l[k].pub) ∧ w'.cell? ⟨gb, go + k * 6 + 5, none⟩ = some (.int .i64 l[k].paid)) (go_keep)
            (first
              | (go_at_call 28
                 refine (HF _).out.mono ?_
                 rintro e w3 ⟨rfl, hb3⟩
                 replace hb3 := below_ofDrew (a := wr) hb3
                 have HO3 := Lib.hid (own_below HO.out hb3)
                 have HB3 := Lib.hid (Below.transB HB.out (Nat.le_refl _) hb3)
                 have hs3 : w.heap.size ≤ w3.heap.size := HB3.out.size
                 have HX3 := Lib.hid (HX.out.below hb3)
                 replace h0 := (hb3.cell (p := ⟨gb, go + k * 6, none⟩) hgb).trans h0
                 replace h1 := (hb3.cell (p := ⟨gb, go + k * 6 + 1, none⟩) hgb).trans h1
                 replace h2 := (hb3.cell (p := ⟨gb, go + k * 6 + 2, none⟩) hgb).trans h2
                 replace h3 := (hb3.cell (p := ⟨gb, go + k * 6 + 3, none⟩) hgb).trans h3
                 replace h4 := (hb3.cell (p := ⟨gb, go + k * 6 + 4, none⟩) hgb).trans h4
                 replace h5 := (hb3.cell (p := ⟨gb, go + k * 6 + 5, none⟩) hgb).trans h5
                 clear x0 x1 x2 x3
                 obtain ⟨x0, x1, x2, x3⟩ := HX3.out.four)
              | (go_at_call 27
                 refine (HM _).out.mono ?_
                 rintro e w' ⟨rfl, rfl⟩)
              | (refine step_appendMany' rfl _ _ 35 rfl w.heap.size 3 i0 (.int .i64 0) 1 8 Try.underlying35 hi hz0 hz1 hz2 rfl (by decide) (by decide) A' acc.length c' (cellsI acc) rfl (HO3.out.alloc _) _ 1 _ [.int .i64 X] rfl (BX.rd1 (BX.new w3 #[.int .i64 X] 3)) (fun h => by cases h) (by simp [Value.oneCell']) (by omega) (by simp; omega) ?_
                 intro A2 c2 w4 hown2 hg2 hpl2
                 have hne2 := own_far HO3.out hgw
                 have HX4 := Lib.hid ((HX3.out.alloc (.cells #[.int .i64 X] 3)).grown hg2 (HX3.out.not_own (by decide) HO3.out))
                 have hb4 : gb < w3.heap.size := Nat.lt_of_lt_of_le hgw hs3
                 replace h0 := cell_push hg2 hb4 hne2 h0
                 replace h1 := cell_push hg2 hb4 hne2 h1
                 replace h2 := cell_push hg2 hb4 hne2 h2
                 replace h3 := cell_push hg2 hb4 hne2 h3
                 replace h4 := cell_push hg2 hb4 hne2 h4
                 replace h5 := cell_push hg2 hb4 hne2 h5
                 clear x0 x1 x2 x3
                 obtain ⟨x0, x1, x2, x3⟩ := HX4.out.four))
          have HB4 := Lib.hid (Below.row (Below.alloc HB3.out hs3 (.cells #[.int .i64 X] 3)) (HO3.out.alloc (.cells #[.int .i64 X] 3)) hg2 (Nat.le_refl _) (by simp; omega))
          have HO4 := Lib.hid hown2
          clear hg2 hpl2 hown2 h0 h1 h2 h3 h4 h5 x0 x1 x2 x3
          go_wp2
          go_roundw
          case rel => exact ⟨k + 1, acc ++ [X], A2, c2, by omega, by simp; omega, by go_num, by simp, by simpa [cellsI] using HO4.out, HX4.out, HB4.out, M2⟩
          case measure => simp [intOf]; omega
        · have M2 : Hid (ofOut t l = acc) := by
            show _ = _; rw [ofOut, if_pos e1.out, M.out, List.drop_of_length_le (by omega)]; simp
          have HB := Lib.hid hb
          have HO := Lib.hid hown
          clear M hb hown
          go_wp2
          go_ret2
          exact ⟨_, by rw [e1.out]; rfl, ⟨A', c', by rw [M2.out]; rfl, by rw [M2.out]; exact HO.out⟩, HB.out⟩
    · have e1 : Hid (ofOk t l = false) := by
        show _ = _; rw [ofOk]; simp_all
      go_enter Try.func12, Try.ntmps12
      go_wp2_with fail
      refine (HT _).out.mono ?_
      rintro e w1 ⟨rfl, hb1⟩
      rw [h1]
      have B1 := Lib.hid (Below.transB B0.out (Nat.le_refl _) hb1)
      have hb1x := Lib.hid hb1
      clear hb1
      go_wp2_with fail
      refine (HA _ (HR.out.below B1.out)).out.mono ?_
      rintro e w2 ⟨rfl, hb2⟩
      rw [show areB l = false by simpa using h2]
      have B2 := Lib.hid (Below.transB B1.out (Nat.le_refl _) hb2)
      have hb2x := Lib.hid hb2
      clear hb2
      go_wp2
      go_ret2
      exact ⟨_, by rw [e1.out]; rfl, by rw [ofOut, if_neg (by rw [e1.out]; simp)]; exact ⟨_, _, rfl, own_below (own_below E0.out hb1x.out) hb2x.out⟩, B2.out⟩
  · have e1 : Hid (ofOk t l = false) := by
      show _ = _; rw [ofOk]; simp_all
    go_enter Try.func12, Try.ntmps12
    go_wp2_with fail
    refine (HT _).out.mono ?_
    rintro e w1 ⟨rfl, hb1⟩
    rw [show tarOk t = false by simpa using h1]
    have B1 := Lib.hid (Below.transB B0.out (Nat.le_refl _) hb1)
    have hb1x := Lib.hid hb1
    clear hb1
    go_wp2
    go_ret2
    exact ⟨_, by rw [e1.out]; rfl, by rw [ofOut, if_neg (by rw [e1.out]; simp)]; exact ⟨_, _, rfl, own_below E0.out hb1x.out⟩, B1.out⟩

end Go.Proofs.Ytpifimghlfpbaaa
