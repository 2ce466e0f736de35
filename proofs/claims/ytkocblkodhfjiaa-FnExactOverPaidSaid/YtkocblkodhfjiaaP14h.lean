/-
  OpenFees, OverPaid and CheaperTariff by the program. Written by mk14h.py.
  Conditions: those written at each theorem.
-/
import Derived.Test.YtkocblkodhfjiaaL14c
import Derived.Deep.RegionHeld3
namespace Go.Proofs.Ytkocblkodhfjiaa
open Go.RowKit Go.BigFrame
set_option maxRecDepth 100000

set_option maxHeartbeats 800000 in
theorem open_any (t : Tariff) (b : Bill) (w : World) (h : FeeIn t b) (hp : 0 ≤ b.paid ∧ b.paid ≤ 1000000) : Calls Try.prog 55 #[aggTariff t, aggBill b] w fun e w' => e = .returned (.int .i64 (openI t b)) ∧ Below w.heap.size w w' := by
  have hf := fee_bd h
  have HF := fun W => Lib.hid (fee_any t b W h)
  have e1 : IntKind.i64.wrap (feeI t b - b.paid) = feeI t b - b.paid := IntWalk.i64_in _ (by omega)
  by_cases hc : feeI t b - b.paid < 0
  all_goals
    have ho : Hid (openI t b = if feeI t b - b.paid < 0 then 0 else feeI t b - b.paid) := rfl
    unfold aggTariff aggBill at *
    have bx := (Box.new w #[.int .i64 t.search, .int .i64 t.page, .int .i64 t.free, .int .i64 t.limit] 25).below ((Below.refl _ _).alloc (Nat.le_refl _) (.cells #[.int .i64 b.id, .int .i64 b.hours, .int .i64 b.pages, .bool b.poor, .bool b.pub, .int .i64 b.paid] 32))
    have by_ := Box.new (w.alloc (.cells #[.int .i64 t.search, .int .i64 t.page, .int .i64 t.free, .int .i64 t.limit] 25)) #[.int .i64 b.id, .int .i64 b.hours, .int .i64 b.pages, .bool b.poor, .bool b.pub, .int .i64 b.paid] 32
    rw [World.size_alloc] at by_
    have B0 := Lib.hid (((Below.refl w.heap.size w).alloc (Nat.le_refl _) (.cells #[.int .i64 t.search, .int .i64 t.page, .int .i64 t.free, .int .i64 t.limit] 25)).alloc (by simp) (.cells #[.int .i64 b.id, .int .i64 b.hours, .int .i64 b.pages, .bool b.poor, .bool b.pub, .int .i64 b.paid] 32))
    generalize feeI t b = F at *
    go_enter Try.func55, Try.ntmps55
    go_wp2_with fail
    have a0 := bx.G 0 _ rfl
    have a1 := bx.G 1 _ rfl
    have a2 := bx.G 2 _ rfl
    have a3 := bx.G 3 _ rfl
    have c0 := by_.G 0 _ rfl
    have c1 := by_.G 1 _ rfl
    have c2 := by_.G 2 _ rfl
    have c3 := by_.G 3 _ rfl
    have c4 := by_.G 4 _ rfl
    have c5 := by_.G 5 _ rfl
    clear bx by_
    refine wp_region_grow (by kernel_rfl) (by kernel_rfl) ?_
    repeat (go_big_quiet_step (first | (go_at_call 46; exact quietG (HF _).out)))
    refine wpQuiet_endG ?_
    intro w2 hb2
    have B2 := Lib.hid (Below.trans (B0.out) (hb2.mono (by simp; omega)))
    clear hb2 a0 a1 a2 a3 c0 c1 c2 c3 c4 c5
    go_wp2
    go_ret
    refine ⟨?_, B2.out⟩
    have hoo := ho.out
    first
      | (rw [if_pos hc] at hoo; rw [hoo]; rfl)
      | (rw [if_neg (by omega)] at hoo; rw [hoo]; rfl)

set_option maxHeartbeats 1000000 in
theorem implOpenFees_any (t : Tariff) (l : List Bill) (A : Option Addr) (c : Nat) (hl : l.length ≤ 1048576) (w : World) (hr : Rd w 6 A l.length (cellsBill l)) :
    Calls Try.prog 32 #[aggTariff t, .slice A l.length c] w fun e w' => ∃ v, e = .returned (.tuple #[v, .bool (ofOk t l)]) ∧ SlI w.heap.size w' (ofOut t l) v ∧ Below w.heap.size w w' := by
  obtain ⟨i0, hi, hz0, hz1, hz2⟩ := info_parts infoI
  have HT := fun W => Lib.hid (implIsTariff_any t W)
  have HA := fun W h => Lib.hid (implAreBills_any l A c (by omega) W h)
  have X0 := Lib.hid (BXT.new w #[.int .i64 t.search, .int .i64 t.page, .int .i64 t.free, .int .i64 t.limit] 25)
  have hb0 : Below w.heap.size w (w.alloc (.cells #[.int .i64 t.search, .int .i64 t.page, .int .i64 t.free, .int .i64 t.limit] 25)) := (Below.refl _ _).alloc (Nat.le_refl _) _
  have B0 := Lib.hid hb0
  have HR := Lib.hid hr
  clear hr hb0
  unfold aggTariff at *
  by_cases h1 : tarOk t = true
  · by_cases h2 : areB l = true
    · have e1 : Hid (ofOk t l = true) := by show _ = _; rw [ofOk, h1, h2]; rfl
      have h1' := h1
      obtain ⟨hbo, hb10⟩ := bills_of h2
      have HBO := Lib.hid hbo
      clear hbo
      go_enter Try.func32, Try.ntmps32
      go_wp2_with fail
      refine (HT _).out.mono ?_
      rintro e w1 ⟨rfl, hb1⟩
      rw [h1]
      have X1 := Lib.hid (X0.out.below hb1)
      have B1 := Lib.hid (Below.transB B0.out (Nat.le_refl _) hb1)
      clear hb1 X0 B0
      go_wp2_with fail
      refine (HA _ (HR.out.below B1.out)).out.mono ?_
      rintro e w2 ⟨rfl, hb2⟩
      rw [h2]
      have X2 := Lib.hid (X1.out.below hb2)
      have B2 := Lib.hid (Below.transB B1.out (Nat.le_refl _) hb2)
      clear hb2 X1 B1
      go_wp2_with fail
      go_loopw [6, 19] (fun v6 v19 wr => ∃ (k : Nat) (acc : List Int) (A' : Option Addr) (c' : Nat), k ≤ l.length ∧ acc.length ≤ k ∧ v19 = .int .i64 k ∧ v6 = .slice A' acc.length c' ∧ wr.ownsRow w.heap.size 3 1 (.slice A' acc.length c') acc.length (cellsI acc) ∧ BXT 25 wr w.heap.size [.int .i64 t.search, .int .i64 t.page, .int .i64 t.free, .int .i64 t.limit] ∧ Below w.heap.size w wr ∧ Hid (l.map (openI t) = acc ++ (l.drop k).map (openI t))) (fun _ v19 _ => l.length - (intOf v19).toNat)
      case atStart => exact ⟨0, [], none, 0, Nat.zero_le _, Nat.zero_le _, rfl, rfl, World.ownsRow_nil _ _ _ _, X2.out, B2.out, by show _ = _; rfl⟩
      case round =>
        obtain ⟨k, acc, A', c', hk, hak, rfl, rfl, hown, hX, hb, M⟩ := hrel
        by_cases hlt : k < l.length
        · have hlt' : ((k : Int) < (l.length : Int)) := by omega
          obtain ⟨gb, go, rfl, hgb, hcell⟩ := (HR.out.below hb).2 (by omega)
          obtain ⟨h0, h1, h2, h3, h4, h5⟩ := cellsBill_at hcell hlt
          clear hcell
          have hok := HBO.out k hlt
          have hin := FeeIn.of h1' hok
          have hpd := (billOk_true hok).2.2.2
          have hid := (billOk_true hok).1
          have hsz := hb.size
          have M1 := M.out
          rw [List.drop_eq_getElem_cons hlt, List.map_cons] at M1
          have M2 : Hid (l.map (openI t) = (acc ++ [openI t l[k]]) ++ (l.drop (k + 1)).map (openI t)) := by
            show _ = _; rw [M1]; simp only [List.append_assoc, List.singleton_append]
          have HO := Lib.hid (hown.alloc (.cells #[.int .i64 l[k].id, .int .i64 l[k].hours, .int .i64 l[k].pages, .bool l[k].poor, .bool l[k].pub, .int .i64 l[k].paid] 32))
          have hb3 : Below wr.heap.size wr (wr.alloc (.cells #[.int .i64 l[k].id, .int .i64 l[k].hours, .int .i64 l[k].pages, .bool l[k].poor, .bool l[k].pub, .int .i64 l[k].paid] 32)) := (Below.refl _ _).alloc (Nat.le_refl _) _
          have HB := Lib.hid (Below.transB hb (Nat.le_refl _) hb3)
          have HX := Lib.hid (hX.alloc (.cells #[.int .i64 l[k].id, .int .i64 l[k].hours, .int .i64 l[k].pages, .bool l[k].poor, .bool l[k].pub, .int .i64 l[k].paid] 32))
          clear M M1 hown hX hb hb3
          obtain ⟨x0, x1, x2, x3⟩ := HX.out.four
          go_wp2_with fail
          refine (open_any t l[k] _ hin hpd).mono ?_
          rintro e w3 ⟨rfl, hb3⟩
          have HO3 := Lib.hid (own_below HO.out hb3)
          have HB3 := Lib.hid (Below.transB HB.out (Nat.le_refl _) hb3)
          have hs3 : w.heap.size ≤ w3.heap.size := HB3.out.size
          have HX3 := Lib.hid (HX.out.below hb3)
          clear hb3 HO HB x0 x1 x2 x3 HX h0 h1 h2 h3 h4 h5
          generalize openI t l[k] = X at *
          go_wp2_with (at_builtin; refine wpList_push rfl _ _ 50 rfl w.heap.size 3 i0 (.int .i64 0) 1 8 Try.underlying50 hi hz0 hz1 hz2 rfl (by decide) (by decide) _ _ _ _ rfl HO3.out #[.int .i64 X] _ rfl rfl (by simp [Value.oneCell']) (by omega) hs3 ?_; intro A2 c2 w4 hown2 hg2)
          go_roundw
          case rel => exact ⟨k + 1, acc ++ [X], A2, c2, by omega, by simp; omega, by go_num, by simp, by simpa [cellsI] using hown2, HX3.out.grown hg2 (HX3.out.not_own (by decide) HO3.out), Below.row HB3.out HO3.out hg2 (Nat.le_refl _) hs3, M2⟩
          case measure => simp [intOf]; omega
        · have M2 : Hid (ofOut t l = acc) := by
            show _ = _; rw [ofOut, if_pos e1.out, M.out, List.drop_of_length_le (by omega)]; simp
          have HB := Lib.hid hb
          have HO := Lib.hid hown
          clear M hb hown
          go_wp2
          go_ret2
          exact ⟨_, by rw [e1.out]; rfl, ⟨A', c', by rw [M2.out]; rfl, by rw [M2.out]; exact HO.out⟩, HB.out⟩
    · have e1 : Hid (ofOk t l = false) := by
        show _ = _; rw [ofOk]; simp_all
      go_enter Try.func32, Try.ntmps32
      go_wp2_with fail
      refine (HT _).out.mono ?_
      rintro e w1 ⟨rfl, hb1⟩
      rw [h1]
      have B1 := Lib.hid (Below.transB B0.out (Nat.le_refl _) hb1)
      clear hb1
      go_wp2_with fail
      refine (HA _ (HR.out.below B1.out)).out.mono ?_
      rintro e w2 ⟨rfl, hb2⟩
      rw [show areB l = false by simpa using h2]
      have B2 := Lib.hid (Below.transB B1.out (Nat.le_refl _) hb2)
      clear hb2
      go_wp2
      go_ret2
      exact ⟨_, by rw [e1.out]; rfl, by rw [ofOut, if_neg (by rw [e1.out]; simp)]; exact SlI.nil _ _, B2.out⟩
  · have e1 : Hid (ofOk t l = false) := by
      show _ = _; rw [ofOk]; simp_all
    go_enter Try.func32, Try.ntmps32
    go_wp2_with fail
    refine (HT _).out.mono ?_
    rintro e w1 ⟨rfl, hb1⟩
    rw [show tarOk t = false by simpa using h1]
    have B1 := Lib.hid (Below.transB B0.out (Nat.le_refl _) hb1)
    clear hb1
    go_wp2
    go_ret2
    exact ⟨_, by rw [e1.out]; rfl, by rw [ofOut, if_neg (by rw [e1.out]; simp)]; exact SlI.nil _ _, B1.out⟩

end Go.Proofs.Ytkocblkodhfjiaa
