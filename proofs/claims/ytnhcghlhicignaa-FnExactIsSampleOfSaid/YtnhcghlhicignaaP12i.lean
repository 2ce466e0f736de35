/-
  OrderTaken: by the reference and by the program; the law on it.
  Conditions: those written at each theorem.
-/
import Derived.Test.YtnhcghlhicignaaP12h
namespace Go.Proofs.Ytnhcghlhicignaa
open Go.RowKit Go.BigFrame
set_option maxRecDepth 100000

/-- where a draw is made -/
def askB (l : List Int) (n s : Int) : Bool := popB l && inB n 0 l.length && inB s 0 99999
theorem askB_true {l : List Int} {n s : Int} (h : askB l n s = true) : popB l = true ∧ inB n 0 l.length = true ∧ inB s 0 99999 = true := by simpa [askB, and_assoc] using h
def otOut (l : List Int) (n s : Int) : List Int := if askB l n s = true then (takeF l n.toNat s).1 else []

theorem l12Seed_any (s : Int) (w : World) : Calls Try.prog 61 #[.int .i64 s] w fun e w' => e = .returned (.bool (inB s 0 99999)) ∧ w = w' := by
  go_enter Try.func61, Try.ntmps61
  go_wp2_with (go_at_call 40; refine (l1In_any _ _ _ _).mono ?_; rintro e w' ⟨rfl, rfl⟩)
  go_ret
  exact ⟨rfl, rfl⟩
theorem isSeed_any (s : Int) (w : World) : Calls Try.prog 46 #[.int .i64 s] w fun e w' => e = .returned (.bool (inB s 0 99999)) ∧ w = w' := by
  go_enter Try.func46, Try.ntmps46
  go_wp2_with (go_at_call 39; refine (within_any _ _ _ _).mono ?_; rintro e w' ⟨rfl, rfl⟩)
  go_ret
  exact ⟨rfl, rfl⟩

theorem l12Asked_any (l : List Int) (n s : Int) (A : Option Addr) (c : Nat) (w : World) (hr : Rd w 1 A l.length (cellsI l)) (hl : l.length ≤ 1048576) :
    Calls Try.prog 44 #[.slice A l.length c, .int .i64 n, .int .i64 s] w fun e w' => e = .returned (.bool (askB l n s)) ∧ Below w.heap.size w w' := by
  have hans : Hid (askB l n s = (popB l && inB n 0 l.length && inB s 0 99999)) := rfl
  by_cases h1 : popB l = true <;> by_cases h2 : inB n 0 l.length = true
  all_goals
    go_enter Try.func44, Try.ntmps44
    go_wp2_with fail
    refine (l12Good_any l A c (by omega) _ hr).mono ?_
    rintro e w1 ⟨rfl, hb1⟩
    go_wp2_with (first
      | (go_at_call 40; refine (l1In_any _ _ _ _).mono ?_; rintro e w' ⟨rfl, rfl⟩)
      | (go_at_call 61; refine (l12Seed_any _ _).mono ?_; rintro e w' ⟨rfl, rfl⟩))
    go_ret
    refine ⟨?_, hb1⟩
    rw [hans.out]
    simp [h1, h2]

set_option maxHeartbeats 400000 in
theorem implOrderTaken_any (l : List Int) (n s : Int) (A : Option Addr) (c : Nat) (hA : A = none → c = 0) (w : World) (hr : Rd w 1 A l.length (cellsI l)) (hl : l.length ≤ 1048576) :
    Calls Try.prog 25 #[.slice A l.length c, .int .i64 n, .int .i64 s] w fun e w' => ∃ v, e = .returned (.tuple #[v, .bool (askB l n s)]) ∧ SlI w.heap.size w' (otOut l n s) v ∧ Below w.heap.size w w' := by
  have HI := fun W h => Lib.hid (implIsPopulation_any l A c (by omega) W h)
  have HR := Lib.hid hr
  clear hr
  by_cases hok : askB l n s = true
  · have e1 : Hid (askB l n s = true) := hok
    have e2 : Hid (otOut l n s = (takeF l n.toNat s).1) := if_pos hok
    obtain ⟨h1, h2, h3⟩ := askB_true hok
    clear hok
    have b2 := inB_true h2
    have b3 := inB_true h3
    have hln := popB_len h1
    obtain ⟨m, rfl⟩ := Int.eq_ofNat_of_zero_le (show 0 ≤ n by omega)
    simp only [Int.toNat_natCast] at e2
    have HT := fun W h => Lib.hid (taken_any l m s A c W h hA hln (by omega) (by omega))
    go_enter Try.func25, Try.ntmps25
    go_wp2_with (first
      | (go_at_call 39; refine (within_any _ _ _ _).mono ?_; rintro e w' ⟨rfl, rfl⟩)
      | (go_at_call 46; refine (isSeed_any _ _).mono ?_; rintro e w' ⟨rfl, rfl⟩)
      | (go_at_call 14; refine (HI _ HR.out).out.mono ?_; rintro e w' ⟨rfl, rfl⟩))
    refine (HT _ HR.out).out.mono ?_
    rintro e w1 ⟨v, rfl, hv, hb⟩
    have HV := Lib.hid hv
    have HB := Lib.hid hb
    clear hv hb
    go_wp2
    go_ret2
    exact ⟨_, by rw [e1.out]; rfl, by rw [e2.out]; exact HV.out, HB.out⟩
  · have e1 : Hid (askB l n s = false) := by show _ = _; simpa using hok
    have e2 : Hid (otOut l n s = []) := if_neg hok
    have HK : Hid (¬ (popB l = true ∧ inB n 0 l.length = true ∧ inB s 0 99999 = true)) := fun h => hok (by simp [askB, h])
    clear hok
    go_enter Try.func25, Try.ntmps25
    go_wp2_with (first
      | (go_at_call 39; refine (within_any _ _ _ _).mono ?_; rintro e w' ⟨rfl, rfl⟩)
      | (go_at_call 46; refine (isSeed_any _ _).mono ?_; rintro e w' ⟨rfl, rfl⟩)
      | (go_at_call 14; refine (HI _ HR.out).out.mono ?_; rintro e w' ⟨rfl, rfl⟩))
    all_goals first
      | (go_ret2; exact ⟨_, by rw [e1.out]; rfl, by rw [e2.out]; exact SlI.nil _ _, Below.refl _ _⟩)
      | (exfalso; have := HK.out; clear HK e1 e2 HI HR; simp_all; done)

set_option maxHeartbeats 400000 in
theorem specOrderTaken_any (l : List Int) (n s : Int) (A : Option Addr) (c : Nat) (hA : A = none → c = 0) (w : World) (hr : Rd w 1 A l.length (cellsI l)) (hl : l.length ≤ 1048576) :
    Calls Try.prog 24 #[.slice A l.length c, .int .i64 n, .int .i64 s] w fun e w' => ∃ v, e = .returned (.tuple #[v, .bool (askB l n s)]) ∧ SlI w.heap.size w' (otOut l n s) v ∧ Below w.heap.size w w' := by
  have HI := fun W h => Lib.hid (l12Asked_any l n s A c W h hl)
  have HR := Lib.hid hr
  clear hr
  by_cases hok : askB l n s = true
  · have e1 : Hid (askB l n s = true) := hok
    have e2 : Hid (otOut l n s = (takeF l n.toNat s).1) := if_pos hok
    obtain ⟨h1, h2, h3⟩ := askB_true hok
    have b2 := inB_true h2
    have b3 := inB_true h3
    have hln := popB_len h1
    clear h1 h2 h3
    obtain ⟨m, rfl⟩ := Int.eq_ofNat_of_zero_le (show 0 ≤ n by omega)
    simp only [Int.toNat_natCast] at e2
    have HT := fun W h => Lib.hid (l12Take_any l m s A c W h hA hln (by omega) (by omega))
    go_enter Try.func24, Try.ntmps24
    go_wp2_with fail
    refine (HI _ HR.out).out.mono ?_
    rintro e w1 ⟨rfl, hb1⟩
    have HB1 := Lib.hid hb1
    clear hb1
    go_wp2_with fail
    refine (HT _ (HR.out.below HB1.out)).out.mono ?_
    rintro e w2 ⟨_, rfl, ⟨A2, c2, rfl, ho⟩, hb⟩
    have HV := Lib.hid (own_base ho HB1.out.size)
    have HB := Lib.hid (Below.trans' HB1.out hb)
    clear ho hb
    go_wp2
    go_ret2
    exact ⟨_, by rw [e1.out]; rfl, by rw [e2.out]; exact ⟨_, _, rfl, HV.out⟩, HB.out⟩
  · have e1 : Hid (askB l n s = false) := by show _ = _; simpa using hok
    have e2 : Hid (otOut l n s = []) := if_neg hok
    go_enter Try.func24, Try.ntmps24
    go_wp2_with fail
    refine (HI _ HR.out).out.mono ?_
    rintro e w1 ⟨rfl, hb1⟩
    have HO := Lib.hid (own_empty (B := w.heap.size) w1 3 1 hb1.size)
    have HB := Lib.hid (Below.alloc hb1 hb1.size (.cells #[] 3))
    clear hb1
    go_wp2
    go_ret2
    exact ⟨_, by rw [e1.out]; rfl, by rw [e2.out]; exact ⟨_, _, rfl, HO.out⟩, HB.out⟩


theorem len_otOut (l : List Int) (n s : Int) (hl : l.length ≤ 1048576) : (otOut l n s).length ≤ 1048576 := by
  unfold otOut
  split
  · rename_i h
    have := inB_true (askB_true h).2.1
    have := len_takeF n.toNat l s
    omega
  · simp

set_option maxHeartbeats 1000000 in
theorem walkOrderTaken {w : World} (v : Value) (hv : InI w v) (n : Int) (_ : I64 n) (s : Int) (_ : I64 s) : Calls Try.prog 7 #[v, .int .i64 n, .int .i64 s] w fun e w' => e = .returned (.bool true) ∧ Below w.heap.size w w' := by
  obtain ⟨A, c, l, rfl, hr, hbd, hm⟩ := hv
  by_cases hl : l.length ≤ 1048576
  · have hout : (otOut l n s).length ≤ 1048576 := len_otOut l n s hl
    have HS := fun W (g : Nat) c h => Lib.hid (specOrderTaken_any l n s (some ⟨g, 0, none⟩) c (by simp) W h hl)
    have HI := fun W (g : Nat) c h => Lib.hid (implOrderTaken_any l n s (some ⟨g, 0, none⟩) c (by simp) W h hl)
    generalize otOut l n s = out at HS HI hout
    have HR := Lib.hid hr
    clear hr hbd
    go_enter Try.func7, Try.ntmps7
    go_wp2_with fail
    refine (toIntS_any l A c _ HR.out hl).mono ?_
    rintro e w1 ⟨g1, rfl, ho1, hb1⟩
    go_wp2_with fail
    refine (HS _ _ _ (Rd.of_own ho1)).out.mono ?_
    rintro e w2 ⟨_, rfl, ⟨A0, c0, rfl, ho2⟩, hb2⟩
    have B2 := Below.trans' hb1 hb2
    clear ho1 hb1 hb2
    have HO0 := Lib.hid ho2
    clear ho2
    go_wp2_with fail
    refine (toIntS_any l A c _ (HR.out.below B2) hl).mono ?_
    rintro e w3 ⟨g3, rfl, ho3, hb3⟩
    have B3 := Below.trans' B2 hb3
    have nex : (Value.slice A0 out.length c0).ownBlock = none ∨ (Value.slice A0 out.length c0).ownBlock ≠ (Value.slice (some ⟨g3, 0, none⟩) l.length l.length).ownBlock := own_ne HO0.out ho3 (Nat.le_refl _)
    have NE := Lib.hid nex
    have HO3 := Lib.hid (own_below HO0.out hb3)
    have HX3 := Lib.hid ho3
    have hs23 := hb3.size
    clear ho3 hb3 nex HO0
    go_wp2_with fail
    refine (HI _ _ _ (Rd.of_own HX3.out)).out.mono ?_
    rintro e w4 ⟨_, rfl, ⟨A1, c1, rfl, ho4⟩, hb4⟩
    have B4 := Lib.hid (Below.trans' B3 hb4)
    have ng0 : (Value.slice A0 out.length c0).ownBlock = none ∨ (Value.slice A0 out.length c0).ownBlock ≠ (Value.slice A1 out.length c1).ownBlock := own_ne HO3.out ho4 (Nat.le_refl _)
    have ngx := own_ne' HX3.out ho4 (Nat.le_refl _)
    have NG0 := Lib.hid ng0
    have NGX := Lib.hid ngx
    have HO4 := Lib.hid (own_below HO3.out hb4)
    have HX4 := Lib.hid (own_below HX3.out hb4)
    have HG4 := Lib.hid ho4
    clear B3 ho4 hb4 ng0 ngx HO3 HX3
    go_wp2_with fail
    refine (eqIntS_same out _ _ _ _ _ (Rd.of_own HG4.out) (Rd.of_own HO4.out) hout).mono ?_
    rintro e w5 ⟨rfl, hb5⟩
    have B5 := Lib.hid (Below.trans' B4.out hb5)
    have HO5 := Lib.hid (own_below HO4.out hb5)
    have HX5 := Lib.hid (own_below HX4.out hb5)
    have HG5 := Lib.hid (own_below HG4.out hb5)
    clear B4 hb5 HO4 HX4 HG4
    go_wp2_with fail
    refine (toIntS_any l A c _ (HR.out.below B5.out) hl).mono ?_
    rintro e w6 ⟨g6, rfl, ho6, hb6⟩
    have HO6 := Lib.hid (own_below HO5.out hb6)
    have HX6 := Lib.hid (own_below HX5.out hb6)
    have HG6 := Lib.hid (own_below HG5.out hb6)
    go_wp2_with fail
    refine (eqIntS_same l _ _ _ _ _ (Rd.of_own HX6.out) (Rd.of_own ho6) hl).mono ?_
    rintro e w7 ⟨rfl, hb7⟩
    have B7 := Lib.hid (Below.trans' (Below.trans' B5.out hb6) hb7)
    have HO7 := Lib.hid (own_below HO6.out hb7)
    have HX7 := Lib.hid (own_below HX6.out hb7)
    have HG7 := Lib.hid (own_below HG6.out hb7)
    clear B5 ho6 hb6 hb7 HO5 HX5 HG5 HO6 HX6 HG6
    go_wp2_with fail
    refine (markIntS_any _ l.length 1 _ _ _ _ HX7.out (by omega) (by omega)).mono ?_
    rintro e w8 ⟨rfl, ho8, hg8⟩
    have B8 := Lib.hid (Below.row B7.out HX7.out hg8 B2.size B7.out.size)
    have HO8 := Lib.hid (HO7.out.kept hg8 NE.out)
    have HG8 := Lib.hid (HG7.out.kept hg8 NGX.out)
    clear B7 ho8 hg8 HO7 HX7 HG7
    go_wp2_with fail
    refine (eqIntS_same out _ _ _ _ _ (Rd.of_own HG8.out) (Rd.of_own HO8.out) hout).mono ?_
    rintro e w9 ⟨rfl, hb9⟩
    have B9 := Lib.hid (Below.trans' B8.out hb9)
    have HO9 := Lib.hid (own_below HO8.out hb9)
    have HG9 := Lib.hid (own_below HG8.out hb9)
    clear B8 hb9 HO8 HG8
    go_wp2_with fail
    refine (markIntS_any _ out.length 1 _ _ _ _ HG9.out (by omega) (by omega)).mono ?_
    rintro e wa ⟨rfl, hoa, hga⟩
    have BA := Lib.hid (Below.row B9.out HG9.out hga (Nat.le_trans B2.size hs23) B9.out.size)
    have HOA := Lib.hid (HO9.out.kept hga NG0.out)
    have HGA := Lib.hid hoa
    clear B9 hoa hga HO9 HG9
    go_wp2_with fail
    refine (heldIntS_any out.length 1 _ _ _ (Rd.of_own HGA.out) (by omega) (by omega)).mono ?_
    rintro e wb ⟨rfl, rfl⟩
    go_wp2_with fail
    refine (toIntS_any l A c _ (HR.out.below BA.out) hl).mono ?_
    rintro e wc ⟨gc, rfl, hoc, hbc⟩
    have BC := Lib.hid (Below.trans' BA.out hbc)
    have HOC := Lib.hid (own_below HOA.out hbc)
    have HGC := Lib.hid (own_below HGA.out hbc)
    clear BA hbc HOA HGA
    go_wp2_with fail
    refine (HI _ _ _ (Rd.of_own hoc)).out.mono ?_
    rintro e wd ⟨_, rfl, ⟨A2, c2, rfl, hod⟩, hbd⟩
    have BD := Lib.hid (Below.trans' BC.out hbd)
    have HOD := Lib.hid (own_below HOC.out hbd)
    have HGD := Lib.hid (own_below HGC.out hbd)
    have HHD := Lib.hid hod
    clear BC hoc hod hbd HOC HGC
    go_wp2_with fail
    refine (eqIntS_same out _ _ _ _ _ (Rd.of_own HHD.out) (Rd.of_own HOD.out) hout).mono ?_
    rintro e we ⟨rfl, hbe⟩
    have BE := Lib.hid (Below.trans' BD.out hbe)
    have HGE := Lib.hid (own_below HGD.out hbe)
    clear BD hbe HOD HGD HHD
    go_wp2_with fail
    refine (heldIntS_any out.length 1 _ _ _ (Rd.of_own HGE.out) (by omega) (by omega)).mono ?_
    rintro e wf ⟨rfl, rfl⟩
    go_wp2
    go_ret
    exact ⟨rfl, BE.out⟩
  · go_enter Try.func7, Try.ntmps7
    go_wp2
    go_ret
    exact ⟨rfl, Below.refl _ _⟩

end Go.Proofs.Ytnhcghlhicignaa
