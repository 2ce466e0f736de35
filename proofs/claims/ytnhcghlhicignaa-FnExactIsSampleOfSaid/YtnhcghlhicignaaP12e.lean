/-
  The walks of the laws SeedFor and EveryNth. Written by gen_laws.py.
  Conditions: those written at each theorem.
-/
import Derived.Test.YtnhcghlhicignaaP12d
import Derived.Test.YtnhcghlhicignaaP12b
namespace Go.Proofs.Ytnhcghlhicignaa
open Go.RowKit Go.BigFrame
set_option maxRecDepth 100000

set_option maxHeartbeats 400000 in
theorem walkSeedFor {w : World} (v : Value) (hv : InI w v) (x : Int) (_ : I64 x) : Calls Try.prog 5 #[v, .int .i64 x] w fun e w' => e = .returned (.bool true) ∧ Below w.heap.size w w' := by
  obtain ⟨A, c, l, rfl, hr, _, hm⟩ := hv
  by_cases hl : l.length ≤ 1048576
  · obtain ⟨y1, y2, hx⟩ := sfAns_form l x
    have HX := Lib.hid hx
    clear hx
    go_enter Try.func5, Try.ntmps5
    go_wp2_with fail

    refine (toIntS_any l A c _ hr hl).mono ?_
    rintro e w1 ⟨g1, rfl, ho1, hb1⟩
    go_wp2_with fail
    refine (specSeedFor_any l x _ _ hl _ (Rd.of_own ho1)).mono ?_
    rintro e w2 ⟨rfl, hb2⟩
    rw [HX.out]
    have B2 := Below.trans' hb1 hb2
    clear ho1 hb1 hb2
    go_wp2_with fail
    refine (toIntS_any l A c _ (hr.below B2) hl).mono ?_
    rintro e w3 ⟨g3, rfl, ho3, hb3⟩
    have B3 := Below.trans' B2 hb3
    have R3 := Rd.of_own ho3
    clear B2 ho3 hb3
    go_wp2_with fail
    refine (implSeedFor_any l x _ _ hl _ R3).mono ?_
    rintro e w4 ⟨rfl, hb4⟩
    rw [HX.out]
    have B4 := Below.trans' B3 hb4
    have R4 := R3.below hb4
    clear B3 hb4 R3
    go_wp2_with fail
    refine (toIntS_any l A c _ (hr.below B4) hl).mono ?_
    rintro e w5 ⟨g5, rfl, ho5, hb5⟩
    have B5 := Below.trans' B4 hb5
    have R5 := Rd.of_own ho5
    have R4' := R4.below hb5
    clear B4 ho5 hb5 R4
    go_wp2_with fail
    refine (eqIntS_same l _ _ _ _ _ R4' R5 hl).mono ?_
    rintro e w6 ⟨rfl, hb6⟩
    have B6 := Lib.hid (Below.trans' B5 hb6)
    clear B5 hb6 R4' R5
    go_wp2
    go_ret
    exact ⟨rfl, B6.out⟩
  · go_enter Try.func5, Try.ntmps5
    go_wp2
    go_ret
    exact ⟨rfl, Below.refl _ _⟩

theorem len_everyF (l : List Int) (k : Nat) : ∀ f i, (everyF l k f i).length ≤ f
  | 0, _ => by simp [everyF]
  | f + 1, i => by
    unfold everyF
    split
    · have := len_everyF l k f (i + k); simp; omega
    · simp
theorem len_enOut (l : List Int) (k s : Int) (hl : l.length ≤ 1048576) : (enOut l k s).length ≤ 1048576 := by
  unfold enOut
  split
  · exact Nat.le_trans (len_everyF _ _ _ _) hl
  · simp

set_option maxHeartbeats 1000000 in
theorem walkEveryNth {w : World} (v : Value) (hv : InI w v) (k : Int) (hk : I64 k) (s : Int) (_ : I64 s) : Calls Try.prog 6 #[v, .int .i64 k, .int .i64 s] w fun e w' => e = .returned (.bool true) ∧ Below w.heap.size w w' := by
  obtain ⟨A, c, l, rfl, hr, hbd, hm⟩ := hv
  by_cases hl : l.length ≤ 1048576
  · have hout : (enOut l k s).length ≤ 1048576 := len_enOut l k s hl
    have HS := fun W (g : Nat) c h => Lib.hid ((fun A c W h => specEveryNth_any l k s A c hl hk W h) (some ⟨g, 0, none⟩) c W h)
    have HI := fun W (g : Nat) c h => Lib.hid ((fun A c W h => implEveryNth_any l k s A c hl hk W h) (some ⟨g, 0, none⟩) c W h)
    generalize enOut l k s = out at HS HI hout
    have HR := Lib.hid hr
    clear hr hbd
    go_enter Try.func6, Try.ntmps6
    go_wp2_with fail
    refine (toIntS_any l A c _ HR.out hl).mono ?_
    rintro e w1 ⟨g1, rfl, ho1, hb1⟩
    go_wp2_with fail
    refine (HS _ _ _ (Rd.of_own ho1)).out.mono ?_
    rintro e w2 ⟨_, rfl, ⟨A0, c0, rfl, ho2⟩, hb2⟩
    have B2 := Below.trans' hb1 hb2
    clear ho1 hb1 hb2
    have HO0 := Lib.hid ho2
    clear ho2
    go_wp2_with fail
    refine (toIntS_any l A c _ (HR.out.below B2) hl).mono ?_
    rintro e w3 ⟨g3, rfl, ho3, hb3⟩
    have B3 := Below.trans' B2 hb3
    have nex : (Value.slice A0 out.length c0).ownBlock = none ∨ (Value.slice A0 out.length c0).ownBlock ≠ (Value.slice (some ⟨g3, 0, none⟩) l.length l.length).ownBlock := own_ne HO0.out ho3 (Nat.le_refl _)
    have NE := Lib.hid nex
    have HO3 := Lib.hid (own_below HO0.out hb3)
    have HX3 := Lib.hid ho3
    have hs23 := hb3.size
    clear ho3 hb3 nex HO0
    go_wp2_with fail
    refine (HI _ _ _ (Rd.of_own HX3.out)).out.mono ?_
    rintro e w4 ⟨_, rfl, ⟨A1, c1, rfl, ho4⟩, hb4⟩
    have B4 := Lib.hid (Below.trans' B3 hb4)
    have ng0 : (Value.slice A0 out.length c0).ownBlock = none ∨ (Value.slice A0 out.length c0).ownBlock ≠ (Value.slice A1 out.length c1).ownBlock := own_ne HO3.out ho4 (Nat.le_refl _)
    have ngx := own_ne' HX3.out ho4 (Nat.le_refl _)
    have NG0 := Lib.hid ng0
    have NGX := Lib.hid ngx
    have HO4 := Lib.hid (own_below HO3.out hb4)
    have HX4 := Lib.hid (own_below HX3.out hb4)
    have HG4 := Lib.hid ho4
    clear B3 ho4 hb4 ng0 ngx HO3 HX3
    go_wp2_with fail
    refine (eqIntS_same out _ _ _ _ _ (Rd.of_own HG4.out) (Rd.of_own HO4.out) hout).mono ?_
    rintro e w5 ⟨rfl, hb5⟩
    have B5 := Lib.hid (Below.trans' B4.out hb5)
    have HO5 := Lib.hid (own_below HO4.out hb5)
    have HX5 := Lib.hid (own_below HX4.out hb5)
    have HG5 := Lib.hid (own_below HG4.out hb5)
    clear B4 hb5 HO4 HX4 HG4
    go_wp2_with fail
    refine (toIntS_any l A c _ (HR.out.below B5.out) hl).mono ?_
    rintro e w6 ⟨g6, rfl, ho6, hb6⟩
    have HO6 := Lib.hid (own_below HO5.out hb6)
    have HX6 := Lib.hid (own_below HX5.out hb6)
    have HG6 := Lib.hid (own_below HG5.out hb6)
    go_wp2_with fail
    refine (eqIntS_same l _ _ _ _ _ (Rd.of_own HX6.out) (Rd.of_own ho6) hl).mono ?_
    rintro e w7 ⟨rfl, hb7⟩
    have B7 := Lib.hid (Below.trans' (Below.trans' B5.out hb6) hb7)
    have HO7 := Lib.hid (own_below HO6.out hb7)
    have HX7 := Lib.hid (own_below HX6.out hb7)
    have HG7 := Lib.hid (own_below HG6.out hb7)
    clear B5 ho6 hb6 hb7 HO5 HX5 HG5 HO6 HX6 HG6
    go_wp2_with fail
    refine (markIntS_any _ l.length 1 _ _ _ _ HX7.out (by omega) (by omega)).mono ?_
    rintro e w8 ⟨rfl, ho8, hg8⟩
    have B8 := Lib.hid (Below.row B7.out HX7.out hg8 B2.size B7.out.size)
    have HO8 := Lib.hid (HO7.out.kept hg8 NE.out)
    have HG8 := Lib.hid (HG7.out.kept hg8 NGX.out)
    clear B7 ho8 hg8 HO7 HX7 HG7
    go_wp2_with fail
    refine (eqIntS_same out _ _ _ _ _ (Rd.of_own HG8.out) (Rd.of_own HO8.out) hout).mono ?_
    rintro e w9 ⟨rfl, hb9⟩
    have B9 := Lib.hid (Below.trans' B8.out hb9)
    have HO9 := Lib.hid (own_below HO8.out hb9)
    have HG9 := Lib.hid (own_below HG8.out hb9)
    clear B8 hb9 HO8 HG8
    go_wp2_with fail
    refine (markIntS_any _ out.length 1 _ _ _ _ HG9.out (by omega) (by omega)).mono ?_
    rintro e wa ⟨rfl, hoa, hga⟩
    have BA := Lib.hid (Below.row B9.out HG9.out hga (Nat.le_trans B2.size hs23) B9.out.size)
    have HOA := Lib.hid (HO9.out.kept hga NG0.out)
    have HGA := Lib.hid hoa
    clear B9 hoa hga HO9 HG9
    go_wp2_with fail
    refine (heldIntS_any out.length 1 _ _ _ (Rd.of_own HGA.out) (by omega) (by omega)).mono ?_
    rintro e wb ⟨rfl, rfl⟩
    go_wp2_with fail
    refine (toIntS_any l A c _ (HR.out.below BA.out) hl).mono ?_
    rintro e wc ⟨gc, rfl, hoc, hbc⟩
    have BC := Lib.hid (Below.trans' BA.out hbc)
    have HOC := Lib.hid (own_below HOA.out hbc)
    have HGC := Lib.hid (own_below HGA.out hbc)
    clear BA hbc HOA HGA
    go_wp2_with fail
    refine (HI _ _ _ (Rd.of_own hoc)).out.mono ?_
    rintro e wd ⟨_, rfl, ⟨A2, c2, rfl, hod⟩, hbd⟩
    have BD := Lib.hid (Below.trans' BC.out hbd)
    have HOD := Lib.hid (own_below HOC.out hbd)
    have HGD := Lib.hid (own_below HGC.out hbd)
    have HHD := Lib.hid hod
    clear BC hoc hod hbd HOC HGC
    go_wp2_with fail
    refine (eqIntS_same out _ _ _ _ _ (Rd.of_own HHD.out) (Rd.of_own HOD.out) hout).mono ?_
    rintro e we ⟨rfl, hbe⟩
    have BE := Lib.hid (Below.trans' BD.out hbe)
    have HGE := Lib.hid (own_below HGD.out hbe)
    clear BD hbe HOD HGD HHD
    go_wp2_with fail
    refine (heldIntS_any out.length 1 _ _ _ (Rd.of_own HGE.out) (by omega) (by omega)).mono ?_
    rintro e wf ⟨rfl, rfl⟩
    go_wp2
    go_ret
    exact ⟨rfl, BE.out⟩
  · go_enter Try.func6, Try.ntmps6
    go_wp2
    go_ret
    exact ⟨rfl, Below.refl _ _⟩

end Go.Proofs.Ytnhcghlhicignaa
