/-
  The walks of the laws ExtendRequest and StopClock. Written by mk13n.py.
  Conditions: those written at each theorem.
-/
import Derived.Test.YtaogjkgaecjfoaaP13m
import Derived.Test.YtaogjkgaecjfoaaP13g
namespace Go.Proofs.Ytaogjkgaecjfoaa
open Go.RowKit Go.BigFrame
set_option maxRecDepth 100000

theorem len_exOut (r : Req) (n : Int) (hl : r.stops.length ≤ 1048576) : (exOut r n).stops.length ≤ 1048576 := by
  unfold exOut; split
  · exact hl
  · simp [noReq]
theorem len_stOut (r : Req) (a b : Int) : (stOut r a b).stops.length ≤ 1048576 := by
  unfold stOut; split
  · rename_i h
    have h1 : reqOk ⟨r.id, r.came, r.working, r.extended, r.stops ++ [(a, b)]⟩ = true := by
      simp only [stOk, Bool.and_eq_true] at h; exact h.2
    have := (headOk_true (reqOk_true h1).1).2.2.2.2
    omega
  · simp [noReq]

set_option maxHeartbeats 2000000 in
theorem lawExtendRequest (r : Req) (n : Int) (A : Option Addr) (c : Nat) (w : World) (hr : Rd w 2 A r.stops.length (cells2 r.stops)) (hl : r.stops.length ≤ 1048576) :
    Calls Try.prog 9 #[.agg #[.int .i64 r.id, .int .i64 r.came, .int .i64 r.working, .int .i64 r.extended, .slice A r.stops.length c], .int .i64 n] w fun e w' => e = .returned (.bool true) ∧ Below w.heap.size w w' := by
  have hout : (exOut r n).stops.length ≤ 1048576 := len_exOut r n hl
  have HS := fun W (g : Nat) c h => Lib.hid (specExtendRequest_any r n ⟨g, 0, none⟩ c W h hl)
  have HI := fun W (g : Nat) c h => Lib.hid (implExtendRequest_any r n ⟨g, 0, none⟩ c W h hl)
  generalize exOut r n = out at HS HI hout
  generalize exOk r n = ok at HS HI
  have HR := Lib.hid hr
  clear hr
  go_enter Try.func9, Try.ntmps9
  go_wp2_with fail
  have P0 := Lib.hid (BXT.new w #[.int .i64 r.id, .int .i64 r.came, .int .i64 r.working, .int .i64 r.extended, .slice A r.stops.length c] 30)
  have B0 := Lib.hid (Below.alloc (Below.refl w.heap.size w) (Nat.le_refl _) (.cells #[.int .i64 r.id, .int .i64 r.came, .int .i64 r.working, .int .i64 r.extended, .slice A r.stops.length c] 30))
  refine (szRequest_ok _ _ _ _ _ _ _ _ _ (by omega) (by omega)).mono ?_
  rintro e w1 ⟨rfl, hb⟩
  have P1 := Lib.hid (P0.out.below hb)
  have B1 := Lib.hid (Below.transB B0.out (Nat.le_refl _) hb)
  clear hb P0 B0
  obtain ⟨p0, p1, p2, p3, p4⟩ := P1.out.five
  go_wp2_with fail
  refine (toRequest_any r A c _ (HR.out.below B1.out) hl).mono ?_
  rintro e w2 ⟨g2, rfl, ho2, hb⟩
  have P2 := Lib.hid (P1.out.below hb)
  have B2 := Lib.hid (Below.transB B1.out (Nat.le_refl _) hb)
  clear hb P1 B1 p0 p1 p2 p3 p4
  go_wp2_with fail
  refine (HS _ _ _ (Rd.of_own ho2)).out.mono ?_
  rintro e w3 ⟨_, rfl, ⟨A0, c0, rfl, ho⟩, hb⟩
  clear ho2
  have P3 := Lib.hid (P2.out.below hb)
  have B3 := Lib.hid (Below.transB B2.out (Nat.le_refl _) hb)
  clear hb P2 B2
  have OW3 := Lib.hid ho
  clear ho
  have P4 := Lib.hid (P3.out.alloc (.cells #[.int .i64 out.id, .int .i64 out.came, .int .i64 out.working, .int .i64 out.extended, .slice A0 out.stops.length c0] 33))
  have OW4 := Lib.hid (OW3.out.alloc (.cells #[.int .i64 out.id, .int .i64 out.came, .int .i64 out.working, .int .i64 out.extended, .slice A0 out.stops.length c0] 33))
  have B4 := Lib.hid (Below.alloc B3.out B3.out.size (.cells #[.int .i64 out.id, .int .i64 out.came, .int .i64 out.working, .int .i64 out.extended, .slice A0 out.stops.length c0] 33))
  have W4 := Lib.hid (BXT.new w3 #[.int .i64 out.id, .int .i64 out.came, .int .i64 out.working, .int .i64 out.extended, .slice A0 out.stops.length c0] 33)
  clear P3 OW3 B3
  obtain ⟨p0, p1, p2, p3, p4⟩ := P4.out.five
  go_wp2_with fail
  refine (toRequest_any r A c _ (HR.out.below B4.out) hl).mono ?_
  rintro e w5 ⟨g5, rfl, ho, hb⟩
  have nwx : (Value.slice A0 out.stops.length c0).ownBlock = none ∨ (Value.slice A0 out.stops.length c0).ownBlock ≠ (Value.slice (some ⟨g5, 0, none⟩) r.stops.length r.stops.length).ownBlock := own_ne OW4.out ho (Nat.le_refl _)
  have NWX := Lib.hid nwx
  clear nwx
  have sX := B4.out.size
  have P5 := Lib.hid (P4.out.below hb)
  have W5 := Lib.hid (W4.out.below hb)
  have OW5 := Lib.hid (own_below OW4.out hb)
  have B5 := Lib.hid (Below.transB B4.out (Nat.le_refl _) hb)
  clear hb P4 W4 OW4 B4 p0 p1 p2 p3 p4
  have OX5 := Lib.hid ho
  clear ho
  have P6 := Lib.hid (P5.out.alloc (.cells #[.int .i64 r.id, .int .i64 r.came, .int .i64 r.working, .int .i64 r.extended, .slice (some ⟨g5, 0, none⟩) r.stops.length r.stops.length] 33))
  have W6 := Lib.hid (W5.out.alloc (.cells #[.int .i64 r.id, .int .i64 r.came, .int .i64 r.working, .int .i64 r.extended, .slice (some ⟨g5, 0, none⟩) r.stops.length r.stops.length] 33))
  have OW6 := Lib.hid (OW5.out.alloc (.cells #[.int .i64 r.id, .int .i64 r.came, .int .i64 r.working, .int .i64 r.extended, .slice (some ⟨g5, 0, none⟩) r.stops.length r.stops.length] 33))
  have OX6 := Lib.hid (OX5.out.alloc (.cells #[.int .i64 r.id, .int .i64 r.came, .int .i64 r.working, .int .i64 r.extended, .slice (some ⟨g5, 0, none⟩) r.stops.length r.stops.length] 33))
  have B6 := Lib.hid (Below.alloc B5.out B5.out.size (.cells #[.int .i64 r.id, .int .i64 r.came, .int .i64 r.working, .int .i64 r.extended, .slice (some ⟨g5, 0, none⟩) r.stops.length r.stops.length] 33))
  have X6 := Lib.hid (BXT.new w5 #[.int .i64 r.id, .int .i64 r.came, .int .i64 r.working, .int .i64 r.extended, .slice (some ⟨g5, 0, none⟩) r.stops.length r.stops.length] 33)
  clear P5 W5 OW5 OX5 B5
  obtain ⟨x0, x1, x2, x3, x4⟩ := X6.out.five
  go_wp2_with fail
  refine (HI _ _ _ (Rd.of_own OX6.out)).out.mono ?_
  rintro e w7 ⟨_, rfl, ⟨A1, c1, rfl, ho⟩, hb⟩
  have nwg : (Value.slice A0 out.stops.length c0).ownBlock = none ∨ (Value.slice A0 out.stops.length c0).ownBlock ≠ (Value.slice A1 out.stops.length c1).ownBlock := own_ne OW6.out ho (Nat.le_refl _)
  have ngx : (Value.slice A1 out.stops.length c1).ownBlock = none ∨ (Value.slice A1 out.stops.length c1).ownBlock ≠ (Value.slice (some ⟨g5, 0, none⟩) r.stops.length r.stops.length).ownBlock := own_ne' OX6.out ho (Nat.le_refl _)
  have NWG := Lib.hid nwg
  have NGX := Lib.hid ngx
  clear nwg ngx
  have sG := B6.out.size
  have P7 := Lib.hid (P6.out.below hb)
  have W7 := Lib.hid (W6.out.below hb)
  have X7 := Lib.hid (X6.out.below hb)
  have OW7 := Lib.hid (own_below OW6.out hb)
  have OX7 := Lib.hid (own_below OX6.out hb)
  have B7 := Lib.hid (Below.transB B6.out (Nat.le_refl _) hb)
  clear hb P6 W6 X6 OW6 OX6 B6 x0 x1 x2 x3 x4
  have OG7 := Lib.hid ho
  clear ho
  have P8 := Lib.hid (P7.out.alloc (.cells #[.int .i64 out.id, .int .i64 out.came, .int .i64 out.working, .int .i64 out.extended, .slice A1 out.stops.length c1] 33))
  have W8 := Lib.hid (W7.out.alloc (.cells #[.int .i64 out.id, .int .i64 out.came, .int .i64 out.working, .int .i64 out.extended, .slice A1 out.stops.length c1] 33))
  have X8 := Lib.hid (X7.out.alloc (.cells #[.int .i64 out.id, .int .i64 out.came, .int .i64 out.working, .int .i64 out.extended, .slice A1 out.stops.length c1] 33))
  have OW8 := Lib.hid (OW7.out.alloc (.cells #[.int .i64 out.id, .int .i64 out.came, .int .i64 out.working, .int .i64 out.extended, .slice A1 out.stops.length c1] 33))
  have OX8 := Lib.hid (OX7.out.alloc (.cells #[.int .i64 out.id, .int .i64 out.came, .int .i64 out.working, .int .i64 out.extended, .slice A1 out.stops.length c1] 33))
  have OG8 := Lib.hid (OG7.out.alloc (.cells #[.int .i64 out.id, .int .i64 out.came, .int .i64 out.working, .int .i64 out.extended, .slice A1 out.stops.length c1] 33))
  have B8 := Lib.hid (Below.alloc B7.out B7.out.size (.cells #[.int .i64 out.id, .int .i64 out.came, .int .i64 out.working, .int .i64 out.extended, .slice A1 out.stops.length c1] 33))
  have G8 := Lib.hid (BXT.new w7 #[.int .i64 out.id, .int .i64 out.came, .int .i64 out.working, .int .i64 out.extended, .slice A1 out.stops.length c1] 33)
  clear P7 W7 X7 OW7 OX7 OG7 B7
  obtain ⟨g0, g1, g2, g3, g4⟩ := G8.out.five
  obtain ⟨w0, w1, w2, w3, w4⟩ := W8.out.five
  go_wp2_with fail
  refine (eqRequest_same out _ _ _ _ _ (Rd.of_own OG8.out) (Rd.of_own OW8.out) hout).mono ?_
  rintro e w9 ⟨rfl, hb⟩
  have P9 := Lib.hid (P8.out.below hb)
  have W9 := Lib.hid (W8.out.below hb)
  have X9 := Lib.hid (X8.out.below hb)
  have G9 := Lib.hid (G8.out.below hb)
  have OW9 := Lib.hid (own_below OW8.out hb)
  have OX9 := Lib.hid (own_below OX8.out hb)
  have OG9 := Lib.hid (own_below OG8.out hb)
  have B9 := Lib.hid (Below.transB B8.out (Nat.le_refl _) hb)
  clear hb P8 W8 X8 G8 OW8 OX8 OG8 B8 g0 g1 g2 g3 g4 w0 w1 w2 w3 w4
  obtain ⟨x0, x1, x2, x3, x4⟩ := X9.out.five
  obtain ⟨p0, p1, p2, p3, p4⟩ := P9.out.five
  go_wp2_with fail
  go_region_held3 (fun w' => w'.cell? ⟨w5.heap.size, 0, none⟩ = some (.int .i64 r.id) ∧ w'.cell? ⟨w5.heap.size, 1, none⟩ = some (.int .i64 r.came) ∧ w'.cell? ⟨w5.heap.size, 2, none⟩ = some (.int .i64 r.working) ∧ w'.cell? ⟨w5.heap.size, 3, none⟩ = some (.int .i64 r.extended) ∧ w'.cell? ⟨w5.heap.size, 4, none⟩ = some (.slice (some ⟨g5, 0, none⟩) r.stops.length r.stops.length) ∧ w'.cell? ⟨w.heap.size, 0, none⟩ = some (.int .i64 r.id) ∧ w'.cell? ⟨w.heap.size, 1, none⟩ = some (.int .i64 r.came) ∧ w'.cell? ⟨w.heap.size, 2, none⟩ = some (.int .i64 r.working) ∧ w'.cell? ⟨w.heap.size, 3, none⟩ = some (.int .i64 r.extended) ∧ w'.cell? ⟨w.heap.size, 4, none⟩ = some (.slice A r.stops.length c)) (go_keep)
    (first
      | (go_at_call 21
         refine (toRequest_any r A c _ (HR.out.below B9.out.drew) hl).mono ?_
         rintro e w10 ⟨g10, rfl, ho10, hb⟩
         replace hb := below_ofDrew (a := w) hb
         have P10 := Lib.hid (P9.out.below hb)
         have W10 := Lib.hid (W9.out.below hb)
         have X10 := Lib.hid (X9.out.below hb)
         have G10 := Lib.hid (G9.out.below hb)
         have OW10 := Lib.hid (own_below OW9.out hb)
         have OX10 := Lib.hid (own_below OX9.out hb)
         have OG10 := Lib.hid (own_below OG9.out hb)
         have B10 := Lib.hid (Below.transB B9.out (Nat.le_refl _) hb)
         clear hb P9 W9 X9 G9 OW9 OX9 OG9 B9
         obtain ⟨x0, x1, x2, x3, x4⟩ := X10.out.five
         obtain ⟨p0, p1, p2, p3, p4⟩ := P10.out.five)
      | (go_at_call 23
         refine (eqRequest_same r _ _ _ _ _ (Rd.of_own OX10.out) (Rd.of_own ho10) hl).mono ?_
         rintro e w11 ⟨rfl, hb⟩
         have P11 := Lib.hid (P10.out.below hb)
         have W11 := Lib.hid (W10.out.below hb)
         have X11 := Lib.hid (X10.out.below hb)
         have G11 := Lib.hid (G10.out.below hb)
         have OW11 := Lib.hid (own_below OW10.out hb)
         have OX11 := Lib.hid (own_below OX10.out hb)
         have OG11 := Lib.hid (own_below OG10.out hb)
         have B11 := Lib.hid (Below.transB B10.out (Nat.le_refl _) hb)
         clear hb P10 W10 X10 G10 OW10 OX10 OG10 B10
         obtain ⟨x0, x1, x2, x3, x4⟩ := X11.out.five
         obtain ⟨p0, p1, p2, p3, p4⟩ := P11.out.five))
  go_wp2_with fail
  refine (markRequest_any _ _ _ _ _ r.stops.length 1 _ _ _ _ OX11.out (by omega) (by omega)).mono ?_
  rintro e w12 ⟨rfl, ho, hg⟩
  have P12 := Lib.hid (P11.out.grown hg (P11.out.not_own (by decide) OX11.out))
  have W12 := Lib.hid (W11.out.grown hg (W11.out.not_own (by decide) OX11.out))
  have X12 := Lib.hid (X11.out.grown hg (X11.out.not_own (by decide) OX11.out))
  have G12 := Lib.hid (G11.out.grown hg (G11.out.not_own (by decide) OX11.out))
  have OW12 := Lib.hid (OW11.out.kept hg NWX.out)
  have OG12 := Lib.hid (OG11.out.kept hg NGX.out)
  have B12 := Lib.hid (Below.row B11.out OX11.out hg sX B11.out.size)
  have OX12 := Lib.hid ho
  clear hg ho P11 W11 X11 G11 OW11 OX11 OG11 B11
  obtain ⟨g0, g1, g2, g3, g4⟩ := G12.out.five
  obtain ⟨w0, w1, w2, w3, w4⟩ := W12.out.five
  go_wp2_with fail
  refine (eqRequest_same out _ _ _ _ _ (Rd.of_own OG12.out) (Rd.of_own OW12.out) hout).mono ?_
  rintro e w13 ⟨rfl, hb⟩
  clear OX12
  have P13 := Lib.hid (P12.out.below hb)
  have W13 := Lib.hid (W12.out.below hb)
  have G13 := Lib.hid (G12.out.below hb)
  have OW13 := Lib.hid (own_below OW12.out hb)
  have OG13 := Lib.hid (own_below OG12.out hb)
  have B13 := Lib.hid (Below.transB B12.out (Nat.le_refl _) hb)
  clear hb P12 W12 G12 OW12 OG12 B12 g0 g1 g2 g3 g4 w0 w1 w2 w3 w4
  obtain ⟨g0, g1, g2, g3, g4⟩ := G13.out.five
  go_wp2_with fail
  refine (markRequest_any _ _ _ _ _ out.stops.length 1 _ _ _ _ OG13.out (by omega) (by omega)).mono ?_
  rintro e w14 ⟨rfl, ho, hg⟩
  have P14 := Lib.hid (P13.out.grown hg (P13.out.not_own (by decide) OG13.out))
  have W14 := Lib.hid (W13.out.grown hg (W13.out.not_own (by decide) OG13.out))
  have G14 := Lib.hid (G13.out.grown hg (G13.out.not_own (by decide) OG13.out))
  have OW14 := Lib.hid (OW13.out.kept hg NWG.out)
  have B14 := Lib.hid (Below.row B13.out OG13.out hg sG B13.out.size)
  have OG14 := Lib.hid ho
  clear hg ho P13 W13 G13 OW13 OG13 B13 g0 g1 g2 g3 g4
  obtain ⟨g0, g1, g2, g3, g4⟩ := G14.out.five
  go_wp2_with fail
  refine (heldRequest_any _ _ _ _ out.stops.length 1 _ _ _ (Rd.of_own OG14.out) (by omega) (by omega)).mono ?_
  rintro e w15 ⟨rfl, hb⟩
  have P15 := Lib.hid (P14.out.below hb)
  have W15 := Lib.hid (W14.out.below hb)
  have G15 := Lib.hid (G14.out.below hb)
  have OW15 := Lib.hid (own_below OW14.out hb)
  have OG15 := Lib.hid (own_below OG14.out hb)
  have B15 := Lib.hid (Below.transB B14.out (Nat.le_refl _) hb)
  clear hb P14 W14 G14 OW14 OG14 B14 g0 g1 g2 g3 g4
  obtain ⟨p0, p1, p2, p3, p4⟩ := P15.out.five
  go_wp2_with fail
  refine (toRequest_any r A c _ (HR.out.below B15.out) hl).mono ?_
  rintro e w16 ⟨g16, rfl, ho16, hb⟩
  have P16 := Lib.hid (P15.out.below hb)
  have W16 := Lib.hid (W15.out.below hb)
  have G16 := Lib.hid (G15.out.below hb)
  have OW16 := Lib.hid (own_below OW15.out hb)
  have OG16 := Lib.hid (own_below OG15.out hb)
  have B16 := Lib.hid (Below.transB B15.out (Nat.le_refl _) hb)
  clear hb P15 W15 G15 OW15 OG15 B15 p0 p1 p2 p3 p4
  go_wp2_with fail
  refine (HI _ _ _ (Rd.of_own ho16)).out.mono ?_
  rintro e w17 ⟨_, rfl, ⟨A2, c2, rfl, ho⟩, hb⟩
  have P17 := Lib.hid (P16.out.below hb)
  have W17 := Lib.hid (W16.out.below hb)
  have G17 := Lib.hid (G16.out.below hb)
  have OW17 := Lib.hid (own_below OW16.out hb)
  have OG17 := Lib.hid (own_below OG16.out hb)
  have B17 := Lib.hid (Below.transB B16.out (Nat.le_refl _) hb)
  clear hb P16 W16 G16 OW16 OG16 B16
  have OH17 := Lib.hid ho
  clear ho
  have P18 := Lib.hid (P17.out.alloc (.cells #[.int .i64 out.id, .int .i64 out.came, .int .i64 out.working, .int .i64 out.extended, .slice A2 out.stops.length c2] 33))
  have W18 := Lib.hid (W17.out.alloc (.cells #[.int .i64 out.id, .int .i64 out.came, .int .i64 out.working, .int .i64 out.extended, .slice A2 out.stops.length c2] 33))
  have G18 := Lib.hid (G17.out.alloc (.cells #[.int .i64 out.id, .int .i64 out.came, .int .i64 out.working, .int .i64 out.extended, .slice A2 out.stops.length c2] 33))
  have OW18 := Lib.hid (OW17.out.alloc (.cells #[.int .i64 out.id, .int .i64 out.came, .int .i64 out.working, .int .i64 out.extended, .slice A2 out.stops.length c2] 33))
  have OG18 := Lib.hid (OG17.out.alloc (.cells #[.int .i64 out.id, .int .i64 out.came, .int .i64 out.working, .int .i64 out.extended, .slice A2 out.stops.length c2] 33))
  have OH18 := Lib.hid (OH17.out.alloc (.cells #[.int .i64 out.id, .int .i64 out.came, .int .i64 out.working, .int .i64 out.extended, .slice A2 out.stops.length c2] 33))
  have B18 := Lib.hid (Below.alloc B17.out B17.out.size (.cells #[.int .i64 out.id, .int .i64 out.came, .int .i64 out.working, .int .i64 out.extended, .slice A2 out.stops.length c2] 33))
  have H18 := Lib.hid (BXT.new w17 #[.int .i64 out.id, .int .i64 out.came, .int .i64 out.working, .int .i64 out.extended, .slice A2 out.stops.length c2] 33)
  clear P17 W17 G17 OW17 OG17 OH17 B17
  obtain ⟨h0, h1, h2, h3, h4⟩ := H18.out.five
  obtain ⟨w0, w1, w2, w3, w4⟩ := W18.out.five
  go_wp2_with fail
  refine (eqRequest_same out _ _ _ _ _ (Rd.of_own OH18.out) (Rd.of_own OW18.out) hout).mono ?_
  rintro e w19 ⟨rfl, hb⟩
  have P19 := Lib.hid (P18.out.below hb)
  have W19 := Lib.hid (W18.out.below hb)
  have G19 := Lib.hid (G18.out.below hb)
  have H19 := Lib.hid (H18.out.below hb)
  have OW19 := Lib.hid (own_below OW18.out hb)
  have OG19 := Lib.hid (own_below OG18.out hb)
  have OH19 := Lib.hid (own_below OH18.out hb)
  have B19 := Lib.hid (Below.transB B18.out (Nat.le_refl _) hb)
  clear hb P18 W18 G18 H18 OW18 OG18 OH18 B18 h0 h1 h2 h3 h4 w0 w1 w2 w3 w4
  obtain ⟨g0, g1, g2, g3, g4⟩ := G19.out.five
  go_wp2_with fail
  refine (heldRequest_any _ _ _ _ out.stops.length 1 _ _ _ (Rd.of_own OG19.out) (by omega) (by omega)).mono ?_
  rintro e w20 ⟨rfl, hb⟩
  have HB := Lib.hid (Below.transB B19.out (Nat.le_refl _) hb)
  clear hb
  go_wp2
  go_ret
  exact ⟨rfl, HB.out⟩

theorem lawExtendRequest_big (a0 a1 a2 a3 : Value) (n : Int) (m : Nat) (A : Option Addr) (c : Nat) (w : World) (hn : m ≤ 9223372036854775807) (hl : 1048576 < m) :
    Calls Try.prog 9 #[.agg #[a0, a1, a2, a3, .slice A m c], .int .i64 n] w fun e w' => e = .returned (.bool true) ∧ Below w.heap.size w w' := by
  go_enter Try.func9, Try.ntmps9
  go_wp2_with fail
  refine (szRequest_no _ _ _ _ _ _ _ _ _ (by omega) (by omega) (by omega)).mono ?_
  rintro e w1 ⟨rfl, hb1⟩
  go_wp2
  go_ret
  exact ⟨rfl, Below.trans' (by go_grown) hb1⟩

theorem walkExtendRequest {w : World} (v : Value) (hv : InReq w v) (n : Int) (_ : I64 n) :
    Calls Try.prog 9 #[v, .int .i64 n] w fun e w' => e = .returned (.bool true) ∧ Below w.heap.size w w' := by
  obtain ⟨a0, a1, a2, a3, S, A, k, rfl, hr, hm, _⟩ := hv
  by_cases hl : S.length ≤ 1048576
  · exact lawExtendRequest ⟨a0, a1, a2, a3, S⟩ n A k w hr hl
  · exact lawExtendRequest_big _ _ _ _ n _ _ _ _ hm (by omega)

set_option maxHeartbeats 2000000 in
theorem lawStopClock (r : Req) (a b : Int) (A : Option Addr) (c : Nat) (w : World) (hr : Rd w 2 A r.stops.length (cells2 r.stops)) (hl : r.stops.length ≤ 1048576) :
    Calls Try.prog 8 #[.agg #[.int .i64 r.id, .int .i64 r.came, .int .i64 r.working, .int .i64 r.extended, .slice A r.stops.length c], .int .i64 a, .int .i64 b] w fun e w' => e = .returned (.bool true) ∧ Below w.heap.size w w' := by
  have hout : (stOut r a b).stops.length ≤ 1048576 := len_stOut r a b
  have HS := fun W (g : Nat) c h => Lib.hid (specStopClock_any r a b ⟨g, 0, none⟩ c W h hl)
  have HI := fun W (g : Nat) c h => Lib.hid (implStopClock_any r a b ⟨g, 0, none⟩ c W h hl)
  generalize stOut r a b = out at HS HI hout
  generalize stOk r a b = ok at HS HI
  have HR := Lib.hid hr
  clear hr
  go_enter Try.func8, Try.ntmps8
  go_wp2_with fail
  have P0 := Lib.hid (BXT.new w #[.int .i64 r.id, .int .i64 r.came, .int .i64 r.working, .int .i64 r.extended, .slice A r.stops.length c] 30)
  have B0 := Lib.hid (Below.alloc (Below.refl w.heap.size w) (Nat.le_refl _) (.cells #[.int .i64 r.id, .int .i64 r.came, .int .i64 r.working, .int .i64 r.extended, .slice A r.stops.length c] 30))
  refine (szRequest_ok _ _ _ _ _ _ _ _ _ (by omega) (by omega)).mono ?_
  rintro e w1 ⟨rfl, hb⟩
  have P1 := Lib.hid (P0.out.below hb)
  have B1 := Lib.hid (Below.transB B0.out (Nat.le_refl _) hb)
  clear hb P0 B0
  obtain ⟨p0, p1, p2, p3, p4⟩ := P1.out.five
  go_wp2_with fail
  refine (toRequest_any r A c _ (HR.out.below B1.out) hl).mono ?_
  rintro e w2 ⟨g2, rfl, ho2, hb⟩
  have P2 := Lib.hid (P1.out.below hb)
  have B2 := Lib.hid (Below.transB B1.out (Nat.le_refl _) hb)
  clear hb P1 B1 p0 p1 p2 p3 p4
  go_wp2_with fail
  refine (HS _ _ _ (Rd.of_own ho2)).out.mono ?_
  rintro e w3 ⟨_, rfl, ⟨A0, c0, rfl, ho⟩, hb⟩
  clear ho2
  have P3 := Lib.hid (P2.out.below hb)
  have B3 := Lib.hid (Below.transB B2.out (Nat.le_refl _) hb)
  clear hb P2 B2
  have OW3 := Lib.hid ho
  clear ho
  have P4 := Lib.hid (P3.out.alloc (.cells #[.int .i64 out.id, .int .i64 out.came, .int .i64 out.working, .int .i64 out.extended, .slice A0 out.stops.length c0] 33))
  have OW4 := Lib.hid (OW3.out.alloc (.cells #[.int .i64 out.id, .int .i64 out.came, .int .i64 out.working, .int .i64 out.extended, .slice A0 out.stops.length c0] 33))
  have B4 := Lib.hid (Below.alloc B3.out B3.out.size (.cells #[.int .i64 out.id, .int .i64 out.came, .int .i64 out.working, .int .i64 out.extended, .slice A0 out.stops.length c0] 33))
  have W4 := Lib.hid (BXT.new w3 #[.int .i64 out.id, .int .i64 out.came, .int .i64 out.working, .int .i64 out.extended, .slice A0 out.stops.length c0] 33)
  clear P3 OW3 B3
  obtain ⟨p0, p1, p2, p3, p4⟩ := P4.out.five
  go_wp2_with fail
  refine (toRequest_any r A c _ (HR.out.below B4.out) hl).mono ?_
  rintro e w5 ⟨g5, rfl, ho, hb⟩
  have nwx : (Value.slice A0 out.stops.length c0).ownBlock = none ∨ (Value.slice A0 out.stops.length c0).ownBlock ≠ (Value.slice (some ⟨g5, 0, none⟩) r.stops.length r.stops.length).ownBlock := own_ne OW4.out ho (Nat.le_refl _)
  have NWX := Lib.hid nwx
  clear nwx
  have sX := B4.out.size
  have P5 := Lib.hid (P4.out.below hb)
  have W5 := Lib.hid (W4.out.below hb)
  have OW5 := Lib.hid (own_below OW4.out hb)
  have B5 := Lib.hid (Below.transB B4.out (Nat.le_refl _) hb)
  clear hb P4 W4 OW4 B4 p0 p1 p2 p3 p4
  have OX5 := Lib.hid ho
  clear ho
  have P6 := Lib.hid (P5.out.alloc (.cells #[.int .i64 r.id, .int .i64 r.came, .int .i64 r.working, .int .i64 r.extended, .slice (some ⟨g5, 0, none⟩) r.stops.length r.stops.length] 33))
  have W6 := Lib.hid (W5.out.alloc (.cells #[.int .i64 r.id, .int .i64 r.came, .int .i64 r.working, .int .i64 r.extended, .slice (some ⟨g5, 0, none⟩) r.stops.length r.stops.length] 33))
  have OW6 := Lib.hid (OW5.out.alloc (.cells #[.int .i64 r.id, .int .i64 r.came, .int .i64 r.working, .int .i64 r.extended, .slice (some ⟨g5, 0, none⟩) r.stops.length r.stops.length] 33))
  have OX6 := Lib.hid (OX5.out.alloc (.cells #[.int .i64 r.id, .int .i64 r.came, .int .i64 r.working, .int .i64 r.extended, .slice (some ⟨g5, 0, none⟩) r.stops.length r.stops.length] 33))
  have B6 := Lib.hid (Below.alloc B5.out B5.out.size (.cells #[.int .i64 r.id, .int .i64 r.came, .int .i64 r.working, .int .i64 r.extended, .slice (some ⟨g5, 0, none⟩) r.stops.length r.stops.length] 33))
  have X6 := Lib.hid (BXT.new w5 #[.int .i64 r.id, .int .i64 r.came, .int .i64 r.working, .int .i64 r.extended, .slice (some ⟨g5, 0, none⟩) r.stops.length r.stops.length] 33)
  clear P5 W5 OW5 OX5 B5
  obtain ⟨x0, x1, x2, x3, x4⟩ := X6.out.five
  go_wp2_with fail
  refine (HI _ _ _ (Rd.of_own OX6.out)).out.mono ?_
  rintro e w7 ⟨_, rfl, ⟨A1, c1, rfl, ho⟩, hb⟩
  have nwg : (Value.slice A0 out.stops.length c0).ownBlock = none ∨ (Value.slice A0 out.stops.length c0).ownBlock ≠ (Value.slice A1 out.stops.length c1).ownBlock := own_ne OW6.out ho (Nat.le_refl _)
  have ngx : (Value.slice A1 out.stops.length c1).ownBlock = none ∨ (Value.slice A1 out.stops.length c1).ownBlock ≠ (Value.slice (some ⟨g5, 0, none⟩) r.stops.length r.stops.length).ownBlock := own_ne' OX6.out ho (Nat.le_refl _)
  have NWG := Lib.hid nwg
  have NGX := Lib.hid ngx
  clear nwg ngx
  have sG := B6.out.size
  have P7 := Lib.hid (P6.out.below hb)
  have W7 := Lib.hid (W6.out.below hb)
  have X7 := Lib.hid (X6.out.below hb)
  have OW7 := Lib.hid (own_below OW6.out hb)
  have OX7 := Lib.hid (own_below OX6.out hb)
  have B7 := Lib.hid (Below.transB B6.out (Nat.le_refl _) hb)
  clear hb P6 W6 X6 OW6 OX6 B6 x0 x1 x2 x3 x4
  have OG7 := Lib.hid ho
  clear ho
  have P8 := Lib.hid (P7.out.alloc (.cells #[.int .i64 out.id, .int .i64 out.came, .int .i64 out.working, .int .i64 out.extended, .slice A1 out.stops.length c1] 33))
  have W8 := Lib.hid (W7.out.alloc (.cells #[.int .i64 out.id, .int .i64 out.came, .int .i64 out.working, .int .i64 out.extended, .slice A1 out.stops.length c1] 33))
  have X8 := Lib.hid (X7.out.alloc (.cells #[.int .i64 out.id, .int .i64 out.came, .int .i64 out.working, .int .i64 out.extended, .slice A1 out.stops.length c1] 33))
  have OW8 := Lib.hid (OW7.out.alloc (.cells #[.int .i64 out.id, .int .i64 out.came, .int .i64 out.working, .int .i64 out.extended, .slice A1 out.stops.length c1] 33))
  have OX8 := Lib.hid (OX7.out.alloc (.cells #[.int .i64 out.id, .int .i64 out.came, .int .i64 out.working, .int .i64 out.extended, .slice A1 out.stops.length c1] 33))
  have OG8 := Lib.hid (OG7.out.alloc (.cells #[.int .i64 out.id, .int .i64 out.came, .int .i64 out.working, .int .i64 out.extended, .slice A1 out.stops.length c1] 33))
  have B8 := Lib.hid (Below.alloc B7.out B7.out.size (.cells #[.int .i64 out.id, .int .i64 out.came, .int .i64 out.working, .int .i64 out.extended, .slice A1 out.stops.length c1] 33))
  have G8 := Lib.hid (BXT.new w7 #[.int .i64 out.id, .int .i64 out.came, .int .i64 out.working, .int .i64 out.extended, .slice A1 out.stops.length c1] 33)
  clear P7 W7 X7 OW7 OX7 OG7 B7
  obtain ⟨g0, g1, g2, g3, g4⟩ := G8.out.five
  obtain ⟨w0, w1, w2, w3, w4⟩ := W8.out.five
  go_wp2_with fail
  refine (eqRequest_same out _ _ _ _ _ (Rd.of_own OG8.out) (Rd.of_own OW8.out) hout).mono ?_
  rintro e w9 ⟨rfl, hb⟩
  have P9 := Lib.hid (P8.out.below hb)
  have W9 := Lib.hid (W8.out.below hb)
  have X9 := Lib.hid (X8.out.below hb)
  have G9 := Lib.hid (G8.out.below hb)
  have OW9 := Lib.hid (own_below OW8.out hb)
  have OX9 := Lib.hid (own_below OX8.out hb)
  have OG9 := Lib.hid (own_below OG8.out hb)
  have B9 := Lib.hid (Below.transB B8.out (Nat.le_refl _) hb)
  clear hb P8 W8 X8 G8 OW8 OX8 OG8 B8 g0 g1 g2 g3 g4 w0 w1 w2 w3 w4
  obtain ⟨x0, x1, x2, x3, x4⟩ := X9.out.five
  obtain ⟨p0, p1, p2, p3, p4⟩ := P9.out.five
  go_wp2_with fail
  go_region_held3 (fun w' => w'.cell? ⟨w5.heap.size, 0, none⟩ = some (.int .i64 r.id) ∧ w'.cell? ⟨w5.heap.size, 1, none⟩ = some (.int .i64 r.came) ∧ w'.cell? ⟨w5.heap.size, 2, none⟩ = some (.int .i64 r.working) ∧ w'.cell? ⟨w5.heap.size, 3, none⟩ = some (.int .i64 r.extended) ∧ w'.cell? ⟨w5.heap.size, 4, none⟩ = some (.slice (some ⟨g5, 0, none⟩) r.stops.length r.stops.length) ∧ w'.cell? ⟨w.heap.size, 0, none⟩ = some (.int .i64 r.id) ∧ w'.cell? ⟨w.heap.size, 1, none⟩ = some (.int .i64 r.came) ∧ w'.cell? ⟨w.heap.size, 2, none⟩ = some (.int .i64 r.working) ∧ w'.cell? ⟨w.heap.size, 3, none⟩ = some (.int .i64 r.extended) ∧ w'.cell? ⟨w.heap.size, 4, none⟩ = some (.slice A r.stops.length c)) (go_keep)
    (first
      | (go_at_call 21
         refine (toRequest_any r A c _ (HR.out.below B9.out.drew) hl).mono ?_
         rintro e w10 ⟨g10, rfl, ho10, hb⟩
         replace hb := below_ofDrew (a := w) hb
         have P10 := Lib.hid (P9.out.below hb)
         have W10 := Lib.hid (W9.out.below hb)
         have X10 := Lib.hid (X9.out.below hb)
         have G10 := Lib.hid (G9.out.below hb)
         have OW10 := Lib.hid (own_below OW9.out hb)
         have OX10 := Lib.hid (own_below OX9.out hb)
         have OG10 := Lib.hid (own_below OG9.out hb)
         have B10 := Lib.hid (Below.transB B9.out (Nat.le_refl _) hb)
         clear hb P9 W9 X9 G9 OW9 OX9 OG9 B9
         obtain ⟨x0, x1, x2, x3, x4⟩ := X10.out.five
         obtain ⟨p0, p1, p2, p3, p4⟩ := P10.out.five)
      | (go_at_call 23
         refine (eqRequest_same r _ _ _ _ _ (Rd.of_own OX10.out) (Rd.of_own ho10) hl).mono ?_
         rintro e w11 ⟨rfl, hb⟩
         have P11 := Lib.hid (P10.out.below hb)
         have W11 := Lib.hid (W10.out.below hb)
         have X11 := Lib.hid (X10.out.below hb)
         have G11 := Lib.hid (G10.out.below hb)
         have OW11 := Lib.hid (own_below OW10.out hb)
         have OX11 := Lib.hid (own_below OX10.out hb)
         have OG11 := Lib.hid (own_below OG10.out hb)
         have B11 := Lib.hid (Below.transB B10.out (Nat.le_refl _) hb)
         clear hb P10 W10 X10 G10 OW10 OX10 OG10 B10
         obtain ⟨x0, x1, x2, x3, x4⟩ := X11.out.five
         obtain ⟨p0, p1, p2, p3, p4⟩ := P11.out.five))
  go_wp2_with fail
  refine (markRequest_any _ _ _ _ _ r.stops.length 1 _ _ _ _ OX11.out (by omega) (by omega)).mono ?_
  rintro e w12 ⟨rfl, ho, hg⟩
  have P12 := Lib.hid (P11.out.grown hg (P11.out.not_own (by decide) OX11.out))
  have W12 := Lib.hid (W11.out.grown hg (W11.out.not_own (by decide) OX11.out))
  have X12 := Lib.hid (X11.out.grown hg (X11.out.not_own (by decide) OX11.out))
  have G12 := Lib.hid (G11.out.grown hg (G11.out.not_own (by decide) OX11.out))
  have OW12 := Lib.hid (OW11.out.kept hg NWX.out)
  have OG12 := Lib.hid (OG11.out.kept hg NGX.out)
  have B12 := Lib.hid (Below.row B11.out OX11.out hg sX B11.out.size)
  have OX12 := Lib.hid ho
  clear hg ho P11 W11 X11 G11 OW11 OX11 OG11 B11
  obtain ⟨g0, g1, g2, g3, g4⟩ := G12.out.five
  obtain ⟨w0, w1, w2, w3, w4⟩ := W12.out.five
  go_wp2_with fail
  refine (eqRequest_same out _ _ _ _ _ (Rd.of_own OG12.out) (Rd.of_own OW12.out) hout).mono ?_
  rintro e w13 ⟨rfl, hb⟩
  clear OX12
  have P13 := Lib.hid (P12.out.below hb)
  have W13 := Lib.hid (W12.out.below hb)
  have G13 := Lib.hid (G12.out.below hb)
  have OW13 := Lib.hid (own_below OW12.out hb)
  have OG13 := Lib.hid (own_below OG12.out hb)
  have B13 := Lib.hid (Below.transB B12.out (Nat.le_refl _) hb)
  clear hb P12 W12 G12 OW12 OG12 B12 g0 g1 g2 g3 g4 w0 w1 w2 w3 w4
  obtain ⟨g0, g1, g2, g3, g4⟩ := G13.out.five
  go_wp2_with fail
  refine (markRequest_any _ _ _ _ _ out.stops.length 1 _ _ _ _ OG13.out (by omega) (by omega)).mono ?_
  rintro e w14 ⟨rfl, ho, hg⟩
  have P14 := Lib.hid (P13.out.grown hg (P13.out.not_own (by decide) OG13.out))
  have W14 := Lib.hid (W13.out.grown hg (W13.out.not_own (by decide) OG13.out))
  have G14 := Lib.hid (G13.out.grown hg (G13.out.not_own (by decide) OG13.out))
  have OW14 := Lib.hid (OW13.out.kept hg NWG.out)
  have B14 := Lib.hid (Below.row B13.out OG13.out hg sG B13.out.size)
  have OG14 := Lib.hid ho
  clear hg ho P13 W13 G13 OW13 OG13 B13 g0 g1 g2 g3 g4
  obtain ⟨g0, g1, g2, g3, g4⟩ := G14.out.five
  go_wp2_with fail
  refine (heldRequest_any _ _ _ _ out.stops.length 1 _ _ _ (Rd.of_own OG14.out) (by omega) (by omega)).mono ?_
  rintro e w15 ⟨rfl, hb⟩
  have P15 := Lib.hid (P14.out.below hb)
  have W15 := Lib.hid (W14.out.below hb)
  have G15 := Lib.hid (G14.out.below hb)
  have OW15 := Lib.hid (own_below OW14.out hb)
  have OG15 := Lib.hid (own_below OG14.out hb)
  have B15 := Lib.hid (Below.transB B14.out (Nat.le_refl _) hb)
  clear hb P14 W14 G14 OW14 OG14 B14 g0 g1 g2 g3 g4
  obtain ⟨p0, p1, p2, p3, p4⟩ := P15.out.five
  go_wp2_with fail
  refine (toRequest_any r A c _ (HR.out.below B15.out) hl).mono ?_
  rintro e w16 ⟨g16, rfl, ho16, hb⟩
  have P16 := Lib.hid (P15.out.below hb)
  have W16 := Lib.hid (W15.out.below hb)
  have G16 := Lib.hid (G15.out.below hb)
  have OW16 := Lib.hid (own_below OW15.out hb)
  have OG16 := Lib.hid (own_below OG15.out hb)
  have B16 := Lib.hid (Below.transB B15.out (Nat.le_refl _) hb)
  clear hb P15 W15 G15 OW15 OG15 B15 p0 p1 p2 p3 p4
  go_wp2_with fail
  refine (HI _ _ _ (Rd.of_own ho16)).out.mono ?_
  rintro e w17 ⟨_, rfl, ⟨A2, c2, rfl, ho⟩, hb⟩
  have P17 := Lib.hid (P16.out.below hb)
  have W17 := Lib.hid (W16.out.below hb)
  have G17 := Lib.hid (G16.out.below hb)
  have OW17 := Lib.hid (own_below OW16.out hb)
  have OG17 := Lib.hid (own_below OG16.out hb)
  have B17 := Lib.hid (Below.transB B16.out (Nat.le_refl _) hb)
  clear hb P16 W16 G16 OW16 OG16 B16
  have OH17 := Lib.hid ho
  clear ho
  have P18 := Lib.hid (P17.out.alloc (.cells #[.int .i64 out.id, .int .i64 out.came, .int .i64 out.working, .int .i64 out.extended, .slice A2 out.stops.length c2] 33))
  have W18 := Lib.hid (W17.out.alloc (.cells #[.int .i64 out.id, .int .i64 out.came, .int .i64 out.working, .int .i64 out.extended, .slice A2 out.stops.length c2] 33))
  have G18 := Lib.hid (G17.out.alloc (.cells #[.int .i64 out.id, .int .i64 out.came, .int .i64 out.working, .int .i64 out.extended, .slice A2 out.stops.length c2] 33))
  have OW18 := Lib.hid (OW17.out.alloc (.cells #[.int .i64 out.id, .int .i64 out.came, .int .i64 out.working, .int .i64 out.extended, .slice A2 out.stops.length c2] 33))
  have OG18 := Lib.hid (OG17.out.alloc (.cells #[.int .i64 out.id, .int .i64 out.came, .int .i64 out.working, .int .i64 out.extended, .slice A2 out.stops.length c2] 33))
  have OH18 := Lib.hid (OH17.out.alloc (.cells #[.int .i64 out.id, .int .i64 out.came, .int .i64 out.working, .int .i64 out.extended, .slice A2 out.stops.length c2] 33))
  have B18 := Lib.hid (Below.alloc B17.out B17.out.size (.cells #[.int .i64 out.id, .int .i64 out.came, .int .i64 out.working, .int .i64 out.extended, .slice A2 out.stops.length c2] 33))
  have H18 := Lib.hid (BXT.new w17 #[.int .i64 out.id, .int .i64 out.came, .int .i64 out.working, .int .i64 out.extended, .slice A2 out.stops.length c2] 33)
  clear P17 W17 G17 OW17 OG17 OH17 B17
  obtain ⟨h0, h1, h2, h3, h4⟩ := H18.out.five
  obtain ⟨w0, w1, w2, w3, w4⟩ := W18.out.five
  go_wp2_with fail
  refine (eqRequest_same out _ _ _ _ _ (Rd.of_own OH18.out) (Rd.of_own OW18.out) hout).mono ?_
  rintro e w19 ⟨rfl, hb⟩
  have P19 := Lib.hid (P18.out.below hb)
  have W19 := Lib.hid (W18.out.below hb)
  have G19 := Lib.hid (G18.out.below hb)
  have H19 := Lib.hid (H18.out.below hb)
  have OW19 := Lib.hid (own_below OW18.out hb)
  have OG19 := Lib.hid (own_below OG18.out hb)
  have OH19 := Lib.hid (own_below OH18.out hb)
  have B19 := Lib.hid (Below.transB B18.out (Nat.le_refl _) hb)
  clear hb P18 W18 G18 H18 OW18 OG18 OH18 B18 h0 h1 h2 h3 h4 w0 w1 w2 w3 w4
  obtain ⟨g0, g1, g2, g3, g4⟩ := G19.out.five
  go_wp2_with fail
  refine (heldRequest_any _ _ _ _ out.stops.length 1 _ _ _ (Rd.of_own OG19.out) (by omega) (by omega)).mono ?_
  rintro e w20 ⟨rfl, hb⟩
  have HB := Lib.hid (Below.transB B19.out (Nat.le_refl _) hb)
  clear hb
  go_wp2
  go_ret
  exact ⟨rfl, HB.out⟩

theorem lawStopClock_big (a0 a1 a2 a3 : Value) (a b : Int) (n : Nat) (A : Option Addr) (c : Nat) (w : World) (hn : n ≤ 9223372036854775807) (hl : 1048576 < n) :
    Calls Try.prog 8 #[.agg #[a0, a1, a2, a3, .slice A n c], .int .i64 a, .int .i64 b] w fun e w' => e = .returned (.bool true) ∧ Below w.heap.size w w' := by
  go_enter Try.func8, Try.ntmps8
  go_wp2_with fail
  refine (szRequest_no _ _ _ _ _ _ _ _ _ (by omega) (by omega) (by omega)).mono ?_
  rintro e w1 ⟨rfl, hb1⟩
  go_wp2
  go_ret
  exact ⟨rfl, Below.trans' (by go_grown) hb1⟩

theorem walkStopClock {w : World} (v : Value) (hv : InReq w v) (a : Int) (_ : I64 a) (b : Int) (_ : I64 b) :
    Calls Try.prog 8 #[v, .int .i64 a, .int .i64 b] w fun e w' => e = .returned (.bool true) ∧ Below w.heap.size w w' := by
  obtain ⟨a0, a1, a2, a3, S, A, k, rfl, hr, hm, _⟩ := hv
  by_cases hl : S.length ≤ 1048576
  · exact lawStopClock ⟨a0, a1, a2, a3, S⟩ a b A k w hr hl
  · exact lawStopClock_big _ _ _ _ a b _ _ _ _ hm (by omega)

end Go.Proofs.Ytaogjkgaecjfoaa
