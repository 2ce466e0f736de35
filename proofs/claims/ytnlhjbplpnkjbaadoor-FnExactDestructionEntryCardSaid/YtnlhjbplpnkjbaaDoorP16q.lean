/-
  The law DestructionEntry, walked. Written by mk16p.py.
  Condition: the library's table stands as its text lays it.
-/
import Derived.Test.YtnlhjbplpnkjbaaDoorP16p
import Derived.Deep.RegionWith
namespace Go.Proofs.YtnlhjbplpnkjbaaDoor
open Go.RowKit Go.BigFrame
set_option maxRecDepth 100000

set_option maxHeartbeats 2000000 in
theorem lawDestructionEntry (r : Rec) (d : Int) (A : Option Addr) (c : Nat) (w : World) (hr : Rd w 2 A r.events.length (cellsEvent r.events)) (hl : r.events.length ≤ 1048576) (hT : TabP w) :
    Calls Tryd.prog 5 #[.agg #[.int .i64 r.id, .int .i64 r.series, .int .i64 r.made, .slice A r.events.length c], .int .i64 d] w
      fun e w' => e = .returned (.bool true) ∧ Below w.heap.size w w' := by
  have HR := Lib.hid hr
  have HTab := Lib.hid hT
  have HS := fun W A c k => Lib.hid (specDestructionEntry_any r d A c hl W k)
  have HI := fun W A c k t => Lib.hid (implDestructionEntry_any r d A c hl W k t)
  obtain ⟨xa, ya, hx⟩ := deAns_form r d
  simp only [hx] at HS HI
  clear hr hT hx
  go_enter Tryd.func5, Tryd.ntmps5
  go_wp2_with fail
  have bx := Box.new w #[.int .i64 r.id, .int .i64 r.series, .int .i64 r.made, .slice A r.events.length c] 29
  refine (szRecord_ok _ _ _ _ _ _ _ _ (by omega) (by omega)).mono ?_
  rintro e w1 ⟨rfl, hb1⟩
  replace bx := bx.below hb1
  obtain ⟨e0, e1, e2, e3⟩ := bx.four
  have H1 := Lib.hid (Below.trans' ((Below.refl _ _).alloc (Nat.le_refl _) _) hb1)
  have BX := Lib.hid bx
  clear hb1 bx
  go_wp2_with fail
  refine (toRecord_any r A c _ (HR.out.below H1.out) hl).mono ?_
  rintro e w2 ⟨g2, rfl, ho2, hb2⟩
  have hr2 := Lib.hid (Rd.of_own ho2)
  have bx := BX.out.below hb2
  have H2 := Lib.hid (Below.trans' H1.out hb2)
  clear ho2 hb2 BX e0 e1 e2 e3 H1
  go_wp2_with fail
  refine (HS _ _ _ hr2.out).out.mono ?_
  rintro e w3 ⟨rfl, hb3⟩
  replace bx := bx.below hb3
  obtain ⟨e0, e1, e2, e3⟩ := bx.four
  have H3 := Lib.hid (Below.trans' H2.out hb3)
  have BX := Lib.hid bx
  clear hb3 hr2 bx H2
  go_wp2_with fail
  refine (toRecord_any r A c _ (HR.out.below H3.out) hl).mono ?_
  rintro e w4 ⟨g4, rfl, ho4, hb4⟩
  have hr4 := Lib.hid (Rd.of_own ho4)
  have bx := BX.out.below hb4
  have H4 := Lib.hid (Below.trans' H3.out hb4)
  clear ho4 hb4 BX e0 e1 e2 e3 H3
  go_wp2_with fail
  have by5 := Box.new w4 #[.int .i64 r.id, .int .i64 r.series, .int .i64 r.made, .slice (some ⟨g4, 0, none⟩) r.events.length r.events.length] 35
  replace bx := bx.below ((Below.refl _ _).alloc (Nat.le_refl _) (.cells #[.int .i64 r.id, .int .i64 r.series, .int .i64 r.made, .slice (some ⟨g4, 0, none⟩) r.events.length r.events.length] 35))
  have H4a := Lib.hid (Below.alloc H4.out H4.out.size (.cells #[.int .i64 r.id, .int .i64 r.series, .int .i64 r.made, .slice (some ⟨g4, 0, none⟩) r.events.length r.events.length] 35))
  refine (HI _ _ _ (hr4.out.below (by go_grown)) (HTab.out.below H4a.out)).out.mono ?_
  rintro e w5 ⟨rfl, hb5⟩
  replace bx := bx.below hb5
  replace by5 := by5.below hb5
  obtain ⟨e0, e1, e2, e3⟩ := bx.four
  obtain ⟨f0, f1, f2, f3⟩ := by5.four
  have H5 := Lib.hid (Below.trans' H4.out (Below.trans' ((Below.refl _ _).alloc (Nat.le_refl _) _) hb5))
  have hr5 := Lib.hid (Rd.below (Rd.below hr4.out ((Below.refl _ _).alloc (Nat.le_refl _) _)) hb5)
  have BX := Lib.hid bx
  have BY := Lib.hid by5
  clear hb5 bx by5 hr4 H4a
  go_wp2_with fail
  go_region_with (first
    | (go_at_call 18; refine (toRecord_any r A c _ (HR.out.below H5.out.drew) hl).mono ?_; rintro e w6 ⟨g6, rfl, ho6, hb6⟩; replace hb6 := below_ofDrew (a := w) hb6; obtain ⟨x0, x1, x2, x3⟩ := (BX.out.below hb6).four; obtain ⟨y0, y1, y2, y3⟩ := (BY.out.below hb6).four; have hr6 := Lib.hid (Rd.of_own ho6); have hr7 := Lib.hid (Rd.below hr5.out hb6); have H6 := Lib.hid (Below.trans' H5.out hb6); clear ho6 hb6)
    | (go_at_call 20; refine (eqRecord_same r _ _ _ _ _ hr7.out hr6.out hl).mono ?_; rintro e w7 ⟨rfl, hb7⟩; have H7 := Lib.hid (Below.trans' H6.out hb7); clear hb7))
  all_goals
    go_wp2
    go_ret
    exact ⟨rfl, H7.out⟩

theorem lawDestructionEntry_big (a0 a1 a2 : Value) (d : Int) (n : Nat) (A : Option Addr) (c : Nat) (w : World) (hn : n ≤ 9223372036854775807) (hl : 1048576 < n) :
    Calls Tryd.prog 5 #[.agg #[a0, a1, a2, .slice A n c], .int .i64 d] w
      fun e w' => e = .returned (.bool true) ∧ Below w.heap.size w w' := by
  go_enter Tryd.func5, Tryd.ntmps5
  go_wp2_with fail
  refine (szRecord_no _ _ _ _ _ _ _ _ (by omega) (by omega) (by omega)).mono ?_
  rintro e w1 ⟨rfl, hb1⟩
  go_wp2
  go_ret
  exact ⟨rfl, Below.trans' (by go_grown) hb1⟩

theorem walkDestructionEntry {w : World} (v : Value) (hv : InRec w v) (d : Int) (_ : I64 d) (hT : TabP w) :
    Calls Tryd.prog 5 #[v, .int .i64 d] w fun e w' => e = .returned (.bool true) ∧ Below w.heap.size w w' := by
  obtain ⟨r, A, k, rfl, hr, hm, _⟩ := hv
  by_cases hl : r.events.length ≤ 1048576
  · exact lawDestructionEntry r d A k w hr hl hT
  · exact lawDestructionEntry_big _ _ _ _ _ _ _ _ hm (by omega)

end Go.Proofs.YtnlhjbplpnkjbaaDoor
