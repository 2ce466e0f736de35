/-
  Chapter 16: the entry for a record's destruction, by the reference and by the program. Written by mk16p.py.
  Conditions: those written at each theorem; the program's way asks the library's table.
-/
import Derived.Test.YtnlhjbplpnkjbaaDoorP16o
import Derived.Test.YtnlhjbplpnkjbaaDoorP16i
namespace Go.Proofs.YtnlhjbplpnkjbaaDoor
open Go.RowKit Go.BigFrame
set_option maxRecDepth 100000

def deT (r : Rec) (d : Int) : ByteArray := ⟨#[114]⟩ ++ numT r.id ++ ⟨#[32, 115]⟩ ++ numT r.series ++ ⟨#[32, 100]⟩ ++ numT d
def deB (r : Rec) (d : Int) : Bool := recB r && inB d 0 20000
def deAns (r : Rec) (d : Int) : Value := if deB r d = true then .tuple #[.string (deT r d), .bool true] else .tuple #[.string ⟨#[]⟩, .bool false]
theorem deAns_form (r : Rec) (d : Int) : ∃ (x : ByteArray) (y : Bool), deAns r d = .tuple #[.string x, .bool y] := by
  unfold deAns; split <;> exact ⟨_, _, rfl⟩
theorem rec_bd {r : Rec} (h : recB r = true) : (1 ≤ r.id ∧ r.id ≤ 999) ∧ (1 ≤ r.series ∧ r.series ≤ 99) := by
  simp only [recB, headR, Bool.and_eq_true] at h
  have a := inB_true h.2.1.1.1
  have b := inB_true h.2.1.1.2
  omega

set_option maxHeartbeats 4000000 in
theorem specDestructionEntry_any (r : Rec) (d : Int) (A : Option Addr) (c : Nat) (hl : r.events.length ≤ 1048576) (w : World) (hr : Rd w 2 A r.events.length (cellsEvent r.events)) :
    Calls Tryd.prog 17 #[.agg #[.int .i64 r.id, .int .i64 r.series, .int .i64 r.made, .slice A r.events.length c], .int .i64 d] w fun e w' => e = .returned (deAns r d) ∧ Below w.heap.size w w' := by
  have HR := Lib.hid hr
  have HQ := fun W k => Lib.hid (l2Record_any r A c hl W k)
  clear hr
  have BX0 := Lib.hid (Box.new w #[.int .i64 r.id, .int .i64 r.series, .int .i64 r.made, .slice A r.events.length c] 35)
  have B0 := Lib.hid (Below.alloc (Below.refl w.heap.size w) (Nat.le_refl _) (.cells #[.int .i64 r.id, .int .i64 r.series, .int .i64 r.made, .slice A r.events.length c] 35))
  by_cases h1 : recB r = true
  · rw [h1] at HQ
    by_cases h2 : inB d 0 20000 = true
    · have hans : Hid (deAns r d = .tuple #[.string (deT r d), .bool true]) := if_pos (by rw [deB, h1, h2]; rfl)
      have hbd := rec_bd h1
      have hd := inB_true h2
      unfold deT at hans
      have H1 := fun W => Lib.hid (l1Num_any r.id (by omega) (by omega) W)
      have H2 := fun W => Lib.hid (l1Num_any r.series (by omega) (by omega) W)
      have H3 := fun W => Lib.hid (l1Num_any d (by omega) (by omega) W)
      have z1 := numT_size r.id (by unfold I64; omega)
      have z2 := numT_size r.series (by unfold I64; omega)
      have z3 := numT_size d (by unfold I64; omega)
      generalize numT r.id = s1 at H1 z1 hans
      generalize numT r.series = s2 at H2 z2 hans
      generalize numT d = s3 at H3 z3 hans
      clear h1
      go_enter Tryd.func17, Tryd.ntmps17
      go_wp2_with fail
      refine (HQ _ (HR.out.below B0.out)).out.mono ?_
      rintro e w1 ⟨rfl, hb⟩
      have B1 := Lib.hid (Below.transB B0.out (Nat.le_refl _) hb)
      have bx := BX0.out.below hb
      have g0 := bx.G 0 _ rfl
      have g1 := bx.G 1 _ rfl
      clear hb BX0 B0 bx
      go_wp2_with (go_at_call 53; refine (l2Day_any _ _).mono ?_; rintro e w' ⟨rfl, rfl⟩; rw [h2])
      refine wp_region_grow (by kernel_rfl) (by kernel_rfl) ?_
      repeat (go_big_quiet_step (first | (go_at_call 54; first | with_reducible exact quietG (H1 _).out | with_reducible exact quietG (H2 _).out | with_reducible exact quietG (H3 _).out)))
      refine wpQuiet_endG ?_
      intro w2 hb2
      have B2 := Lib.hid (Below.transB B1.out (Nat.le_refl _) hb2)
      clear hb2 g0 g1
      go_wp2
      go_ret2
      exact ⟨by rw [hans.out]; rfl, B2.out⟩
    · have h2' : inB d 0 20000 = false := by simpa using h2
      have hans : Hid (deAns r d = .tuple #[.string ⟨#[]⟩, .bool false]) := if_neg (by rw [deB, h2']; simp)
      go_enter Tryd.func17, Tryd.ntmps17
      go_wp2_with fail
      refine (HQ _ (HR.out.below B0.out)).out.mono ?_
      rintro e w1 ⟨rfl, hb⟩
      have B1 := Lib.hid (Below.transB B0.out (Nat.le_refl _) hb)
      clear hb BX0 B0
      go_wp2_with (go_at_call 53; refine (l2Day_any _ _).mono ?_; rintro e w' ⟨rfl, rfl⟩; rw [h2'])
      go_ret2
      exact ⟨by rw [hans.out]; rfl, B1.out⟩
  · have h1' : recB r = false := by simpa using h1
    have hans : Hid (deAns r d = .tuple #[.string ⟨#[]⟩, .bool false]) := if_neg (by rw [deB, h1']; simp)
    rw [h1'] at HQ
    go_enter Tryd.func17, Tryd.ntmps17
    go_wp2_with fail
    refine (HQ _ (HR.out.below B0.out)).out.mono ?_
    rintro e w1 ⟨rfl, hb⟩
    have B1 := Lib.hid (Below.transB B0.out (Nat.le_refl _) hb)
    clear hb BX0 B0
    go_wp2
    go_ret2
    exact ⟨by rw [hans.out]; rfl, B1.out⟩

set_option maxHeartbeats 4000000 in
theorem destructionEntry_any (r : Rec) (d : Int) (A : Option Addr) (c : Nat) (hbd : (1 ≤ r.id ∧ r.id ≤ 999) ∧ (1 ≤ r.series ∧ r.series ≤ 99)) (hd : 0 ≤ d ∧ d ≤ 20000) (w : World) (hT : TabP w) :
    Calls Tryd.prog 58 #[.agg #[.int .i64 r.id, .int .i64 r.series, .int .i64 r.made, .slice A r.events.length c], .int .i64 d] w fun e w' => e = .returned (.string (deT r d)) ∧ Below w.heap.size w w' := by
  have hans : Hid (Value.string (deT r d) = .string (deT r d)) := rfl
  have hb0 := Below.alloc (Below.refl w.heap.size w) (Nat.le_refl _) (.cells #[.int .i64 r.id, .int .i64 r.series, .int .i64 r.made, .slice A r.events.length c] 35)
  have HTW := Lib.hid (hT.below hb0)
  have B0 := Lib.hid hb0
  have bx := Box.new w #[.int .i64 r.id, .int .i64 r.series, .int .i64 r.made, .slice A r.events.length c] 35
  have g0 := bx.G 0 _ rfl
  have g1 := bx.G 1 _ rfl
  unfold deT at *
  have H1 := fun W k => Lib.hid (decimal_any r.id (by unfold I64; omega) W k)
  have H2 := fun W k => Lib.hid (decimal_any r.series (by unfold I64; omega) W k)
  have H3 := fun W k => Lib.hid (decimal_any d (by unfold I64; omega) W k)
  have z1 := numT_size r.id (by unfold I64; omega)
  have z2 := numT_size r.series (by unfold I64; omega)
  have z3 := numT_size d (by unfold I64; omega)
  generalize numT r.id = s1 at H1 z1 ⊢
  generalize numT r.series = s2 at H2 z2 ⊢
  generalize numT d = s3 at H3 z3 ⊢
  clear hb0 hT bx hans
  go_enter Tryd.func58, Tryd.ntmps58
  go_wp2_with fail
  refine wp_region_grow (by kernel_rfl) (by kernel_rfl) ?_
  repeat (go_big_quiet_step (first | (go_at_call 79; first | with_reducible exact quietG (H1 _ (HTW.out.below (GW.below _))).out | with_reducible exact quietG (H2 _ (HTW.out.below (GW.below _))).out | with_reducible exact quietG (H3 _ (HTW.out.below (GW.below _))).out)))
  refine wpQuiet_endG ?_
  intro w2 hb2
  have B2 := Lib.hid (Below.transB B0.out (Nat.le_refl _) hb2)
  clear hb2 g0 g1
  go_wp2
  go_ret
  exact ⟨rfl, B2.out⟩

set_option maxHeartbeats 4000000 in
theorem implDestructionEntry_any (r : Rec) (d : Int) (A : Option Addr) (c : Nat) (hl : r.events.length ≤ 1048576) (w : World) (hr : Rd w 2 A r.events.length (cellsEvent r.events)) (hT : TabP w) :
    Calls Tryd.prog 19 #[.agg #[.int .i64 r.id, .int .i64 r.series, .int .i64 r.made, .slice A r.events.length c], .int .i64 d] w fun e w' => e = .returned (deAns r d) ∧ Below w.heap.size w w' := by
  have HR := Lib.hid hr
  have HTab := Lib.hid hT
  have HQ := fun W k => Lib.hid (implIsRecord_any r A c hl W k)
  clear hr hT
  have BX0 := Lib.hid (Box.new w #[.int .i64 r.id, .int .i64 r.series, .int .i64 r.made, .slice A r.events.length c] 35)
  have B0 := Lib.hid (Below.alloc (Below.refl w.heap.size w) (Nat.le_refl _) (.cells #[.int .i64 r.id, .int .i64 r.series, .int .i64 r.made, .slice A r.events.length c] 35))
  by_cases h1 : recB r = true
  · have hbd := rec_bd h1
    rw [h1] at HQ
    by_cases h2 : inB d 0 20000 = true
    · have hans : Hid (deAns r d = .tuple #[.string (deT r d), .bool true]) := if_pos (by rw [deB, h1, h2]; rfl)
      have HD := fun W k => Lib.hid (destructionEntry_any r d A c hbd (inB_true h2) W k)
      clear h1
      go_enter Tryd.func19, Tryd.ntmps19
      go_wp2_with fail
      refine (HQ _ (HR.out.below B0.out)).out.mono ?_
      rintro e w1 ⟨rfl, hb⟩
      have B1 := Lib.hid (Below.transB B0.out (Nat.le_refl _) hb)
      obtain ⟨x0, x1, x2, x3⟩ := (BX0.out.below hb).four
      clear hb BX0 B0
      go_wp2_with (first
        | (go_at_call 57; refine (isDay_any _ _).mono ?_; rintro e w' ⟨rfl, rfl⟩; rw [h2])
        | (go_at_call 58; refine (HD _ (HTab.out.below B1.out)).out.mono ?_; rintro e w2 ⟨rfl, hb2⟩))
      have B2 := Lib.hid (Below.transB B1.out (Nat.le_refl _) hb2)
      go_ret2
      exact ⟨by rw [hans.out]; rfl, B2.out⟩
    · have h2' : inB d 0 20000 = false := by simpa using h2
      have hans : Hid (deAns r d = .tuple #[.string ⟨#[]⟩, .bool false]) := if_neg (by rw [deB, h2']; simp)
      go_enter Tryd.func19, Tryd.ntmps19
      go_wp2_with fail
      refine (HQ _ (HR.out.below B0.out)).out.mono ?_
      rintro e w1 ⟨rfl, hb⟩
      have B1 := Lib.hid (Below.transB B0.out (Nat.le_refl _) hb)
      clear hb BX0 B0
      go_wp2_with (go_at_call 57; refine (isDay_any _ _).mono ?_; rintro e w' ⟨rfl, rfl⟩; rw [h2'])
      go_ret2
      exact ⟨by rw [hans.out]; rfl, B1.out⟩
  · have h1' : recB r = false := by simpa using h1
    have hans : Hid (deAns r d = .tuple #[.string ⟨#[]⟩, .bool false]) := if_neg (by rw [deB, h1']; simp)
    rw [h1'] at HQ
    go_enter Tryd.func19, Tryd.ntmps19
    go_wp2_with fail
    refine (HQ _ (HR.out.below B0.out)).out.mono ?_
    rintro e w1 ⟨rfl, hb⟩
    have B1 := Lib.hid (Below.transB B0.out (Nat.le_refl _) hb)
    clear hb BX0 B0
    go_wp2
    go_ret2
    exact ⟨by rw [hans.out]; rfl, B1.out⟩

end Go.Proofs.YtnlhjbplpnkjbaaDoor
