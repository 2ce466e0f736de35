/-
  FirstRequest by the program.
  Conditions: those written at each theorem.
-/
import Derived.Test.YtonfopelfccnpaaP13w
namespace Go.Proofs.Ytonfopelfccnpaa
open Go.RowKit Go.BigFrame
set_option maxRecDepth 100000

theorem minS_at (d : List Int) (h : d ≠ []) (A : Option Addr) (c : Nat) (hl : d.length ≤ 1048576) (w : World) (hr : Rd w 1 A d.length (cellsI d)) :
    Calls Try.prog 21 #[.slice A d.length c] w fun e w' => e = .returned (.int .i64 (minF d)) ∧ Below w.heap.size w w' := by
  cases d with
  | nil => exact absurd rfl h
  | cons x l => exact minS_any x l A c hl w hr

set_option maxHeartbeats 4000000 in
theorem implFirst_any (L : List RQ) (A : Option Addr) (c : Nat) (hl : L.length ≤ 1048576) (hs : ∀ x ∈ L, x.r.stops.length ≤ 9223372036854775807) (w : World) (hr : RdQ w A L) :
    Calls Try.prog 8 #[.slice A L.length c] w fun e w' => e = .returned (.tuple #[.int .i64 (frId L), .int .i64 (frDay L), .bool (frOk L)]) ∧ Below w.heap.size w w' := by
  have HL := Lib.hid (dueDays_any L A c w hr hl hs)
  have HR := Lib.hid hr
  clear hr hs
  by_cases h1 : goodQ L = true
  · have hdd : ddOut L = daysQ L := if_pos h1
    have hdn : (daysQ L).length = L.length := by simp [daysQ]
    rw [h1, hdd] at HL
    by_cases hn : 0 < L.length
    · have e0 : frOk L = true := by rw [frOk, h1, decide_eq_true hn]; rfl
      have e1 := Lib.hid e0
      have e2 : Hid (frId L = idAt L (fi L)) := if_pos e0
      have e3 : Hid (frDay L = minF (daysQ L)) := (if_pos e0).trans (fi_fm hn).2.2
      have FI := (fi_fm hn).1.1
      have HX := Lib.hid (fi_fm hn).2.1
      have hne : Hid (daysQ L ≠ []) := Lib.hid (fun e => by rw [e] at hdn; simp at hdn; omega)
      have HMN := fun A6 c6 W k => Lib.hid (minS_at (daysQ L) hne.out A6 c6 (by omega) W k)
      have HIX := fun x A6 c6 W k => Lib.hid (index_any (daysQ L) x A6 c6 (by omega) W k)
      rw [hdn] at HMN HIX
      have hn1 : ¬ ((L.length : Int) = 0) := by omega
      have hn2 : ((L.length : Int) == 0) = false := beq_eq_false_iff_ne.2 hn1
      have hn3 : ¬ (L = []) := fun e => by rw [e] at hn; simp at hn
      have y0 : (0 : Int) ≤ (fi L : Int) := by omega
      have y1 : (fi L : Int) < (L.length : Int) := by omega
      clear h1 e0 hdd
      go_enter Try.func8, Try.ntmps8
      go_wp2_with fail
      refine HL.out.mono ?_
      rintro e w1 ⟨_, rfl, ⟨A6, c6, rfl, ho⟩, hb1⟩
      rw [hdn] at ho ⊢
      have B1 := Lib.hid hb1
      have D1 := Lib.hid (Rd.of_own ho)
      clear hb1 ho
      go_wp2_with fail
      refine (HMN A6 c6 w1 D1.out).out.mono ?_
      rintro e w2 ⟨rfl, hb2⟩
      have B2 := Lib.hid (Below.transB B1.out (Nat.le_refl _) hb2)
      have D2 := Lib.hid (D1.out.below hb2)
      clear hb2
      obtain ⟨gb, go, rfl, hgb, hcell⟩ := (HR.out.below B2.out).1.2 (by omega)
      obtain ⟨j0, _, _, _, _⟩ := cellsRQ_at hcell FI
      have e5 : Hid (frId L = L[fi L].r.id) := Lib.hid (e2.out.trans (idAt_of FI))
      clear hcell
      go_wp2_with (go_at_call 22; refine (HIX _ _ _ _ D2.out).out.mono ?_; rintro e w' ⟨rfl, rfl⟩; rw [HX.out])
      go_ret3
      exact ⟨by rw [e1.out, e3.out, e5.out]; rfl, B2.out⟩
    · have e0 : frOk L = false := by rw [frOk, decide_eq_false hn]; simp
      have e1 := Lib.hid e0
      have e2 : Hid (frId L = 0) := if_neg (by rw [e0]; simp)
      have e3 : Hid (frDay L = 0) := if_neg (by rw [e0]; simp)
      obtain rfl : L = [] := List.eq_nil_of_length_eq_zero (by omega)
      simp only [List.length_nil] at HL ⊢
      clear h1 e0 hl hn hdn hdd
      go_enter Try.func8, Try.ntmps8
      go_wp2_with fail
      refine HL.out.mono ?_
      rintro e w1 ⟨_, rfl, _, hb1⟩
      have B1 := Lib.hid hb1
      clear hb1
      go_wp2
      go_ret3
      exact ⟨by rw [e1.out, e2.out, e3.out]; rfl, B1.out⟩
  · have h1' : goodQ L = false := by simpa using h1
    rw [h1'] at HL
    have e0 : frOk L = false := by rw [frOk, h1']; rfl
    have e1 := Lib.hid e0
    have e2 : Hid (frId L = 0) := if_neg (by rw [e0]; simp)
    have e3 : Hid (frDay L = 0) := if_neg (by rw [e0]; simp)
    clear h1 h1' e0
    go_enter Try.func8, Try.ntmps8
    go_wp2_with fail
    refine HL.out.mono ?_
    rintro e w1 ⟨_, rfl, _, hb1⟩
    have B1 := Lib.hid hb1
    clear hb1
    go_wp2
    go_ret3
    exact ⟨by rw [e1.out, e2.out, e3.out]; rfl, B1.out⟩

end Go.Proofs.Ytonfopelfccnpaa
