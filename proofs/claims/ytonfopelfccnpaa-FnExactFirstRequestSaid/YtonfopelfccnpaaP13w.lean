/-
  FirstRequest by the reference and by the program.
  Conditions: those written at each theorem.
-/
import Derived.Test.YtonfopelfccnpaaP13v
namespace Go.Proofs.Ytonfopelfccnpaa
open Go.RowKit Go.BigFrame
set_option maxRecDepth 100000

/-- the place of the first request with the least day -/
def fi (L : List RQ) : Nat := (idxF (eqI (minF (daysQ L))) (daysQ L) 0).toNat
def idAt (L : List RQ) (k : Nat) : Int := ((L[k]?).map (·.r.id)).getD 0
def frOk (L : List RQ) : Bool := goodQ L && decide (0 < L.length)
def frId (L : List RQ) : Int := if frOk L = true then idAt L (fi L) else 0
def frDay (L : List RQ) : Int := if frOk L = true then atI (daysQ L) (fi L) else 0
theorem fi_fm {L : List RQ} (h : 0 < L.length) : FM (atI (daysQ L)) L.length (fi L) ∧ idxF (eqI (minF (daysQ L))) (daysQ L) 0 = (fi L : Int) ∧ atI (daysQ L) (fi L) = minF (daysQ L) := by
  have hne : daysQ L ≠ [] := fun e => by have : (daysQ L).length = L.length := by simp [daysQ]
                                         rw [e] at this; simp at this; omega
  obtain ⟨i, h1, h2, h3⟩ := idx_min hne
  have hi : fi L = i := by rw [fi, h1]; simp
  have hlen : (daysQ L).length = L.length := by simp [daysQ]
  rw [hlen] at h2
  exact ⟨by rw [hi]; exact h2, by rw [hi]; exact h1, by rw [hi]; exact h3⟩
theorem atI_days {L : List RQ} {k : Nat} (h : k < L.length) : atI (daysQ L) k = dl L[k].r := by simp [atI, daysQ, h]
theorem idAt_of {L : List RQ} {k : Nat} (h : k < L.length) : idAt L k = L[k].r.id := by simp [idAt, h]

set_option maxHeartbeats 4000000 in
theorem specFirst_any (L : List RQ) (A : Option Addr) (c : Nat) (hl : L.length ≤ 1048576) (hs : ∀ x ∈ L, x.r.stops.length ≤ 9223372036854775807) (w : World) (hr : RdQ w A L) :
    Calls Try.prog 6 #[.slice A L.length c] w fun e w' => e = .returned (.tuple #[.int .i64 (frId L), .int .i64 (frDay L), .bool (frOk L)]) ∧ Below w.heap.size w w' := by
  have HL := fun W k => Lib.hid (l13List_any L A c W k hl hs)
  have HR := Lib.hid hr
  have HS := Lib.hid hs
  clear hr hs
  by_cases h1 : goodQ L = true
  · have G1 := Lib.hid h1
    rw [h1] at HL
    by_cases hn : 0 < L.length
    · have e0 : frOk L = true := by rw [frOk, h1, decide_eq_true hn]; rfl
      have e1 := Lib.hid e0
      have e2 : Hid (frId L = idAt L (fi L)) := if_pos e0
      have e3 : Hid (frDay L = atI (daysQ L) (fi L)) := if_pos e0
      have FI := Lib.hid (fi_fm hn).1
      have hn1 : ¬ ((L.length : Int) = 0) := by omega
      have hn2 : ((L.length : Int) == 0) = false := beq_eq_false_iff_ne.2 hn1
      have hn3 : ¬ (L = []) := fun e => by rw [e] at hn; simp at hn
      clear h1 e0
      go_enter Try.func6, Try.ntmps6
      go_wp2_with fail
      refine (HL _ HR.out).out.mono ?_
      rintro e w1 ⟨rfl, hb1⟩
      have B1 := Lib.hid hb1
      clear hb1
      go_wp2
      go_loopw [5, 6] (fun v5 v6 wr => ∃ (k b : Nat), 1 ≤ k ∧ k ≤ L.length ∧ b < L.length ∧ v6 = .int .i64 k ∧ v5 = .int .i64 b ∧ Below w.heap.size w wr ∧ Hid (FM (atI (daysQ L)) k b)) (fun _ v6 _ => L.length - (intOf v6).toNat)
      case atStart => exact ⟨1, 0, Nat.le_refl _, hn, hn, rfl, rfl, B1.out, FM.one _⟩
      case round =>
        clear B1 HL
        obtain ⟨k, b, hk1, hk, hbL, rfl, rfl, hb, M⟩ := hrel
        have y0 : (0 : Int) ≤ (b : Int) := by omega
        have y1 : (b : Int) < (L.length : Int) := by omega
        obtain ⟨gb, go, rfl, hgb, hcell⟩ := (HR.out.below hb).1.2 (by omega)
        obtain ⟨j0, j1, j2, j3, j4⟩ := cellsRQ_at hcell hbL
        have r0 := cellG hgb j0
        have r1 := cellG hgb j1
        have r2 := cellG hgb j2
        have r3 := cellG hgb j3
        have r4 := cellG hgb j4
        have HDb := fun s : GW wr => Lib.hid (by
          obtain ⟨b1, b2, b3, _, b5, _⟩ := req_bounds (okQ_true ((goodQ_ok G1.out).1 _ (List.getElem_mem hbL))).1
          exact l13Due_any L[b].r L[b].A L[b].c s.w (((HR.out.below hb).2 _ (List.getElem_mem hbL)).below s.below) (HS.out _ (List.getElem_mem hbL)) b1 b2 b3 (Lib.hid b5))
        have hdb : Hid (atI (daysQ L) b = dueOf L[b].r.stops L[b].r.came (L[b].r.working + L[b].r.extended)) := atI_days hbL
        generalize dueOf L[b].r.stops L[b].r.came (L[b].r.working + L[b].r.extended) = Db at HDb hdb
        have HB := Lib.hid hb
        have hgb' := hgb
        clear j0 j1 j2 j3 j4
        by_cases hlt : k < L.length
        · have hlt' : ((k : Int) < (L.length : Int)) := by omega
          have hk0 : (0 : Int) ≤ (k : Int) := by omega
          obtain ⟨h0, h1, h2, h3, h4⟩ := cellsRQ_at hcell hlt
          have p0 := cellG hgb h0
          have p1 := cellG hgb h1
          have p2 := cellG hgb h2
          have p3 := cellG hgb h3
          have p4 := cellG hgb h4
          have HDk := fun s : GW wr => Lib.hid (by
            obtain ⟨b1, b2, b3, _, b5, _⟩ := req_bounds (okQ_true ((goodQ_ok G1.out).1 _ (List.getElem_mem hlt))).1
            exact l13Due_any L[k].r L[k].A L[k].c s.w (((HR.out.below hb).2 _ (List.getElem_mem hlt)).below s.below) (HS.out _ (List.getElem_mem hlt)) b1 b2 b3 (Lib.hid b5))
          have hdk : Hid (atI (daysQ L) k = dueOf L[k].r.stops L[k].r.came (L[k].r.working + L[k].r.extended)) := atI_days hlt
          generalize dueOf L[k].r.stops L[k].r.came (L[k].r.working + L[k].r.extended) = Dk at HDk hdk
          clear h0 h1 h2 h3 h4 hcell hb
          by_cases q : Dk < Db
          · have M2 : Hid (FM (atI (daysQ L)) (k + 1) k) := Lib.hid (M.out.yes (by rw [hdk.out, hdb.out]; exact q))
            clear M
            go_wp2_with fail
            refine wp_region_grow (by kernel_rfl) (by kernel_rfl) ?_
            repeat (go_big_quiet_step (first | (go_at_call 18; with_reducible exact quietG (HDk _).out) | (go_at_call 18; with_reducible exact quietG (HDb _).out)))
            refine wpQuiet_endG ?_
            intro w2 hb2
            have B2 := Lib.hid (Below.transB HB.out (Nat.le_refl _) hb2)
            clear hb2 p0 p1 p2 p3 p4 r0 r1 r2 r3 r4
            go_wp2
            go_roundw
            case rel => exact ⟨k + 1, k, by omega, by omega, hlt, by go_num, rfl, B2.out, M2⟩
            case measure => simp [intOf]; omega
          · have M2 : Hid (FM (atI (daysQ L)) (k + 1) b) := Lib.hid (M.out.no (by rw [hdk.out, hdb.out]; exact q))
            clear M
            go_wp2_with fail
            refine wp_region_grow (by kernel_rfl) (by kernel_rfl) ?_
            repeat (go_big_quiet_step (first | (go_at_call 18; with_reducible exact quietG (HDk _).out) | (go_at_call 18; with_reducible exact quietG (HDb _).out)))
            refine wpQuiet_endG ?_
            intro w2 hb2
            have B2 := Lib.hid (Below.transB HB.out (Nat.le_refl _) hb2)
            clear hb2 p0 p1 p2 p3 p4 r0 r1 r2 r3 r4
            go_wp2
            go_roundw
            case rel => exact ⟨k + 1, b, by omega, by omega, hbL, by go_num, rfl, B2.out, M2⟩
            case measure => simp [intOf]; omega
        · have hge : ¬ ((k : Int) < (L.length : Int)) := by omega
          have hkn : k = L.length := by omega
          have hbi : b = fi L := by rw [hkn] at M; exact M.out.uniq FI.out
          have e4 : Hid (frDay L = Db) := by show _ = _; rw [e3.out, ← hbi]; exact hdb.out
          have e5 : Hid (frId L = L[b].r.id) := by show _ = _; rw [e2.out, ← hbi]; exact idAt_of hbL
          clear hbi hkn M hdb hcell hb e2 e3
          go_wp2_with fail
          refine wp_region_grow (by kernel_rfl) (by kernel_rfl) ?_
          repeat (go_big_quiet_step (first | (go_at_call 18; exact quietG (HDb _).out)))
          refine wpQuiet_endG ?_
          intro w2 hb2
          have B2 := Lib.hid (Below.transB HB.out (Nat.le_refl _) hb2)
          clear hb2 r0 r1 r2 r3 r4
          go_wp2
          go_ret3
          exact ⟨by rw [e1.out, e4.out, e5.out]; rfl, B2.out⟩
    · have e0 : frOk L = false := by rw [frOk, decide_eq_false hn]; simp
      have e1 := Lib.hid e0
      have e2 : Hid (frId L = 0) := if_neg (by rw [e0]; simp)
      have e3 : Hid (frDay L = 0) := if_neg (by rw [e0]; simp)
      obtain rfl : L = [] := List.eq_nil_of_length_eq_zero (by omega)
      simp only [List.length_nil] at HL ⊢
      clear h1 e0 hl hn
      go_enter Try.func6, Try.ntmps6
      go_wp2_with fail
      refine (HL _ HR.out).out.mono ?_
      rintro e w1 ⟨rfl, hb1⟩
      have B1 := Lib.hid hb1
      clear hb1
      go_wp2
      go_ret3
      exact ⟨by rw [e1.out, e2.out, e3.out]; rfl, B1.out⟩
  · have h1' : goodQ L = false := by simpa using h1
    rw [h1'] at HL
    have e0 : frOk L = false := by rw [frOk, h1']; rfl
    have e1 := Lib.hid e0
    have e2 : Hid (frId L = 0) := if_neg (by rw [e0]; simp)
    have e3 : Hid (frDay L = 0) := if_neg (by rw [e0]; simp)
    clear h1 h1' e0
    go_enter Try.func6, Try.ntmps6
    go_wp2_with fail
    refine (HL _ HR.out).out.mono ?_
    rintro e w1 ⟨rfl, hb1⟩
    have B1 := Lib.hid hb1
    clear hb1
    go_wp2
    go_ret3
    exact ⟨by rw [e1.out, e2.out, e3.out]; rfl, B1.out⟩

end Go.Proofs.Ytonfopelfccnpaa
