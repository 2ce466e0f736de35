/-
  The walks of the due day: the program's loop up to the last day, the reference's without an end; AddWorkingDays by both; the law on it.
  Conditions: those written at each theorem.
-/
import Derived.Test.YtaogjkgaecjfoaaP13c
namespace Go.Proofs.Ytaogjkgaecjfoaa
open Go.RowKit

/-- the cells of a boxed request -/
def reqCells (r : Req) (A : Option Addr) (c : Nat) : Array Value := #[.int .i64 r.id, .int .i64 r.came, .int .i64 r.working, .int .i64 r.extended, .slice A r.stops.length c]

theorem dueAns_yes {x : Int} (h : x ≤ 20000) : dueAns x = .tuple #[.int .i64 x, .bool true] := if_pos h
theorem dueAns_no {x : Int} (h : 20000 < x) : dueAns x = .tuple #[.int .i64 0, .bool false] := if_neg (by omega)

set_option maxHeartbeats 800000 in
theorem due_any (r : Req) (A : Option Addr) (c : Nat) (w : World) (hr : Rd w 2 A r.stops.length (cells2 r.stops)) (hl : r.stops.length ≤ 9223372036854775807)
    (hc : 0 ≤ r.came ∧ r.came ≤ 20000) (hw : 0 ≤ r.working ∧ r.working ≤ 500) (he : 0 ≤ r.extended ∧ r.extended ≤ 500) (hn : 1 ≤ r.working + r.extended) (hS : Hid (lateStops r.stops)) :
    Calls Try.prog 52 #[.agg #[.int .i64 r.id, .int .i64 r.came, .int .i64 r.working, .int .i64 r.extended, .slice A r.stops.length c]] w
      fun e w' => e = .returned (dueAns (dueOf r.stops r.came (r.working + r.extended))) ∧ Below w.heap.size w w' := by
  have H0 : Hid (dueOf r.stops r.came (r.working + r.extended) = dueF r.stops (20003 + 3 * (r.working + r.extended).toNat) (r.came + 1 - 1) (r.working + r.extended)) := by
    show _ = _; rw [Int.add_sub_cancel]; rfl
  have M0 : Hid (dueM (r.came + 1 - 1) (r.working + r.extended) ≤ ((20003 + 3 * (r.working + r.extended).toNat : Nat) : Int)) := by
    rw [Int.add_sub_cancel]; exact dueM_start (by omega) (by omega)
  go_enter Try.func52, Try.ntmps52
  go_wp2
  go_loopw [4, 5] (fun v4 v5 wr => ∃ (n d : Int) (f : Nat), v4 = .int .i64 n ∧ v5 = .int .i64 d ∧ 1 ≤ n ∧ n ≤ r.working + r.extended ∧ 1 ≤ d ∧ d ≤ 20001 ∧ Hid (dueOf r.stops r.came (r.working + r.extended) = dueF r.stops f (d - 1) n) ∧ Hid (dueM (d - 1) n ≤ (f : Int))
      ∧ Below (w.heap.size + 1) (w.alloc (.cells #[.int .i64 r.id, .int .i64 r.came, .int .i64 r.working, .int .i64 r.extended, .slice A r.stops.length c] 33)) wr) (fun _ d _ => (20001 - intOf d).toNat)
  case atStart => exact ⟨_, _, _, rfl, rfl, by omega, by omega, by omega, by omega, H0, M0, Below.refl _ _⟩
  case round =>
    obtain ⟨n, d, f, rfl, rfl, n1, n2, d1, d2, K, M, hb⟩ := hrel
    by_cases hlt : d ≤ 20000
    · have hcells : ∀ i, wr.cell? ⟨w.heap.size, i, none⟩ = (w.alloc (.cells #[.int .i64 r.id, .int .i64 r.came, .int .i64 r.working, .int .i64 r.extended, .slice A r.stops.length c] 33)).cell? ⟨w.heap.size, i, none⟩ := fun i => hb.cell (p := ⟨w.heap.size, i, none⟩) (by simp)
      have e0 : wr.cell? ⟨w.heap.size, 0, none⟩ = some (.int .i64 r.id) := (hcells 0).trans (by simp [go_sem])
      have e1 : wr.cell? ⟨w.heap.size, 1, none⟩ = some (.int .i64 r.came) := (hcells 1).trans (by simp [go_sem])
      have e2 : wr.cell? ⟨w.heap.size, 2, none⟩ = some (.int .i64 r.working) := (hcells 2).trans (by simp [go_sem])
      have e3 : wr.cell? ⟨w.heap.size, 3, none⟩ = some (.int .i64 r.extended) := (hcells 3).trans (by simp [go_sem])
      have e4 : wr.cell? ⟨w.heap.size, 4, none⟩ = some (.slice A r.stops.length c) := (hcells 4).trans (by simp [go_sem])
      clear hcells
      have hr1 := hr.below (Below.trans' (c := wr) ((Below.refl _ _).alloc (Nat.le_refl _) _) (by simpa using hb))
      have HR1 := Lib.hid hr1
      clear hr1
      obtain ⟨g, rfl⟩ : ∃ g, f = g + 1 := ⟨f - 1, by have := M.out; have := dueM_pos (d := d - 1) (n := n) (by omega); omega⟩
      have K' : Hid (dueOf r.stops r.came (r.working + r.extended) = dueF r.stops g d (if cntB r.stops d = true then n - 1 else n)) := by
        show _ = _
        rw [K.out, dueF_go _ _ _ _ (by omega), Int.sub_add_cancel]
      have M' : Hid (dueM d (if cntB r.stops d = true then n - 1 else n) ≤ (g : Int)) := by
        have h1 := dueM_step hS.out (d := d - 1) (n := n) (by omega) (by omega)
        rw [Int.sub_add_cancel] at h1
        have h2 := M.out
        show _ ≤ _
        omega
      clear K M
      by_cases hcn : cntB r.stops d = true
      · rw [if_pos hcn] at K' M'
        by_cases hn1 : n = 1
        · subst hn1
          have K2 : Hid (dueOf r.stops r.came (r.working + r.extended) = d) := by
            show _ = _; rw [K'.out]; exact dueF_done _ _ _ _ (by omega)
          clear K' M'
          go_wp2_with (go_at_call 64; refine (counts_any r A c _ _ HR1.out hl (by omega)).mono ?_; rintro e w1 ⟨rfl, hb1⟩)
          go_ret2
          refine ⟨?_, ?_⟩
          · rw [K2.out, dueAns_yes hlt]; rfl
          · exact Below.trans' (Below.trans' ((Below.refl _ _).alloc (Nat.le_refl _) _) (by simpa using hb)) hb1
        · go_wp2_with (go_at_call 64; refine (counts_any r A c _ _ HR1.out hl (by omega)).mono ?_; rintro e w1 ⟨rfl, hb1⟩)
          go_roundw
          case rel => exact ⟨n - 1, d + 1, g, rfl, rfl, by omega, by omega, by omega, by omega, by rw [Int.add_sub_cancel]; exact K', by rw [Int.add_sub_cancel]; exact M', Below.transB hb (by simp) hb1⟩
          case measure => simp [intOf]; omega
      · rw [if_neg hcn] at K' M'
        have hn0 : ((n : Int) == 0) = false := by rw [beq_eq_false_iff_ne]; omega
        go_wp2_with (go_at_call 64; refine (counts_any r A c _ _ HR1.out hl (by omega)).mono ?_; rintro e w1 ⟨rfl, hb1⟩)
        go_roundw
        case rel => exact ⟨n, d + 1, g, rfl, rfl, by omega, by omega, by omega, by omega, by rw [Int.add_sub_cancel]; exact K', by rw [Int.add_sub_cancel]; exact M', Below.transB hb (by simp) hb1⟩
        case measure => simp [intOf]; omega
    · obtain rfl : d = 20001 := by omega
      have K2 : Hid (20000 < dueOf r.stops r.came (r.working + r.extended)) := by
        show _ < _
        rw [K.out]
        have := M.out
        have := dueM_pos (d := 20001 - 1) (n := n) (by omega)
        exact dueF_gt _ _ _ _ (by omega) (by omega)
      clear K M
      go_wp2
      go_ret2
      refine ⟨?_, ?_⟩
      · rw [dueAns_no K2.out]; rfl
      · exact Below.trans' ((Below.refl _ _).alloc (Nat.le_refl _) _) (by simpa using hb)

set_option maxHeartbeats 800000 in
theorem l13Due_any (r : Req) (A : Option Addr) (c : Nat) (w : World) (hr : Rd w 2 A r.stops.length (cells2 r.stops)) (hl : r.stops.length ≤ 9223372036854775807)
    (hc : 0 ≤ r.came ∧ r.came ≤ 20000) (hw : 0 ≤ r.working ∧ r.working ≤ 500) (he : 0 ≤ r.extended ∧ r.extended ≤ 500) (hS : Hid (lateStops r.stops)) :
    Calls Try.prog 58 #[.agg #[.int .i64 r.id, .int .i64 r.came, .int .i64 r.working, .int .i64 r.extended, .slice A r.stops.length c]] w
      fun e w' => e = .returned (.int .i64 (dueOf r.stops r.came (r.working + r.extended))) ∧ Below w.heap.size w w' := by
  have H0 : Hid (dueOf r.stops r.came (r.working + r.extended) = dueF r.stops (20003 + 3 * (r.working + r.extended).toNat) r.came (r.working + r.extended)) := rfl
  have M0 : Hid (dueM r.came (r.working + r.extended) ≤ ((20003 + 3 * (r.working + r.extended).toNat : Nat) : Int)) := dueM_start (by omega) (by omega)
  go_enter Try.func58, Try.ntmps58
  go_wp2
  go_loopw [3, 4] (fun v3 v4 wr => ∃ (n d : Int) (f : Nat), v4 = .int .i64 n ∧ v3 = .int .i64 d ∧ 0 ≤ n ∧ n ≤ r.working + r.extended ∧ 0 ≤ d ∧ d + f ≤ 50000 ∧ Hid (dueOf r.stops r.came (r.working + r.extended) = dueF r.stops f d n) ∧ Hid (dueM d n ≤ (f : Int))
      ∧ Below (w.heap.size + 1) (w.alloc (.cells #[.int .i64 r.id, .int .i64 r.came, .int .i64 r.working, .int .i64 r.extended, .slice A r.stops.length c] 33)) wr) (fun d _ _ => (50000 - intOf d).toNat)
  case atStart => exact ⟨_, _, _, rfl, rfl, by omega, by omega, by omega, by omega, H0, M0, Below.refl _ _⟩
  case round =>
    obtain ⟨n, d, f, rfl, rfl, n1, n2, d1, d2, K, M, hb⟩ := hrel
    by_cases hlt : 0 < n
    · have hcells : ∀ i, wr.cell? ⟨w.heap.size, i, none⟩ = (w.alloc (.cells #[.int .i64 r.id, .int .i64 r.came, .int .i64 r.working, .int .i64 r.extended, .slice A r.stops.length c] 33)).cell? ⟨w.heap.size, i, none⟩ := fun i => hb.cell (p := ⟨w.heap.size, i, none⟩) (by simp)
      have e0 : wr.cell? ⟨w.heap.size, 0, none⟩ = some (.int .i64 r.id) := (hcells 0).trans (by simp [go_sem])
      have e1 : wr.cell? ⟨w.heap.size, 1, none⟩ = some (.int .i64 r.came) := (hcells 1).trans (by simp [go_sem])
      have e2 : wr.cell? ⟨w.heap.size, 2, none⟩ = some (.int .i64 r.working) := (hcells 2).trans (by simp [go_sem])
      have e3 : wr.cell? ⟨w.heap.size, 3, none⟩ = some (.int .i64 r.extended) := (hcells 3).trans (by simp [go_sem])
      have e4 : wr.cell? ⟨w.heap.size, 4, none⟩ = some (.slice A r.stops.length c) := (hcells 4).trans (by simp [go_sem])
      clear hcells
      have hr1 := hr.below (Below.trans' (c := wr) ((Below.refl _ _).alloc (Nat.le_refl _) _) (by simpa using hb))
      have HR1 := Lib.hid hr1
      clear hr1
      obtain ⟨g, rfl⟩ : ∃ g, f = g + 1 := ⟨f - 1, by have := M.out; have := dueM_pos (d := d) (n := n) (by omega); omega⟩
      have K' : Hid (dueOf r.stops r.came (r.working + r.extended) = dueF r.stops g (d + 1) (if cntB r.stops (d + 1) = true then n - 1 else n)) := by
        show _ = _
        rw [K.out, dueF_go _ _ _ _ (by omega)]
      have M' : Hid (dueM (d + 1) (if cntB r.stops (d + 1) = true then n - 1 else n) ≤ (g : Int)) := by
        have h1 := dueM_step hS.out (d := d) (n := n) (by omega) (by omega)
        have h2 := M.out
        show _ ≤ _
        omega
      clear K M
      by_cases hcn : cntB r.stops (d + 1) = true
      · rw [if_pos hcn] at K' M'
        go_wp2_with (go_at_call 63; refine (l13Counts_any r A c _ _ HR1.out hl (by omega)).mono ?_; rintro e w1 ⟨rfl, hb1⟩)
        go_roundw
        case rel => exact ⟨n - 1, d + 1, g, rfl, rfl, by omega, by omega, by omega, by omega, K', M', Below.transB hb (by simp) hb1⟩
        case measure => simp [intOf]; omega
      · rw [if_neg hcn] at K' M'
        go_wp2_with (go_at_call 63; refine (l13Counts_any r A c _ _ HR1.out hl (by omega)).mono ?_; rintro e w1 ⟨rfl, hb1⟩)
        go_roundw
        case rel => exact ⟨n, d + 1, g, rfl, rfl, by omega, by omega, by omega, by omega, K', M', Below.transB hb (by simp) hb1⟩
        case measure => simp [intOf]; omega
    · obtain rfl : n = 0 := by omega
      have K2 : Hid (dueOf r.stops r.came (r.working + r.extended) = d) := by
        show _ = _
        rw [K.out]; exact dueF_done _ _ _ _ (by omega)
      clear K M
      go_wp2
      go_ret
      refine ⟨?_, ?_⟩
      · rw [K2.out]; rfl
      · exact Below.trans' ((Below.refl _ _).alloc (Nat.le_refl _) _) (by simpa using hb)

/-- what AddWorkingDays answers -/
def addAns (d n : Int) : Value := if inB d 0 20000 = true ∧ inB n 1 500 = true then dueAns (dueOf [] d n) else .tuple #[.int .i64 0, .bool false]

set_option maxHeartbeats 400000 in
theorem implAddWorkingDays_any (d n : Int) (w : World) :
    Calls Try.prog 18 #[.int .i64 d, .int .i64 n] w fun e w' => e = .returned (addAns d n) ∧ Below w.heap.size w w' := by
  by_cases h1 : inB d 0 20000 = true
  · by_cases h2 : inB n 1 500 = true
    · have g1 := inB_true h1
      have g2 := inB_true h2
      have hans : Hid (addAns d n = dueAns (dueOf [] d (n + 0))) := by show _ = _; rw [addAns, if_pos ⟨h1, h2⟩, Int.add_zero]
      have D : ∀ w : World, Hid (Calls Try.prog 52 #[.agg #[.int .i64 0, .int .i64 d, .int .i64 n, .int .i64 0, .slice none 0 0]] w
          fun e w' => e = .returned (dueAns (dueOf [] d (n + 0))) ∧ Below w.heap.size w w') := fun w =>
        due_any ⟨0, d, n, 0, []⟩ none 0 w (Rd.nil _ _ _) (Nat.zero_le _) g1 ⟨by show 0 ≤ n; omega, by show n ≤ 500; omega⟩ ⟨by show (0 : Int) ≤ 0; omega, by show (0 : Int) ≤ 500; omega⟩ (by show 1 ≤ n + 0; omega) (fun p hp => by cases hp)
      go_enter Try.func18, Try.ntmps18
      go_wp2_with (first
        | (go_at_call 47; refine (isDay_any _ _).mono ?_; rintro e w' ⟨rfl, rfl⟩)
        | (go_at_call 51; refine (within_any _ _ _ _).mono ?_; rintro e w' ⟨rfl, rfl⟩))
      refine (D _).out.mono ?_
      rintro e w1 ⟨rfl, hb1⟩
      rw [← hans.out]
      have hv : ∃ (x : Int) (y : Bool), addAns d n = .tuple #[.int .i64 x, .bool y] := by rw [hans.out]; unfold dueAns; split <;> exact ⟨_, _, rfl⟩
      obtain ⟨x, y, hx⟩ := hv
      rw [hx]
      clear hans D
      have HX := Lib.hid hx
      clear hx
      go_wp2
      go_ret2
      exact ⟨by rw [HX.out]; rfl, hb1⟩
    · have hans : Hid (addAns d n = .tuple #[.int .i64 0, .bool false]) := if_neg (fun h => h2 h.2)
      go_enter Try.func18, Try.ntmps18
      go_wp2_with (first
        | (go_at_call 47; refine (isDay_any _ _).mono ?_; rintro e w' ⟨rfl, rfl⟩)
        | (go_at_call 51; refine (within_any _ _ _ _).mono ?_; rintro e w' ⟨rfl, rfl⟩))
      go_ret2
      exact ⟨by rw [hans.out]; rfl, Below.refl _ _⟩
  · have hans : Hid (addAns d n = .tuple #[.int .i64 0, .bool false]) := if_neg (fun h => h1 h.1)
    go_enter Try.func18, Try.ntmps18
    go_wp2_with (first
      | (go_at_call 47; refine (isDay_any _ _).mono ?_; rintro e w' ⟨rfl, rfl⟩))
    go_ret2
    exact ⟨by rw [hans.out]; rfl, Below.refl _ _⟩

set_option maxHeartbeats 400000 in
theorem specAddWorkingDays_any (d n : Int) (w : World) :
    Calls Try.prog 17 #[.int .i64 d, .int .i64 n] w fun e w' => e = .returned (addAns d n) ∧ w = w' := by
  by_cases h1 : inB d 0 20000 = true
  · by_cases h2 : inB n 1 500 = true
    · have g1 := inB_true h1
      have g2 := inB_true h2
      have hans : Hid (addAns d n = dueAns (dueOf [] d n)) := if_pos ⟨h1, h2⟩
      have H0 : Hid (dueOf [] d n = dueF [] (20003 + 3 * n.toNat) d n) := rfl
      have M0 : Hid (dueM d n ≤ ((20003 + 3 * n.toNat : Nat) : Int)) := dueM_start (by omega) (by omega)
      go_enter Try.func17, Try.ntmps17
      go_wp2_with (first
        | (go_at_call 45; refine (l2Day_any _ _).mono ?_; rintro e w' ⟨rfl, rfl⟩)
        | (go_at_call 50; refine (l1In_any _ _ _ _).mono ?_; rintro e w' ⟨rfl, rfl⟩))
      go_loop [0, 1] (fun v0 v1 => ∃ (n1 d1 : Int) (f : Nat), v1 = .int .i64 n1 ∧ v0 = .int .i64 d1 ∧ 0 ≤ n1 ∧ n1 ≤ n ∧ 0 ≤ d1 ∧ d1 + f ≤ 50000 ∧ Hid (dueOf [] d n = dueF [] f d1 n1) ∧ Hid (dueM d1 n1 ≤ (f : Int))) (fun d _ => (50000 - intOf d).toNat)
      case atStart => exact ⟨_, _, _, rfl, rfl, by omega, by omega, by omega, by omega, H0, M0⟩
      case round =>
        obtain ⟨n1, d1, f, rfl, rfl, n3, n4, d3, d4, K, M⟩ := hrel
        by_cases hlt : 0 < n1
        · obtain ⟨g, rfl⟩ : ∃ g, f = g + 1 := ⟨f - 1, by have := M.out; have := dueM_pos (d := d1) (n := n1) (by omega); omega⟩
          have K' : Hid (dueOf [] d n = dueF [] g (d1 + 1) (if cntB [] (d1 + 1) = true then n1 - 1 else n1)) := by
            show _ = _
            rw [K.out, dueF_go _ _ _ _ (by omega)]
          have M' : Hid (dueM (d1 + 1) (if cntB [] (d1 + 1) = true then n1 - 1 else n1) ≤ (g : Int)) := by
            have h1 := dueM_step (S := []) (fun p hp => by cases hp) (d := d1) (n := n1) (by omega) (by omega)
            have h2 := M.out
            show _ ≤ _
            omega
          clear K M
          rw [cntB_nil] at K' M'
          by_cases hcn : wkB (d1 + 1) = true
          · rw [if_pos hcn] at K' M'
            go_wp2_with (go_at_call 46; refine (l13Works_any _ _ (by omega)).mono ?_; rintro e w1 ⟨rfl, rfl⟩)
            go_round
            case rel => exact ⟨n1 - 1, d1 + 1, g, rfl, rfl, by omega, by omega, by omega, by omega, K', M'⟩
            case measure => simp [intOf]; omega
          · rw [if_neg hcn] at K' M'
            go_wp2_with (go_at_call 46; refine (l13Works_any _ _ (by omega)).mono ?_; rintro e w1 ⟨rfl, rfl⟩)
            go_round
            case rel => exact ⟨n1, d1 + 1, g, rfl, rfl, by omega, by omega, by omega, by omega, K', M'⟩
            case measure => simp [intOf]; omega
        · obtain rfl : n1 = 0 := by omega
          have K2 : Hid (addAns d n = dueAns d1) := by
            show _ = _
            rw [hans.out, K.out]; rw [dueF_done _ _ _ _ (by omega)]
          clear K M hans
          by_cases hd : 20000 < d1
          · go_wp2
            go_ret2
            exact ⟨by rw [K2.out, dueAns_no hd]; rfl, rfl⟩
          · go_wp2
            go_ret2
            exact ⟨by rw [K2.out, dueAns_yes (by omega)]; rfl, rfl⟩
    · have hans : Hid (addAns d n = .tuple #[.int .i64 0, .bool false]) := if_neg (fun h => h2 h.2)
      go_enter Try.func17, Try.ntmps17
      go_wp2_with (first
        | (go_at_call 45; refine (l2Day_any _ _).mono ?_; rintro e w' ⟨rfl, rfl⟩)
        | (go_at_call 50; refine (l1In_any _ _ _ _).mono ?_; rintro e w' ⟨rfl, rfl⟩))
      go_ret2
      exact ⟨by rw [hans.out]; rfl, rfl⟩
  · have hans : Hid (addAns d n = .tuple #[.int .i64 0, .bool false]) := if_neg (fun h => h1 h.1)
    go_enter Try.func17, Try.ntmps17
    go_wp2_with (first
      | (go_at_call 45; refine (l2Day_any _ _).mono ?_; rintro e w' ⟨rfl, rfl⟩))
    go_ret2
    exact ⟨by rw [hans.out]; rfl, rfl⟩

theorem addAns_form (d n : Int) : ∃ (x : Int) (y : Bool), addAns d n = .tuple #[.int .i64 x, .bool y] := by
  unfold addAns dueAns
  repeat' split
  all_goals exact ⟨_, _, rfl⟩

theorem walkAddWorkingDays (d : Int) (_ : -9223372036854775808 ≤ d ∧ d ≤ 9223372036854775807) (n : Int) (_ : -9223372036854775808 ≤ n ∧ n ≤ 9223372036854775807) (w : World) :
    Calls Try.prog 5 #[.int .i64 d, .int .i64 n] w fun e w' => e = .returned (.bool true) ∧ Below w.heap.size w w' := by
  obtain ⟨x, y, hx⟩ := addAns_form d n
  have HX := Lib.hid hx
  clear hx
  go_enter Try.func5, Try.ntmps5
  go_wp2_with (first
    | (go_at_call 17; refine (specAddWorkingDays_any _ _ _).mono ?_; rintro e w' ⟨rfl, rfl⟩; rw [HX.out])
    | (go_at_call 18; refine (implAddWorkingDays_any _ _ _).mono ?_; rintro e w1 ⟨rfl, hb1⟩; rw [HX.out]))
  go_ret
  exact ⟨rfl, hb1⟩

end Go.Proofs.Ytaogjkgaecjfoaa
