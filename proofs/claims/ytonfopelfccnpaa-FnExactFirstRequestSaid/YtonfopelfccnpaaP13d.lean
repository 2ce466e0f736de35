/-
  The walks of the due day: the program's loop up to the last day, the reference's without an end; AddWorkingDays by both; the law on it.
  Conditions: those written at each theorem.
-/
import Derived.Test.YtonfopelfccnpaaP13c
namespace Go.Proofs.Ytonfopelfccnpaa
open Go.RowKit

/-- the cells of a boxed request -/
def reqCells (r : Req) (A : Option Addr) (c : Nat) : Array Value := #[.int .i64 r.id, .int .i64 r.came, .int .i64 r.working, .int .i64 r.extended, .slice A r.stops.length c]

theorem dueAns_yes {x : Int} (h : x ≤ 20000) : dueAns x = .tuple #[.int .i64 x, .bool true] := if_pos h
theorem dueAns_no {x : Int} (h : 20000 < x) : dueAns x = .tuple #[.int .i64 0, .bool false] := if_neg (by omega)

set_option maxHeartbeats 800000 in
theorem due_any (r : Req) (A : Option Addr) (c : Nat) (w : World) (hr : Rd w 2 A r.stops.length (cells2 r.stops)) (hl : r.stops.length ≤ 9223372036854775807)
    (hc : 0 ≤ r.came ∧ r.came ≤ 20000) (hw : 0 ≤ r.working ∧ r.working ≤ 500) (he : 0 ≤ r.extended ∧ r.extended ≤ 500) (hn : 1 ≤ r.working + r.extended) (hS : Hid (lateStops r.stops)) :
    Calls Try.prog 38 #[.agg #[.int .i64 r.id, .int .i64 r.came, .int .i64 r.working, .int .i64 r.extended, .slice A r.stops.length c]] w
      fun e w' => e = .returned (dueAns (dueOf r.stops r.came (r.working + r.extended))) ∧ Below w.heap.size w w' := by
  have H0 : Hid (dueOf r.stops r.came (r.working + r.extended) = dueF r.stops (20003 + 3 * (r.working + r.extended).toNat) (r.came + 1 - 1) (r.working + r.extended)) := by
    show _ = _; rw [Int.add_sub_cancel]; rfl
  have M0 : Hid (dueM (r.came + 1 - 1) (r.working + r.extended) ≤ ((20003 + 3 * (r.working + r.extended).toNat : Nat) : Int)) := by
    rw [Int.add_sub_cancel]; exact dueM_start (by omega) (by omega)
  go_enter Try.func38, Try.ntmps38
  go_wp2
  go_loopw [4, 5] (fun v4 v5 wr => ∃ (n d : Int) (f : Nat), v4 = .int .i64 n ∧ v5 = .int .i64 d ∧ 1 ≤ n ∧ n ≤ r.working + r.extended ∧ 1 ≤ d ∧ d ≤ 20001 ∧ Hid (dueOf r.stops r.came (r.working + r.extended) = dueF r.stops f (d - 1) n) ∧ Hid (dueM (d - 1) n ≤ (f : Int))
      ∧ Below (w.heap.size + 1) (w.alloc (.cells #[.int .i64 r.id, .int .i64 r.came, .int .i64 r.working, .int .i64 r.extended, .slice A r.stops.length c] 43)) wr) (fun _ d _ => (20001 - intOf d).toNat)
  case atStart => exact ⟨_, _, _, rfl, rfl, by omega, by omega, by omega, by omega, H0, M0, Below.refl _ _⟩
  case round =>
    obtain ⟨n, d, f, rfl, rfl, n1, n2, d1, d2, K, M, hb⟩ := hrel
    by_cases hlt : d ≤ 20000
    · have hcells : ∀ i, wr.cell? ⟨w.heap.size, i, none⟩ = (w.alloc (.cells #[.int .i64 r.id, .int .i64 r.came, .int .i64 r.working, .int .i64 r.extended, .slice A r.stops.length c] 43)).cell? ⟨w.heap.size, i, none⟩ := fun i => hb.cell (p := ⟨w.heap.size, i, none⟩) (by simp)
      have e0 : wr.cell? ⟨w.heap.size, 0, none⟩ = some (.int .i64 r.id) := (hcells 0).trans (by simp [go_sem])
      have e1 : wr.cell? ⟨w.heap.size, 1, none⟩ = some (.int .i64 r.came) := (hcells 1).trans (by simp [go_sem])
      have e2 : wr.cell? ⟨w.heap.size, 2, none⟩ = some (.int .i64 r.working) := (hcells 2).trans (by simp [go_sem])
      have e3 : wr.cell? ⟨w.heap.size, 3, none⟩ = some (.int .i64 r.extended) := (hcells 3).trans (by simp [go_sem])
      have e4 : wr.cell? ⟨w.heap.size, 4, none⟩ = some (.slice A r.stops.length c) := (hcells 4).trans (by simp [go_sem])
      clear hcells
      have hr1 := hr.below (Below.trans' (c := wr) ((Below.refl _ _).alloc (Nat.le_refl _) _) (by simpa using hb))
      have HR1 := Lib.hid hr1
      clear hr1
      obtain ⟨g, rfl⟩ : ∃ g, f = g + 1 := ⟨f - 1, by have := M.out; have := dueM_pos (d := d - 1) (n := n) (by omega); omega⟩
      have K' : Hid (dueOf r.stops r.came (r.working + r.extended) = dueF r.stops g d (if cntB r.stops d = true then n - 1 else n)) := by
        show _ = _
        rw [K.out, dueF_go _ _ _ _ (by omega), Int.sub_add_cancel]
      have M' : Hid (dueM d (if cntB r.stops d = true then n - 1 else n) ≤ (g : Int)) := by
        have h1 := dueM_step hS.out (d := d - 1) (n := n) (by omega) (by omega)
        rw [Int.sub_add_cancel] at h1
        have h2 := M.out
        show _ ≤ _
        omega
      clear K M
      by_cases hcn : cntB r.stops d = true
      · rw [if_pos hcn] at K' M'
        by_cases hn1 : n = 1
        · subst hn1
          have K2 : Hid (dueOf r.stops r.came (r.working + r.extended) = d) := by
            show _ = _; rw [K'.out]; exact dueF_done _ _ _ _ (by omega)
          clear K' M'
          go_wp2_with (go_at_call 42; refine (counts_any r A c _ _ HR1.out hl (by omega)).mono ?_; rintro e w1 ⟨rfl, hb1⟩)
          go_ret2
          refine ⟨?_, ?_⟩
          · rw [K2.out, dueAns_yes hlt]; rfl
          · exact Below.trans' (Below.trans' ((Below.refl _ _).alloc (Nat.le_refl _) _) (by simpa using hb)) hb1
        · go_wp2_with (go_at_call 42; refine (counts_any r A c _ _ HR1.out hl (by omega)).mono ?_; rintro e w1 ⟨rfl, hb1⟩)
          go_roundw
          case rel => exact ⟨n - 1, d + 1, g, rfl, rfl, by omega, by omega, by omega, by omega, by rw [Int.add_sub_cancel]; exact K', by rw [Int.add_sub_cancel]; exact M', Below.transB hb (by simp) hb1⟩
          case measure => simp [intOf]; omega
      · rw [if_neg hcn] at K' M'
        have hn0 : ((n : Int) == 0) = false := by rw [beq_eq_false_iff_ne]; omega
        go_wp2_with (go_at_call 42; refine (counts_any r A c _ _ HR1.out hl (by omega)).mono ?_; rintro e w1 ⟨rfl, hb1⟩)
        go_roundw
        case rel => exact ⟨n, d + 1, g, rfl, rfl, by omega, by omega, by omega, by omega, by rw [Int.add_sub_cancel]; exact K', by rw [Int.add_sub_cancel]; exact M', Below.transB hb (by simp) hb1⟩
        case measure => simp [intOf]; omega
    · obtain rfl : d = 20001 := by omega
      have K2 : Hid (20000 < dueOf r.stops r.came (r.working + r.extended)) := by
        show _ < _
        rw [K.out]
        have := M.out
        have := dueM_pos (d := 20001 - 1) (n := n) (by omega)
        exact dueF_gt _ _ _ _ (by omega) (by omega)
      clear K M
      go_wp2
      go_ret2
      refine ⟨?_, ?_⟩
      · rw [dueAns_no K2.out]; rfl
      · exact Below.trans' ((Below.refl _ _).alloc (Nat.le_refl _) _) (by simpa using hb)

set_option maxHeartbeats 800000 in
theorem l13Due_any (r : Req) (A : Option Addr) (c : Nat) (w : World) (hr : Rd w 2 A r.stops.length (cells2 r.stops)) (hl : r.stops.length ≤ 9223372036854775807)
    (hc : 0 ≤ r.came ∧ r.came ≤ 20000) (hw : 0 ≤ r.working ∧ r.working ≤ 500) (he : 0 ≤ r.extended ∧ r.extended ≤ 500) (hS : Hid (lateStops r.stops)) :
    Calls Try.prog 18 #[.agg #[.int .i64 r.id, .int .i64 r.came, .int .i64 r.working, .int .i64 r.extended, .slice A r.stops.length c]] w
      fun e w' => e = .returned (.int .i64 (dueOf r.stops r.came (r.working + r.extended))) ∧ Below w.heap.size w w' := by
  have H0 : Hid (dueOf r.stops r.came (r.working + r.extended) = dueF r.stops (20003 + 3 * (r.working + r.extended).toNat) r.came (r.working + r.extended)) := rfl
  have M0 : Hid (dueM r.came (r.working + r.extended) ≤ ((20003 + 3 * (r.working + r.extended).toNat : Nat) : Int)) := dueM_start (by omega) (by omega)
  go_enter Try.func18, Try.ntmps18
  go_wp2
  go_loopw [3, 4] (fun v3 v4 wr => ∃ (n d : Int) (f : Nat), v4 = .int .i64 n ∧ v3 = .int .i64 d ∧ 0 ≤ n ∧ n ≤ r.working + r.extended ∧ 0 ≤ d ∧ d + f ≤ 50000 ∧ Hid (dueOf r.stops r.came (r.working + r.extended) = dueF r.stops f d n) ∧ Hid (dueM d n ≤ (f : Int))
      ∧ Below (w.heap.size + 1) (w.alloc (.cells #[.int .i64 r.id, .int .i64 r.came, .int .i64 r.working, .int .i64 r.extended, .slice A r.stops.length c] 43)) wr) (fun d _ _ => (50000 - intOf d).toNat)
  case atStart => exact ⟨_, _, _, rfl, rfl, by omega, by omega, by omega, by omega, H0, M0, Below.refl _ _⟩
  case round =>
    obtain ⟨n, d, f, rfl, rfl, n1, n2, d1, d2, K, M, hb⟩ := hrel
    by_cases hlt : 0 < n
    · have hcells : ∀ i, wr.cell? ⟨w.heap.size, i, none⟩ = (w.alloc (.cells #[.int .i64 r.id, .int .i64 r.came, .int .i64 r.working, .int .i64 r.extended, .slice A r.stops.length c] 43)).cell? ⟨w.heap.size, i, none⟩ := fun i => hb.cell (p := ⟨w.heap.size, i, none⟩) (by simp)
      have e0 : wr.cell? ⟨w.heap.size, 0, none⟩ = some (.int .i64 r.id) := (hcells 0).trans (by simp [go_sem])
      have e1 : wr.cell? ⟨w.heap.size, 1, none⟩ = some (.int .i64 r.came) := (hcells 1).trans (by simp [go_sem])
      have e2 : wr.cell? ⟨w.heap.size, 2, none⟩ = some (.int .i64 r.working) := (hcells 2).trans (by simp [go_sem])
      have e3 : wr.cell? ⟨w.heap.size, 3, none⟩ = some (.int .i64 r.extended) := (hcells 3).trans (by simp [go_sem])
      have e4 : wr.cell? ⟨w.heap.size, 4, none⟩ = some (.slice A r.stops.length c) := (hcells 4).trans (by simp [go_sem])
      clear hcells
      have hr1 := hr.below (Below.trans' (c := wr) ((Below.refl _ _).alloc (Nat.le_refl _) _) (by simpa using hb))
      have HR1 := Lib.hid hr1
      clear hr1
      obtain ⟨g, rfl⟩ : ∃ g, f = g + 1 := ⟨f - 1, by have := M.out; have := dueM_pos (d := d) (n := n) (by omega); omega⟩
      have K' : Hid (dueOf r.stops r.came (r.working + r.extended) = dueF r.stops g (d + 1) (if cntB r.stops (d + 1) = true then n - 1 else n)) := by
        show _ = _
        rw [K.out, dueF_go _ _ _ _ (by omega)]
      have M' : Hid (dueM (d + 1) (if cntB r.stops (d + 1) = true then n - 1 else n) ≤ (g : Int)) := by
        have h1 := dueM_step hS.out (d := d) (n := n) (by omega) (by omega)
        have h2 := M.out
        show _ ≤ _
        omega
      clear K M
      by_cases hcn : cntB r.stops (d + 1) = true
      · rw [if_pos hcn] at K' M'
        go_wp2_with (go_at_call 29; refine (l13Counts_any r A c _ _ HR1.out hl (by omega)).mono ?_; rintro e w1 ⟨rfl, hb1⟩)
        go_roundw
        case rel => exact ⟨n - 1, d + 1, g, rfl, rfl, by omega, by omega, by omega, by omega, K', M', Below.transB hb (by simp) hb1⟩
        case measure => simp [intOf]; omega
      · rw [if_neg hcn] at K' M'
        go_wp2_with (go_at_call 29; refine (l13Counts_any r A c _ _ HR1.out hl (by omega)).mono ?_; rintro e w1 ⟨rfl, hb1⟩)
        go_roundw
        case rel => exact ⟨n, d + 1, g, rfl, rfl, by omega, by omega, by omega, by omega, K', M', Below.transB hb (by simp) hb1⟩
        case measure => simp [intOf]; omega
    · obtain rfl : n = 0 := by omega
      have K2 : Hid (dueOf r.stops r.came (r.working + r.extended) = d) := by
        show _ = _
        rw [K.out]; exact dueF_done _ _ _ _ (by omega)
      clear K M
      go_wp2
      go_ret
      refine ⟨?_, ?_⟩
      · rw [K2.out]; rfl
      · exact Below.trans' ((Below.refl _ _).alloc (Nat.le_refl _) _) (by simpa using hb)

/-- what AddWorkingDays answers -/
def addAns (d n : Int) : Value := if inB d 0 20000 = true ∧ inB n 1 500 = true then dueAns (dueOf [] d n) else .tuple #[.int .i64 0, .bool false]



theorem addAns_form (d n : Int) : ∃ (x : Int) (y : Bool), addAns d n = .tuple #[.int .i64 x, .bool y] := by
  unfold addAns dueAns
  repeat' split
  all_goals exact ⟨_, _, rfl⟩


end Go.Proofs.Ytonfopelfccnpaa
