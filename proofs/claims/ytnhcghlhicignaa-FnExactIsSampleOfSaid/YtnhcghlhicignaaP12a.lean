/-
  The walks of chapter 12: populations and the size of samples.
  Conditions: those written at each theorem.
-/
import Derived.Test.YtnhcghlhicignaaL12
namespace Go.Proofs.Ytnhcghlhicignaa
open Go.RowKit Go.BigFrame

theorem l1Most_any (a b : Int) (w : World) :
    Calls Try.prog 69 #[.int .i64 a, .int .i64 b] w fun e w' => e = .returned (.int .i64 (if b < a then a else b)) ∧ w = w' := by
  by_cases h : b < a
  all_goals
    go_enter Try.func69, Try.ntmps69
    go_wp2
    go_ret
    exact ⟨by simp [h], rfl⟩
theorem l1Least_any (a b : Int) (w : World) :
    Calls Try.prog 68 #[.int .i64 a, .int .i64 b] w fun e w' => e = .returned (.int .i64 (if a < b then a else b)) ∧ w = w' := by
  by_cases h : a < b
  all_goals
    go_enter Try.func68, Try.ntmps68
    go_wp2
    go_ret
    exact ⟨by simp [h], rfl⟩

theorem l12Size_any (c p m : Int) (hc : 0 ≤ c ∧ c ≤ 20) (hp : 0 ≤ p ∧ p ≤ 100) (hm : 0 ≤ m ∧ m ≤ 20) (w : World) :
    Calls Try.prog 41 #[.int .i64 c, .int .i64 p, .int .i64 m] w fun e w' => e = .returned (.int .i64 (sizeI c p m)) ∧ w = w' := by
  have h1 := mul_bd hc.1 hc.2 hp.1 hp.2
  have hs : Hid (sizeI c p m = if c < (if (c * p + 99) / 100 < m then m else (c * p + 99) / 100) then c else (if (c * p + 99) / 100 < m then m else (c * p + 99) / 100)) := rfl
  generalize hx : c * p = x at h1 hs
  have HX := Lib.hid hx
  clear hx
  go_enter Try.func41, Try.ntmps41
  have hx := HX.out
  go_wp2_with fail
  clear hx
  refine (l1Most_any _ _ _).mono ?_
  rintro e w1 ⟨rfl, rfl⟩
  go_wp2_with (go_at_call 68; refine (l1Least_any _ _ _).mono ?_; rintro e w' ⟨rfl, rfl⟩)
  all_goals
    go_ret
    refine ⟨?_, rfl⟩
    rw [hs.out]
    clear HX hs
    simp
    try grind

theorem ceilDiv_any (a : Int) (ha : 0 ≤ a ∧ a ≤ 1000000) (w : World) :
    Calls Try.prog 70 #[.int .i64 a, .int .i64 100] w fun e w' => e = .returned (.int .i64 ((a + 99) / 100)) ∧ w = w' := by
  go_enter Try.func70, Try.ntmps70
  go_wp2
  go_ret
  refine ⟨?_, rfl⟩
  simp
  omega

theorem sampleSize_any (c p m : Int) (hc : 0 ≤ c ∧ c ≤ 20) (hp : 0 ≤ p ∧ p ≤ 100) (hm : 0 ≤ m ∧ m ≤ 20) (w : World) :
    Calls Try.prog 42 #[.int .i64 c, .int .i64 p, .int .i64 m] w fun e w' => e = .returned (.int .i64 (sizeI c p m)) ∧ w = w' := by
  have h1 := mul_bd hc.1 hc.2 hp.1 hp.2
  have hs : Hid (sizeI c p m = if c < (if (c * p + 99) / 100 < m then m else (c * p + 99) / 100) then c else (if (c * p + 99) / 100 < m then m else (c * p + 99) / 100)) := rfl
  generalize hx : c * p = x at h1 hs
  have HX := Lib.hid hx
  clear hx
  go_enter Try.func42, Try.ntmps42
  have hx := HX.out
  go_wp2_with fail
  clear hx
  refine (ceilDiv_any _ (by omega) _).mono ?_
  rintro e w1 ⟨rfl, rfl⟩
  go_wp2
  all_goals
    go_ret
    refine ⟨?_, rfl⟩
    rw [hs.out]
    clear HX hs
    simp
    try grind

theorem specSampleSize_any (c p m : Int) (w : World) :
    Calls Try.prog 16 #[.int .i64 c, .int .i64 p, .int .i64 m] w fun e w' => e = .returned (ssAns c p m) ∧ w = w' := by
  by_cases h : inB c 0 20 = true ∧ inB p 0 100 = true ∧ inB m 0 20 = true
  · have hans : Hid (ssAns c p m = .tuple #[.int .i64 (sizeI c p m), .bool true]) := if_pos h
    obtain ⟨h1, h2, h3⟩ := h
    have HS := fun W => Lib.hid (l12Size_any c p m (inB_true h1) (inB_true h2) (inB_true h3) W)
    go_enter Try.func16, Try.ntmps16
    go_wp2_with (first
      | (go_at_call 40; refine (l1In_any _ _ _ _).mono ?_; rintro e w' ⟨rfl, rfl⟩)
      | (go_at_call 41; refine (HS _).out.mono ?_; rintro e w' ⟨rfl, rfl⟩))
    go_ret2
    exact ⟨by rw [hans.out]; rfl, rfl⟩
  · have hans : Hid (ssAns c p m = .tuple #[.int .i64 0, .bool false]) := if_neg h
    go_enter Try.func16, Try.ntmps16
    go_wp2_with (first
      | (go_at_call 40; refine (l1In_any _ _ _ _).mono ?_; rintro e w' ⟨rfl, rfl⟩))
    all_goals first
      | (go_ret2; exact ⟨by rw [hans.out]; rfl, rfl⟩)
      | (exfalso; clear hans; simp_all; done)

theorem implSampleSize_any (c p m : Int) (w : World) :
    Calls Try.prog 17 #[.int .i64 c, .int .i64 p, .int .i64 m] w fun e w' => e = .returned (ssAns c p m) ∧ w = w' := by
  by_cases h : inB c 0 20 = true ∧ inB p 0 100 = true ∧ inB m 0 20 = true
  · have hans : Hid (ssAns c p m = .tuple #[.int .i64 (sizeI c p m), .bool true]) := if_pos h
    obtain ⟨h1, h2, h3⟩ := h
    have HS := fun W => Lib.hid (sampleSize_any c p m (inB_true h1) (inB_true h2) (inB_true h3) W)
    go_enter Try.func17, Try.ntmps17
    go_wp2_with (first
      | (go_at_call 39; refine (within_any _ _ _ _).mono ?_; rintro e w' ⟨rfl, rfl⟩)
      | (go_at_call 42; refine (HS _).out.mono ?_; rintro e w' ⟨rfl, rfl⟩))
    go_ret2
    exact ⟨by rw [hans.out]; rfl, rfl⟩
  · have hans : Hid (ssAns c p m = .tuple #[.int .i64 0, .bool false]) := if_neg h
    go_enter Try.func17, Try.ntmps17
    go_wp2_with (first
      | (go_at_call 39; refine (within_any _ _ _ _).mono ?_; rintro e w' ⟨rfl, rfl⟩))
    all_goals first
      | (go_ret2; exact ⟨by rw [hans.out]; rfl, rfl⟩)
      | (exfalso; clear hans; simp_all; done)

theorem walkSampleSize {w : World} (c : Int) (_ : I64 c) (p : Int) (_ : I64 p) (m : Int) (_ : I64 m) :
    Calls Try.prog 4 #[.int .i64 c, .int .i64 p, .int .i64 m] w fun e w' => e = .returned (.bool true) ∧ Below w.heap.size w w' := by
  have HS := fun W => Lib.hid (specSampleSize_any c p m W)
  have HI := fun W => Lib.hid (implSampleSize_any c p m W)
  obtain ⟨x, y, hx⟩ := ssAns_form c p m
  rw [hx] at HS HI
  clear hx
  go_enter Try.func4, Try.ntmps4
  go_wp2_with (first
    | (go_at_call 16; refine (HS _).out.mono ?_; rintro e w' ⟨rfl, rfl⟩)
    | (go_at_call 17; refine (HI _).out.mono ?_; rintro e w' ⟨rfl, rfl⟩))
  go_ret
  exact ⟨rfl, Below.refl _ _⟩

set_option maxHeartbeats 400000 in
theorem l1Rising_any (l : List Int) (A : Option Addr) (c : Nat) (hl : l.length ≤ 1048577) (w : World) (hr : Rd w 1 A l.length (cellsI l)) :
    Calls Try.prog 67 #[.slice A l.length c, .int .i64 1, .int .i64 999] w fun e w' => e = .returned (.bool (riseB 0 l)) ∧ Below w.heap.size w w' := by
  obtain ⟨hx, hrd⟩ := hr
  have HR := Lib.hid hrd
  clear hx hrd
  go_enter Try.func67, Try.ntmps67
  go_wp2
  go_loopw [7] (fun v wr => ∃ k : Nat, k ≤ l.length ∧ v = .int .i64 k ∧ Below w.heap.size w wr ∧ Hid (riseB 0 l = riseB (lastAt l k) (l.drop k))) (fun v _ => l.length - (intOf v).toNat)
  case atStart => exact ⟨0, Nat.zero_le _, rfl, Below.refl _ _, by show _ = _; rfl⟩
  case round =>
    obtain ⟨k, hk, rfl, hb, K⟩ := hrel
    by_cases hlt : k < l.length
    · obtain ⟨gb, go, rfl, hgb, hcell⟩ := HR.out (by omega)
      have c0 : wr.cell? ⟨gb, go + k, none⟩ = some (.int .i64 l[k]) := (hb.cell (p := ⟨gb, go + k, none⟩) hgb).trans (cellsI_at hcell hlt)
      have HC := Lib.hid hcell
      have HB := Lib.hid hb
      have hlt' : ((k : Int) < (l.length : Int)) := by omega
      have K1 := K.out
      rw [List.drop_eq_getElem_cons hlt] at K1
      have K1 := Lib.hid K1
      clear K hcell hb
      by_cases hin : inB l[k] 1 999 = true
      · by_cases hk0 : k = 0
        · have K2 : Hid (riseB 0 l = riseB (lastAt l (k + 1)) (l.drop (k + 1))) := by
            show _ = _
            rw [K1.out, lastAt_succ hlt, riseB_go hin]
            subst hk0; exact (inB_true hin).1
          have hk1 : decide ((0 : Int) < (k : Int)) = false := by simp; omega
          have hk2 : decide (0 < k) = false := by simp; omega
          clear K1 hk0
          go_wp2
          go_quiet ((go_at_call 40; exact quietC (l1In_t hin _) ⟨_, rfl⟩))
          go_wp2
          go_roundw
          case rel => exact ⟨k + 1, by omega, by go_num, below_drewN HB.out _, K2⟩
          case measure => simp [intOf]; omega
        · obtain ⟨m, rfl⟩ : ∃ m, k = m + 1 := ⟨k - 1, by omega⟩
          have hm : m < l.length := by omega
          have p0 : wr.cell? ⟨gb, go + m, none⟩ = some (.int .i64 l[m]) := (HB.out.cell (p := ⟨gb, go + m, none⟩) hgb).trans (cellsI_at HC.out hm)
          rw [lastAt_succ hm] at K1
          clear hk0
          by_cases hlast : l[m] < l[m + 1]
          · have K2 : Hid (riseB 0 l = riseB (lastAt l (m + 1 + 1)) (l.drop (m + 1 + 1))) := by
              show _ = _
              rw [K1.out, lastAt_succ hlt, riseB_go hin hlast]
            clear K1
            go_wp2
            go_quiet ((go_at_call 40; exact quietC (l1In_t hin _) ⟨_, rfl⟩))
            go_wp2
            go_roundw
            case rel => exact ⟨m + 1 + 1, by omega, by go_num, below_drewN HB.out _, K2⟩
            case measure => simp [intOf]; omega
          · have K2 : Hid (riseB 0 l = false) := by show _ = _; rw [K1.out, riseB_bad fun h => hlast h.2]
            clear K1
            go_wp2
            go_quiet ((go_at_call 40; exact quietC (l1In_t hin _) ⟨_, rfl⟩))
            go_wp2
            go_ret
            exact ⟨by rw [K2.out]; rfl, below_drewN HB.out _⟩
      · have K2 : Hid (riseB 0 l = false) := by show _ = _; rw [K1.out, riseB_bad fun h => hin h.1]
        clear K1
        go_wp2
        go_quiet ((go_at_call 40; exact quietC (l1In_f hin _) ⟨_, rfl⟩))
        go_wp2
        go_ret
        exact ⟨by rw [K2.out]; rfl, below_drewN HB.out _⟩
    · have K2 : Hid (riseB 0 l = true) := by show _ = _; rw [K.out, List.drop_of_length_le (by omega)]; rfl
      clear K
      go_wp2
      go_ret
      exact ⟨by rw [K2.out]; rfl, hb⟩

theorem l12Good_any (l : List Int) (A : Option Addr) (c : Nat) (hl : l.length ≤ 1048577) (w : World) (hr : Rd w 1 A l.length (cellsI l)) :
    Calls Try.prog 38 #[.slice A l.length c] w fun e w' => e = .returned (.bool (popB l)) ∧ Below w.heap.size w w' := by
  by_cases h : (l.length : Int) ≤ 20
  · have hp : Hid (popB l = riseB 0 l) := by show _ = _; simp only [popB]; rw [decide_eq_true h, Bool.and_true]
    go_enter Try.func38, Try.ntmps38
    go_wp2_with fail
    refine (l1Rising_any l A c hl _ hr).mono ?_
    rintro e w1 ⟨rfl, hb⟩
    go_wp2
    go_ret
    exact ⟨by rw [hp.out]; rfl, hb⟩
  · have hp : Hid (popB l = false) := by show _ = _; simp only [popB]; rw [decide_eq_false h, Bool.and_false]
    go_enter Try.func38, Try.ntmps38
    go_wp2
    go_ret
    exact ⟨by rw [hp.out]; rfl, Below.refl _ _⟩

theorem specIsPopulation_any (l : List Int) (A : Option Addr) (c : Nat) (hl : l.length ≤ 1048577) (w : World) (hr : Rd w 1 A l.length (cellsI l)) :
    Calls Try.prog 12 #[.slice A l.length c] w fun e w' => e = .returned (.bool (popB l)) ∧ Below w.heap.size w w' := by
  go_enter Try.func12, Try.ntmps12
  go_wp2_with fail
  refine (l12Good_any l A c hl _ hr).mono ?_
  rintro e w1 ⟨rfl, hb⟩
  go_wp2
  go_ret
  exact ⟨rfl, hb⟩

set_option maxHeartbeats 400000 in
theorem implIsPopulation_any (l : List Int) (A : Option Addr) (c : Nat) (hl : l.length ≤ 1048577) (w : World) (hr : Rd w 1 A l.length (cellsI l)) :
    Calls Try.prog 14 #[.slice A l.length c] w fun e w' => e = .returned (.bool (popB l)) ∧ w = w' := by
  obtain ⟨hx, hrd⟩ := hr
  have HR := Lib.hid hrd
  clear hx hrd
  go_enter Try.func14, Try.ntmps14
  go_wp2
  go_loop [7] (fun v => ∃ k : Nat, k ≤ l.length ∧ v = .int .i64 k ∧ Hid (riseB 0 l = riseB (lastAt l k) (l.drop k))) (fun v => l.length - (intOf v).toNat)
  case atStart => exact ⟨0, Nat.zero_le _, rfl, by show _ = _; rfl⟩
  case round =>
    obtain ⟨k, hk, rfl, K⟩ := hrel
    by_cases hlt : k < l.length
    · obtain ⟨gb, go, rfl, hgb, hcell⟩ := HR.out (by omega)
      have c0 : w.cell? ⟨gb, go + k, none⟩ = some (.int .i64 l[k]) := cellsI_at hcell hlt
      have HC := Lib.hid hcell
      have hlt' : ((k : Int) < (l.length : Int)) := by omega
      have K1 := K.out
      rw [List.drop_eq_getElem_cons hlt] at K1
      have K1 := Lib.hid K1
      clear K hcell
      by_cases hin : inB l[k] 1 999 = true
      · by_cases hk0 : k = 0
        · have K2 : Hid (riseB 0 l = riseB (lastAt l (k + 1)) (l.drop (k + 1))) := by
            show _ = _
            rw [K1.out, lastAt_succ hlt, riseB_go hin]
            subst hk0; exact (inB_true hin).1
          have hk1 : ¬ (0 : Int) < (k : Int) := by omega
          clear K1 hk0
          go_wp2_with (go_at_call 39; refine (within_any _ _ _ _).mono ?_; rintro e w' ⟨rfl, rfl⟩)
          go_round
          case rel => exact ⟨k + 1, by omega, by go_num, K2⟩
          case measure => simp [intOf]; omega
        · obtain ⟨m, rfl⟩ : ∃ m, k = m + 1 := ⟨k - 1, by omega⟩
          have hm : m < l.length := by omega
          have p0 : w.cell? ⟨gb, go + m, none⟩ = some (.int .i64 l[m]) := cellsI_at HC.out hm
          rw [lastAt_succ hm] at K1
          clear hk0
          by_cases hlast : l[m] < l[m + 1]
          · have K2 : Hid (riseB 0 l = riseB (lastAt l (m + 1 + 1)) (l.drop (m + 1 + 1))) := by
              show _ = _
              rw [K1.out, lastAt_succ hlt, riseB_go hin hlast]
            clear K1
            go_wp2_with (go_at_call 39; refine (within_any _ _ _ _).mono ?_; rintro e w' ⟨rfl, rfl⟩)
            go_round
            case rel => exact ⟨m + 1 + 1, by omega, by go_num, K2⟩
            case measure => simp [intOf]; omega
          · have K2 : Hid (popB l = false) := by show _ = _; simp only [popB]; rw [K1.out, riseB_bad fun h => hlast h.2]; rfl
            clear K1
            go_wp2_with (go_at_call 39; refine (within_any _ _ _ _).mono ?_; rintro e w' ⟨rfl, rfl⟩)
            go_ret
            exact ⟨by rw [K2.out]; rfl, rfl⟩
      · have K2 : Hid (popB l = false) := by show _ = _; simp only [popB]; rw [K1.out, riseB_bad fun h => hin h.1]; rfl
        clear K1
        go_wp2_with (go_at_call 39; refine (within_any _ _ _ _).mono ?_; rintro e w' ⟨rfl, rfl⟩)
        go_ret
        exact ⟨by rw [K2.out]; rfl, rfl⟩
    · have K2 : Hid (popB l = decide ((l.length : Int) ≤ 20)) := by show _ = _; simp only [popB]; rw [K.out, List.drop_of_length_le (by omega)]; rfl
      clear K
      go_wp2
      go_ret
      exact ⟨by rw [K2.out]; rfl, rfl⟩

end Go.Proofs.Ytnhcghlhicignaa
