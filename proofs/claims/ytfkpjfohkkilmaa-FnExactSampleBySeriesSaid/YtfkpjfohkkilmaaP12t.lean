/-
  Lists of records, good or not: by the reference and by the program.
  Conditions: those written at each theorem.
-/
import Derived.Test.YtfkpjfohkkilmaaTyRecU
namespace Go.Proofs.Ytfkpjfohkkilmaa
open Go.RowKit Go.BigFrame
set_option maxRecDepth 100000

/-- good records, their numbers rising, behind a number -/
def recsB : Int → List RQ → Bool
  | _, [] => true
  | last, x :: t => recB x.r && (decide (last < x.r.id) && recsB x.r.id t)
def lastId (L : List RQ) : Nat → Int
  | 0 => 0
  | k + 1 => ((L[k]?).map (·.r.id)).getD 0
theorem lastId_succ (L : List RQ) (k : Nat) (h : k < L.length) : lastId L (k + 1) = L[k].r.id := by simp [lastId, h]
def goodR (L : List RQ) : Bool := recsB 0 L && decide ((L.length : Int) ≤ 10)
theorem recsB_step {L : List RQ} {k : Nat} (h : k < L.length) (K : recsB 0 L = recsB (lastId L k) (L.drop k)) :
    recsB 0 L = (recB L[k].r && (decide (lastId L k < L[k].r.id) && recsB (lastId L (k + 1)) (L.drop (k + 1)))) := by
  rw [K, List.drop_eq_getElem_cons h, recsB, lastId_succ L k h]
theorem recB_head {r : Rec} (h : recB r = true) : (1 ≤ r.id ∧ r.id ≤ 999) ∧ (1 ≤ r.series ∧ r.series ≤ 99) := by
  simp only [recB, headR, Bool.and_eq_true] at h
  exact ⟨inB_true h.2.1.1.1, inB_true h.2.1.1.2⟩

set_option maxHeartbeats 4000000 in
theorem l2Records_any (L : List RQ) (A : Option Addr) (c : Nat) (w : World) (hr : RdQ w A L) (hl : L.length ≤ 1048576) (hs : ∀ x ∈ L, x.r.events.length ≤ 1048576) :
    Calls Try.prog 14 #[.slice A L.length c] w fun e w' => e = .returned (.bool (goodR L)) ∧ Below w.heap.size w w' := by
  have HR := Lib.hid hr
  have HS := Lib.hid hs
  have HG : Hid (goodR L = (recsB 0 L && decide ((L.length : Int) ≤ 10))) := rfl
  clear hr hs
  go_enter Try.func14, Try.ntmps14
  go_wp2_with fail
  go_loopw [3] (fun v3 wr => ∃ k : Nat, k ≤ L.length ∧ v3 = .int .i64 k ∧ Below w.heap.size w wr ∧ Hid (recsB 0 L = recsB (lastId L k) (L.drop k))) (fun v3 _ => L.length - (intOf v3).toNat)
  case atStart => exact ⟨0, Nat.zero_le _, rfl, Below.refl _ _, by show _ = _; rfl⟩
  case round =>
    obtain ⟨k, hk, rfl, hb, K⟩ := hrel
    by_cases hlt : k < L.length
    · have hlt' : ((k : Int) < (L.length : Int)) := by omega
      have hk0 : (0 : Int) ≤ (k : Int) := by omega
      obtain ⟨gb, go, rfl, hgb, hcell⟩ := (HR.out.below hb).1.2 (by omega)
      obtain ⟨h0, h1, h2, h3⟩ := cellsRQ_at hcell hlt
      have hrd := (HR.out.below hb).2 _ (List.getElem_mem hlt)
      have hn := HS.out _ (List.getElem_mem hlt)
      have K1 := Lib.hid (recsB_step hlt K.out)
      have HQ := fun s : GW wr => Lib.hid (l2Record_any L[k].r L[k].A L[k].c hn s.w (hrd.below s.below))
      have p0 := cellG hgb h0
      have p1 := cellG hgb h1
      have p2 := cellG hgb h2
      have p3 := cellG hgb h3
      have HB := Lib.hid hb
      clear h0 h1 h2 h3 K
      by_cases q1 : recB L[k].r = true
      · have hid := (recB_head q1).1.1
        have K2 : Hid (recsB 0 L = (decide (lastId L k < L[k].r.id) && recsB (lastId L (k + 1)) (L.drop (k + 1)))) := by show _ = _; rw [K1.out, q1]; rfl
        rw [q1] at HQ
        clear K1 q1 hb hrd
        by_cases hz : k = 0
        · have z1 : decide ((0 : Int) < (k : Int)) = false := decide_eq_false (by omega)
          have z2 : decide (0 < k) = false := decide_eq_false (by omega)
          have z3 : ¬ ((0 : Int) < (k : Int)) := by omega
          have z4 : ¬ (0 < k) := by omega
          have hl0 : lastId L k = 0 := by rw [hz]; rfl
          have K3 : Hid (recsB 0 L = recsB (lastId L (k + 1)) (L.drop (k + 1))) := by show _ = _; rw [K2.out, hl0, decide_eq_true (by omega)]; rfl
          clear hz K2 hcell hl0
          go_wp2_with fail
          refine wp_region_grow (by kernel_rfl) (by kernel_rfl) ?_
          repeat (go_big_quiet_step (first | (go_at_call 31; exact quietG (HQ _).out)))
          refine wpQuiet_endG ?_
          intro w2 hb2
          have B2 := Lib.hid (Below.transB HB.out (Nat.le_refl _) hb2)
          clear hb2 p0 p1 p2 p3
          go_wp2
          go_roundw
          case rel => exact ⟨k + 1, by omega, by go_num, B2.out, K3⟩
          case measure => simp [intOf]; omega
        · obtain ⟨jp, hjp'⟩ : ∃ jp, k = jp + 1 := ⟨k - 1, by omega⟩
          have hjp : (k : Int) - 1 = (jp : Int) := by omega
          have hjl : jp < L.length := by omega
          have y0 : (0 : Int) ≤ (jp : Int) := by omega
          have y1 : (jp : Int) < (L.length : Int) := by omega
          have hwj : IntKind.i64.wrap (jp : Int) = (jp : Int) := IntWalk.i64_in _ (by omega)
          have z1 : decide ((0 : Int) < (k : Int)) = true := decide_eq_true (by omega)
          have z2 : decide (0 < k) = true := decide_eq_true (by omega)
          have z3 : (0 : Int) < (k : Int) := by omega
          have z4 : 0 < k := by omega
          obtain ⟨j0, _, _, _⟩ := cellsRQ_at hcell hjl
          have r0 := cellG hgb j0
          have hla : lastId L k = L[jp].r.id := by rw [hjp']; exact lastId_succ L jp hjl
          rw [hla] at K2
          clear hcell j0 hz hjp' hla
          by_cases q3 : L[jp].r.id < L[k].r.id
          · have q3' : ¬ (L[k].r.id ≤ L[jp].r.id) := by omega
            have K3 : Hid (recsB 0 L = recsB (lastId L (k + 1)) (L.drop (k + 1))) := by show _ = _; rw [K2.out, decide_eq_true q3]; rfl
            clear K2
            go_wp2_with fail
            refine wp_region_grow (by kernel_rfl) (by kernel_rfl) ?_
            repeat (go_big_quiet_step (first | (go_at_call 31; exact quietG (HQ _).out)))
            refine wpQuiet_endG ?_
            intro w2 hb2
            have B2 := Lib.hid (Below.transB HB.out (Nat.le_refl _) hb2)
            clear hb2 p0 p1 p2 p3 r0
            go_wp2
            go_roundw
            case rel => exact ⟨k + 1, by omega, by go_num, B2.out, K3⟩
            case measure => simp [intOf]; omega
          · have q3' : L[k].r.id ≤ L[jp].r.id := by omega
            have K3 : Hid (goodR L = false) := by show _ = _; rw [HG.out, K2.out, decide_eq_false q3]; rfl
            clear K2
            go_wp2_with fail
            refine wp_region_grow (by kernel_rfl) (by kernel_rfl) ?_
            repeat (go_big_quiet_step (first | (go_at_call 31; exact quietG (HQ _).out)))
            refine wpQuiet_endG ?_
            intro w2 hb2
            have B2 := Lib.hid (Below.transB HB.out (Nat.le_refl _) hb2)
            clear hb2 p0 p1 p2 p3 r0
            go_wp2
            go_ret
            exact ⟨by rw [K3.out]; rfl, B2.out⟩
      · have q1' : recB L[k].r = false := by simpa using q1
        have K2 : Hid (goodR L = false) := by show _ = _; rw [HG.out, K1.out, q1']; rfl
        rw [q1'] at HQ
        clear K1 q1 hb hrd hcell q1'
        go_wp2_with fail
        refine wp_region_grow (by kernel_rfl) (by kernel_rfl) ?_
        repeat (go_big_quiet_step (first | (go_at_call 31; exact quietG (HQ _).out)))
        refine wpQuiet_endG ?_
        intro w2 hb2
        have B2 := Lib.hid (Below.transB HB.out (Nat.le_refl _) hb2)
        clear hb2 p0 p1 p2 p3
        go_wp2
        go_ret
        exact ⟨by rw [K2.out]; rfl, B2.out⟩
    · have hge : ¬ ((k : Int) < (L.length : Int)) := by omega
      have K2 : Hid (goodR L = decide ((L.length : Int) ≤ 10)) := by
        show _ = _; rw [HG.out, K.out, List.drop_of_length_le (by omega), recsB]; rfl
      clear K
      go_wp2
      go_ret
      exact ⟨by rw [K2.out]; rfl, hb⟩

set_option maxHeartbeats 4000000 in
theorem areRecords_any (L : List RQ) (A : Option Addr) (c : Nat) (w : World) (hr : RdQ w A L) (hl : L.length ≤ 1048576) (hs : ∀ x ∈ L, x.r.events.length ≤ 1048576) :
    Calls Try.prog 22 #[.slice A L.length c] w fun e w' => e = .returned (.bool (goodR L)) ∧ Below w.heap.size w w' := by
  have HR := Lib.hid hr
  have HS := Lib.hid hs
  have HG : Hid (goodR L = (recsB 0 L && decide ((L.length : Int) ≤ 10))) := rfl
  clear hr hs
  go_enter Try.func22, Try.ntmps22
  go_wp2_with fail
  go_loopw [7] (fun v7 wr => ∃ k : Nat, k ≤ L.length ∧ v7 = .int .i64 k ∧ Below w.heap.size w wr ∧ Hid (recsB 0 L = recsB (lastId L k) (L.drop k))) (fun v7 _ => L.length - (intOf v7).toNat)
  case atStart => exact ⟨0, Nat.zero_le _, rfl, Below.refl _ _, by show _ = _; rfl⟩
  case round =>
    obtain ⟨k, hk, rfl, hb, K⟩ := hrel
    by_cases hlt : k < L.length
    · have hlt' : ((k : Int) < (L.length : Int)) := by omega
      have hk0 : (0 : Int) ≤ (k : Int) := by omega
      obtain ⟨gb, go, rfl, hgb, hcell⟩ := (HR.out.below hb).1.2 (by omega)
      obtain ⟨h0, h1, h2, h3⟩ := cellsRQ_at hcell hlt
      have hrd := (HR.out.below hb).2 _ (List.getElem_mem hlt)
      have hn := HS.out _ (List.getElem_mem hlt)
      have K1 := Lib.hid (recsB_step hlt K.out)
      have bx := Box.new wr #[.int .i64 L[k].r.id, .int .i64 L[k].r.series, .int .i64 L[k].r.made, .slice L[k].A L[k].r.events.length L[k].c] 48
      have hb1 : Below wr.heap.size wr (wr.alloc (.cells #[.int .i64 L[k].r.id, .int .i64 L[k].r.series, .int .i64 L[k].r.made, .slice L[k].A L[k].r.events.length L[k].c] 48)) := (Below.refl _ _).alloc (Nat.le_refl _) _
      have HB1 := Lib.hid (Below.transB hb (Nat.le_refl _) hb1)
      have HQ := fun s : GW (wr.alloc (.cells #[.int .i64 L[k].r.id, .int .i64 L[k].r.series, .int .i64 L[k].r.made, .slice L[k].A L[k].r.events.length L[k].c] 48)) => Lib.hid (implIsRecord_any L[k].r L[k].A L[k].c hn s.w ((hrd.below hb1).below s.below))
      have b0 := bx.G 0 _ rfl
      have b1 := bx.G 1 _ rfl
      have b2 := bx.G 2 _ rfl
      have b3 := bx.G 3 _ rfl
      have HBW := Lib.hid hb1
      have hgb1 : gb < (wr.alloc (.cells #[.int .i64 L[k].r.id, .int .i64 L[k].r.series, .int .i64 L[k].r.made, .slice L[k].A L[k].r.events.length L[k].c] 48)).heap.size := by simp; omega
      clear K bx hb1
      by_cases q1 : recB L[k].r = true
      · have hid := (recB_head q1).1.1
        have K2 : Hid (recsB 0 L = (decide (lastId L k < L[k].r.id) && recsB (lastId L (k + 1)) (L.drop (k + 1)))) := by show _ = _; rw [K1.out, q1]; rfl
        rw [q1] at HQ
        clear K1 q1 hb hrd
        by_cases hz : k = 0
        · have z1 : decide ((0 : Int) < (k : Int)) = false := decide_eq_false (by omega)
          have z2 : decide (0 < k) = false := decide_eq_false (by omega)
          have hl0 : lastId L k = 0 := by rw [hz]; rfl
          have K3 : Hid (recsB 0 L = recsB (lastId L (k + 1)) (L.drop (k + 1))) := by show _ = _; rw [K2.out, hl0, decide_eq_true (by omega)]; rfl
          clear hz K2 hcell hl0
          go_wp2_with fail
          refine wp_region_grow (by kernel_rfl) (by kernel_rfl) ?_
          repeat (go_big_quiet_step (first | (go_at_call 38; exact quietG (HQ _).out)))
          refine wpQuiet_endG ?_
          intro w2 hb2
          have B2 := Lib.hid (Below.transB HB1.out (Nat.le_refl _) hb2)
          clear hb2 b0 b1 b2 b3 h0 h1 h2 h3
          go_wp2
          go_roundw
          case rel => exact ⟨k + 1, by omega, by go_num, B2.out, K3⟩
          case measure => simp [intOf]; omega
        · obtain ⟨jp, hjp'⟩ : ∃ jp, k = jp + 1 := ⟨k - 1, by omega⟩
          have hjp : (k : Int) - 1 = (jp : Int) := by omega
          have hjl : jp < L.length := by omega
          have y0 : (0 : Int) ≤ (jp : Int) := by omega
          have y1 : (jp : Int) < (L.length : Int) := by omega
          have hwj : IntKind.i64.wrap (jp : Int) = (jp : Int) := IntWalk.i64_in _ (by omega)
          have z1 : decide ((0 : Int) < (k : Int)) = true := decide_eq_true (by omega)
          have z2 : decide (0 < k) = true := decide_eq_true (by omega)
          obtain ⟨j0, _, _, _⟩ := cellsRQ_at hcell hjl
          have r0 := cellG hgb1 ((HBW.out.cell (p := ⟨gb, go + jp * 4, none⟩) hgb).trans j0)
          have hla : lastId L k = L[jp].r.id := by rw [hjp']; exact lastId_succ L jp hjl
          rw [hla] at K2
          clear hcell j0 hz hjp' hla
          by_cases q3 : L[jp].r.id < L[k].r.id
          · have q3' : ¬ (L[k].r.id ≤ L[jp].r.id) := by omega
            have K3 : Hid (recsB 0 L = recsB (lastId L (k + 1)) (L.drop (k + 1))) := by show _ = _; rw [K2.out, decide_eq_true q3]; rfl
            clear K2
            go_wp2_with fail
            refine wp_region_grow (by kernel_rfl) (by kernel_rfl) ?_
            repeat (go_big_quiet_step (first | (go_at_call 38; exact quietG (HQ _).out)))
            refine wpQuiet_endG ?_
            intro w2 hb2
            have B2 := Lib.hid (Below.transB HB1.out (Nat.le_refl _) hb2)
            clear hb2 b0 b1 b2 b3 r0 h0 h1 h2 h3
            go_wp2
            go_roundw
            case rel => exact ⟨k + 1, by omega, by go_num, B2.out, K3⟩
            case measure => simp [intOf]; omega
          · have q3' : L[k].r.id ≤ L[jp].r.id := by omega
            have K3 : Hid (goodR L = false) := by show _ = _; rw [HG.out, K2.out, decide_eq_false q3]; rfl
            clear K2
            go_wp2_with fail
            refine wp_region_grow (by kernel_rfl) (by kernel_rfl) ?_
            repeat (go_big_quiet_step (first | (go_at_call 38; exact quietG (HQ _).out)))
            refine wpQuiet_endG ?_
            intro w2 hb2
            have B2 := Lib.hid (Below.transB HB1.out (Nat.le_refl _) hb2)
            clear hb2 b0 b1 b2 b3 r0 h0 h1 h2 h3
            go_wp2
            go_ret
            exact ⟨by rw [K3.out]; rfl, B2.out⟩
      · have q1' : recB L[k].r = false := by simpa using q1
        have K2 : Hid (goodR L = false) := by show _ = _; rw [HG.out, K1.out, q1']; rfl
        rw [q1'] at HQ
        clear K1 q1 hb hrd hcell q1'
        go_wp2_with fail
        refine wp_region_grow (by kernel_rfl) (by kernel_rfl) ?_
        repeat (go_big_quiet_step (first | (go_at_call 38; exact quietG (HQ _).out)))
        refine wpQuiet_endG ?_
        intro w2 hb2
        have B2 := Lib.hid (Below.transB HB1.out (Nat.le_refl _) hb2)
        clear hb2 b0 b1 b2 b3 h0 h1 h2 h3
        go_wp2
        go_ret
        exact ⟨by rw [K2.out]; rfl, B2.out⟩
    · have hge : ¬ ((k : Int) < (L.length : Int)) := by omega
      have K2 : Hid (goodR L = decide ((L.length : Int) ≤ 10)) := by
        show _ = _; rw [HG.out, K.out, List.drop_of_length_le (by omega), recsB]; rfl
      clear K
      go_wp2
      go_ret
      exact ⟨by rw [K2.out]; rfl, hb⟩

end Go.Proofs.Ytfkpjfohkkilmaa
