/-
  Lists of requests, good or not: by the reference.
  Conditions: those written at each theorem.
-/
import Derived.Test.YtonfopelfccnpaaTyReqU
import Derived.Test.YtonfopelfccnpaaP13h
namespace Go.Proofs.Ytonfopelfccnpaa
open Go.RowKit Go.BigFrame
set_option maxRecDepth 100000

def okQ (r : Req) : Bool := reqOk r && decide (dl r ≤ 20000)
/-- good requests, their numbers rising, behind a number -/
def listB : Int → List RQ → Bool
  | _, [] => true
  | last, x :: t => okQ x.r && (decide (last < x.r.id) && listB x.r.id t)
def lastId (L : List RQ) : Nat → Int
  | 0 => 0
  | k + 1 => ((L[k]?).map (·.r.id)).getD 0
theorem lastId_succ (L : List RQ) (k : Nat) (h : k < L.length) : lastId L (k + 1) = L[k].r.id := by simp [lastId, h]
def goodQ (L : List RQ) : Bool := listB 0 L && decide ((L.length : Int) ≤ 8)
theorem listB_step {L : List RQ} {k : Nat} (h : k < L.length) (K : listB 0 L = listB (lastId L k) (L.drop k)) :
    listB 0 L = (okQ L[k].r && (decide (lastId L k < L[k].r.id) && listB (lastId L (k + 1)) (L.drop (k + 1)))) := by
  rw [K, List.drop_eq_getElem_cons h, listB, lastId_succ L k h]
theorem okQ_true {r : Req} (h : okQ r = true) : reqOk r = true ∧ dl r ≤ 20000 := by simpa [okQ] using h
theorem id_pos {r : Req} (h : reqOk r = true) : 1 ≤ r.id := (headOk_true (reqOk_true h).1).1.1

set_option maxHeartbeats 4000000 in
theorem l13List_any (L : List RQ) (A : Option Addr) (c : Nat) (w : World) (hr : RdQ w A L) (hl : L.length ≤ 1048576) (hs : ∀ x ∈ L, x.r.stops.length ≤ 9223372036854775807) :
    Calls Try.prog 17 #[.slice A L.length c] w fun e w' => e = .returned (.bool (goodQ L)) ∧ Below w.heap.size w w' := by
  have HR := Lib.hid hr
  have HS := Lib.hid hs
  have HG : Hid (goodQ L = (listB 0 L && decide ((L.length : Int) ≤ 8))) := rfl
  clear hr hs
  go_enter Try.func17, Try.ntmps17
  go_wp2_with fail
  go_loopw [3] (fun v3 wr => ∃ k : Nat, k ≤ L.length ∧ v3 = .int .i64 k ∧ Below w.heap.size w wr ∧ Hid (listB 0 L = listB (lastId L k) (L.drop k))) (fun v3 _ => L.length - (intOf v3).toNat)
  case atStart => exact ⟨0, Nat.zero_le _, rfl, Below.refl _ _, by show _ = _; rfl⟩
  case round =>
    obtain ⟨k, hk, rfl, hb, K⟩ := hrel
    by_cases hlt : k < L.length
    · have hlt' : ((k : Int) < (L.length : Int)) := by omega
      have hk0 : (0 : Int) ≤ (k : Int) := by omega
      obtain ⟨gb, go, rfl, hgb, hcell⟩ := (HR.out.below hb).1.2 (by omega)
      obtain ⟨h0, h1, h2, h3, h4⟩ := cellsRQ_at hcell hlt
      have hrd := (HR.out.below hb).2 _ (List.getElem_mem hlt)
      have hn := HS.out _ (List.getElem_mem hlt)
      have K1 := Lib.hid (listB_step hlt K.out)
      have HQ := fun s : GW wr => Lib.hid (l13Good_any L[k].r L[k].A L[k].c s.w (hrd.below s.below) hn)
      have p0 := cellG hgb h0
      have p1 := cellG hgb h1
      have p2 := cellG hgb h2
      have p3 := cellG hgb h3
      have p4 := cellG hgb h4
      have HB := Lib.hid hb
      clear h0 h1 h2 h3 h4 K
      by_cases q1 : reqOk L[k].r = true
      · obtain ⟨b1, b2, b3, _, b5, _⟩ := req_bounds q1
        have HD := fun s : GW wr => Lib.hid (l13Due_any L[k].r L[k].A L[k].c s.w (hrd.below s.below) hn b1 b2 b3 (Lib.hid b5))
        have hdl : Hid (dl L[k].r = dueOf L[k].r.stops L[k].r.came (L[k].r.working + L[k].r.extended)) := rfl
        rw [q1] at HQ
        have hid := id_pos q1
        by_cases q2 : dl L[k].r ≤ 20000
        · have ho : okQ L[k].r = true := by rw [okQ, q1, decide_eq_true q2]; rfl
          have K2 : Hid (listB 0 L = (decide (lastId L k < L[k].r.id) && listB (lastId L (k + 1)) (L.drop (k + 1)))) := by show _ = _; rw [K1.out, ho]; rfl
          rw [hdl.out] at q2
          generalize dueOf L[k].r.stops L[k].r.came (L[k].r.working + L[k].r.extended) = D at HD q2
          have q2' : ¬ (20000 < D) := by omega
          have q2d : decide (20000 < D) = false := decide_eq_false q2'
          clear K1 hdl b1 b2 b3 b5 ho q1 hb hrd
          by_cases hz : k = 0
          · have z1 : decide ((0 : Int) < (k : Int)) = false := decide_eq_false (by omega)
            have z2 : decide (0 < k) = false := decide_eq_false (by omega)
            have z3 : ¬ ((0 : Int) < (k : Int)) := by omega
            have z4 : ¬ (0 < k) := by omega
            have hl0 : lastId L k = 0 := by rw [hz]; rfl
            have K3 : Hid (listB 0 L = listB (lastId L (k + 1)) (L.drop (k + 1))) := by show _ = _; rw [K2.out, hl0, decide_eq_true (by omega)]; rfl
            clear hz K2 hcell hl0
            go_wp2_with fail
            refine wp_region_grow (by kernel_rfl) (by kernel_rfl) ?_
            repeat (go_big_quiet_step (first | (go_at_call 28; exact quietG (HQ _).out) | (go_at_call 18; exact quietG (HD _).out)))
            refine wpQuiet_endG ?_
            intro w2 hb2
            have B2 := Lib.hid (Below.transB HB.out (Nat.le_refl _) hb2)
            clear hb2 p0 p1 p2 p3 p4
            go_wp2
            go_roundw
            case rel => exact ⟨k + 1, by omega, by go_num, B2.out, K3⟩
            case measure => simp [intOf]; omega
          · obtain ⟨jp, hjp'⟩ : ∃ jp, k = jp + 1 := ⟨k - 1, by omega⟩
            have hjp : (k : Int) - 1 = (jp : Int) := by omega
            have hjl : jp < L.length := by omega
            have y0 : (0 : Int) ≤ (jp : Int) := by omega
            have y1 : (jp : Int) < (L.length : Int) := by omega
            have hwj : IntKind.i64.wrap (jp : Int) = (jp : Int) := IntWalk.i64_in _ (by omega)
            have z1 : decide ((0 : Int) < (k : Int)) = true := decide_eq_true (by omega)
            have z2 : decide (0 < k) = true := decide_eq_true (by omega)
            have z3 : (0 : Int) < (k : Int) := by omega
            have z4 : 0 < k := by omega
            obtain ⟨j0, _, _, _, _⟩ := cellsRQ_at hcell hjl
            have r0 := cellG hgb j0
            have hla : lastId L k = L[jp].r.id := by rw [hjp']; exact lastId_succ L jp hjl
            rw [hla] at K2
            clear hcell j0 hz hjp' hla
            by_cases q3 : L[jp].r.id < L[k].r.id
            · have q3' : ¬ (L[k].r.id ≤ L[jp].r.id) := by omega
              have K3 : Hid (listB 0 L = listB (lastId L (k + 1)) (L.drop (k + 1))) := by show _ = _; rw [K2.out, decide_eq_true q3]; rfl
              clear K2
              go_wp2_with fail
              refine wp_region_grow (by kernel_rfl) (by kernel_rfl) ?_
              repeat (go_big_quiet_step (first | (go_at_call 28; exact quietG (HQ _).out) | (go_at_call 18; exact quietG (HD _).out)))
              refine wpQuiet_endG ?_
              intro w2 hb2
              have B2 := Lib.hid (Below.transB HB.out (Nat.le_refl _) hb2)
              clear hb2 p0 p1 p2 p3 p4 r0
              go_wp2
              go_roundw
              case rel => exact ⟨k + 1, by omega, by go_num, B2.out, K3⟩
              case measure => simp [intOf]; omega
            · have q3' : L[k].r.id ≤ L[jp].r.id := by omega
              have K3 : Hid (goodQ L = false) := by show _ = _; rw [HG.out, K2.out, decide_eq_false q3]; rfl
              clear K2
              go_wp2_with fail
              refine wp_region_grow (by kernel_rfl) (by kernel_rfl) ?_
              repeat (go_big_quiet_step (first | (go_at_call 28; exact quietG (HQ _).out) | (go_at_call 18; exact quietG (HD _).out)))
              refine wpQuiet_endG ?_
              intro w2 hb2
              have B2 := Lib.hid (Below.transB HB.out (Nat.le_refl _) hb2)
              clear hb2 p0 p1 p2 p3 p4 r0
              go_wp2
              go_ret
              exact ⟨by rw [K3.out]; rfl, B2.out⟩
        · have ho : okQ L[k].r = false := by rw [okQ, decide_eq_false q2]; simp
          have K2 : Hid (goodQ L = false) := by show _ = _; rw [HG.out, K1.out, ho]; rfl
          rw [hdl.out] at q2
          generalize dueOf L[k].r.stops L[k].r.came (L[k].r.working + L[k].r.extended) = D at HD q2
          have q2' : 20000 < D := by omega
          clear K1 hdl b1 b2 b3 b5 ho q1 hb hrd hcell
          go_wp2_with fail
          refine wp_region_grow (by kernel_rfl) (by kernel_rfl) ?_
          repeat (go_big_quiet_step (first | (go_at_call 28; exact quietG (HQ _).out) | (go_at_call 18; exact quietG (HD _).out)))
          refine wpQuiet_endG ?_
          intro w2 hb2
          have B2 := Lib.hid (Below.transB HB.out (Nat.le_refl _) hb2)
          clear hb2 p0 p1 p2 p3 p4
          go_wp2
          go_ret
          exact ⟨by rw [K2.out]; rfl, B2.out⟩
      · have q1' : reqOk L[k].r = false := by simpa using q1
        have ho : okQ L[k].r = false := by rw [okQ, q1']; rfl
        have K2 : Hid (goodQ L = false) := by show _ = _; rw [HG.out, K1.out, ho]; rfl
        rw [q1'] at HQ
        clear K1 ho q1 hb hrd hcell q1'
        go_wp2_with fail
        refine wp_region_grow (by kernel_rfl) (by kernel_rfl) ?_
        repeat (go_big_quiet_step (first | (go_at_call 28; exact quietG (HQ _).out)))
        refine wpQuiet_endG ?_
        intro w2 hb2
        have B2 := Lib.hid (Below.transB HB.out (Nat.le_refl _) hb2)
        clear hb2 p0 p1 p2 p3 p4
        go_wp2
        go_ret
        exact ⟨by rw [K2.out]; rfl, B2.out⟩
    · have hge : ¬ ((k : Int) < (L.length : Int)) := by omega
      have K2 : Hid (goodQ L = decide ((L.length : Int) ≤ 8)) := by
        show _ = _; rw [HG.out, K.out, List.drop_of_length_le (by omega), listB]; rfl
      clear K
      go_wp2
      go_ret
      exact ⟨by rw [K2.out]; rfl, hb⟩

end Go.Proofs.Ytonfopelfccnpaa
