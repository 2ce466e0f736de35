/-
  The walks of a request's days that count, of the due day, and of AddWorkingDays.
  Conditions: those written at each theorem.
-/
import Derived.Test.YtonfopelfccnpaaP13a
namespace Go.Proofs.Ytonfopelfccnpaa
open Go.RowKit

theorem counts1_any (p : Int × Int) (d : Int) (pb po : Nat) (w : World) (hc : w.cell? ⟨pb, po, none⟩ = some (.int .i64 d)) (hp : pb < w.heap.size) :
    Calls Try.prog 45 #[.agg #[.int .i64 p.1, .int .i64 p.2], .pointer (some ⟨pb, po, none⟩)] w
      fun e w' => e = .returned (.bool (inB d p.1 p.2)) ∧ Below w.heap.size w w' := by
  go_enter Try.func45, Try.ntmps45
  go_wp2_with (go_at_call 34; refine (within_any _ _ _ _).mono ?_; rintro e w' ⟨rfl, rfl⟩)
  go_ret
  exact ⟨rfl, by go_grown⟩

theorem indexFunc2_any (S : List (Int × Int)) (A : Option Addr) (c : Nat) (F : Nat) (caps : Array Value) (P : Int × Int → Bool) (w : World) (hr : Rd w 2 A S.length (cells2 S)) (hl : S.length ≤ 9223372036854775807)
    (hF : ∀ (args : Array Value) (w : World), (callFunc F args).run Try.prog w = .ok (Next.enter F args) w)
    (hcl : Hid (∀ (p : Int × Int) (w1 : World), p ∈ S → Below w.heap.size w w1 → Calls Try.prog F (#[.agg #[.int .i64 p.1, .int .i64 p.2]] ++ caps) w1 fun e w2 => e = .returned (.bool (P p)) ∧ Below w1.heap.size w1 w2)) :
    Calls Try.prog 46 #[.slice A S.length c, .func (.func F) #[] caps] w
      fun e w' => e = .returned (.int .i64 (idxF P S 0)) ∧ Below w.heap.size w w' := by
  obtain ⟨hx, hrd⟩ := hr
  have HRD := Lib.hid hrd
  clear hx hrd
  have H0 : Hid (idxF P S 0 = idxF P (S.drop 0) 0) := rfl
  go_enter Try.func46, Try.ntmps46
  go_wp2
  go_loopw [8] (fun i wr => ∃ k : Nat, k ≤ S.length ∧ i = .int .i64 k ∧ Below w.heap.size w wr ∧ Hid (idxF P S 0 = idxF P (S.drop k) k)) (fun i _ => S.length - (intOf i).toNat)
  case atStart => exact ⟨0, Nat.zero_le _, rfl, Below.refl _ _, H0⟩
  case round =>
    obtain ⟨k, hk, rfl, hb, K⟩ := hrel
    by_cases hlt : k < S.length
    · obtain ⟨gb, go, rfl, hgb, hcell⟩ := HRD.out (by omega)
      obtain ⟨h0, h1⟩ := cells2_at hcell hlt
      have c0 : wr.cell? ⟨gb, go + k * 2, none⟩ = some (.int .i64 S[k].1) := (hb.cell (p := ⟨gb, go + k * 2, none⟩) hgb).trans h0
      have c1 : wr.cell? ⟨gb, go + k * 2 + 1, none⟩ = some (.int .i64 S[k].2) := (hb.cell (p := ⟨gb, go + k * 2 + 1, none⟩) hgb).trans h1
      clear h0 h1 hcell
      have hlt' : ((k : Int) < (S.length : Int)) := by omega
      have K' : Hid (idxF P S 0 = if P S[k] = true then (k : Int) else idxF P (S.drop (k + 1)) (k + 1)) := by
        have := K.out
        rw [List.drop_eq_getElem_cons hlt] at this
        exact this
      by_cases hP : P S[k] = true
      · rw [if_pos hP] at K'
        go_wp2_with fail
        refine (hcl.out _ _ (List.getElem_mem hlt) hb).mono ?_
        rintro e w2 ⟨rfl, hb2⟩
        have hb3 := Below.trans' hb hb2
        rw [hP]
        go_wp2
        go_ret
        exact ⟨by rw [K'.out]; rfl, hb3⟩
      · rw [if_neg hP] at K'
        go_wp2_with fail
        refine (hcl.out _ _ (List.getElem_mem hlt) hb).mono ?_
        rintro e w2 ⟨rfl, hb2⟩
        have hb3 := Below.trans' hb hb2
        rw [show P S[k] = false by simpa using hP]
        go_wp2
        go_roundw
        case rel => exact ⟨k + 1, by omega, by go_num, hb3, K'⟩
        case measure => simp [intOf]; omega
    · obtain rfl : k = S.length := by omega
      have K' : Hid (idxF P S 0 = -1) := by
        have := K.out
        show _ = _
        simpa [idxF] using this
      go_wp2
      go_ret
      exact ⟨by rw [K'.out]; rfl, hb⟩

theorem containsFunc2_any (S : List (Int × Int)) (A : Option Addr) (c : Nat) (F : Nat) (caps : Array Value) (P : Int × Int → Bool) (w : World) (hr : Rd w 2 A S.length (cells2 S)) (hl : S.length ≤ 9223372036854775807)
    (hF : ∀ (args : Array Value) (w : World), (callFunc F args).run Try.prog w = .ok (Next.enter F args) w)
    (hcl : Hid (∀ (p : Int × Int) (w1 : World), p ∈ S → Below w.heap.size w w1 → Calls Try.prog F (#[.agg #[.int .i64 p.1, .int .i64 p.2]] ++ caps) w1 fun e w2 => e = .returned (.bool (P p)) ∧ Below w1.heap.size w1 w2)) :
    Calls Try.prog 44 #[.slice A S.length c, .func (.func F) #[] caps] w
      fun e w' => e = .returned (.bool (S.any P)) ∧ Below w.heap.size w w' := by
  have H := Lib.hid (idxF_any P S 0)
  go_enter Try.func44, Try.ntmps44
  go_wp2_with (go_at_call 46; refine (indexFunc2_any _ _ _ _ _ P _ hr hl hF hcl).mono ?_; rintro e w1 ⟨rfl, hb1⟩)
  go_ret
  exact ⟨by rw [← H.out]; rfl, hb1⟩

theorem counts_any (r : Req) (A : Option Addr) (c : Nat) (d : Int) (w : World) (hr : Rd w 2 A r.stops.length (cells2 r.stops)) (hl : r.stops.length ≤ 9223372036854775807) (hd : 0 ≤ d) :
    Calls Try.prog 42 #[.agg #[.int .i64 r.id, .int .i64 r.came, .int .i64 r.working, .int .i64 r.extended, .slice A r.stops.length c], .int .i64 d] w
      fun e w' => e = .returned (.bool (cntB r.stops d)) ∧ Below w.heap.size w w' := by
  by_cases hw : wkB d = true
  · have hans : Hid (cntB r.stops d = !(r.stops.any fun p => inB d p.1 p.2)) := by show _ = _; simp [cntB, hw, inStops]
    go_enter Try.func42, Try.ntmps42
    go_wp2_with (go_at_call 43; refine (isWorkingDay_any _ _ (by omega)).mono ?_; rintro e w' ⟨rfl, rfl⟩)
    refine (containsFunc2_any r.stops A c _ _ (fun p => inB d p.1 p.2) _ (hr.below (by go_grown)) hl (fun _ _ => by kernel_rfl) ?_).mono ?_
    · intro p w1 _ hb
      refine counts1_any p d _ _ w1 ?_ ?_
      · exact (hb.cell (p := ⟨w.heap.size + 1, 0, none⟩) (by simp)).trans (by simp [go_sem])
      · have := hb.size; simp at this; omega
    · rintro e w1 ⟨rfl, hb1⟩
      go_wp2
      go_ret
      exact ⟨by rw [hans.out]; rfl, Below.trans' (by go_grown) hb1⟩
  · have hans : Hid (cntB r.stops d = false) := by show _ = _; simp [cntB, hw]
    go_enter Try.func42, Try.ntmps42
    go_wp2_with (go_at_call 43; refine (isWorkingDay_any _ _ (by omega)).mono ?_; rintro e w' ⟨rfl, rfl⟩)
    go_ret
    exact ⟨by rw [hans.out]; rfl, by go_grown⟩

set_option maxHeartbeats 400000 in
theorem l13Counts_any (r : Req) (A : Option Addr) (c : Nat) (d : Int) (w : World) (hr : Rd w 2 A r.stops.length (cells2 r.stops)) (hl : r.stops.length ≤ 9223372036854775807) (hd : 0 ≤ d) :
    Calls Try.prog 29 #[.agg #[.int .i64 r.id, .int .i64 r.came, .int .i64 r.working, .int .i64 r.extended, .slice A r.stops.length c], .int .i64 d] w
      fun e w' => e = .returned (.bool (cntB r.stops d)) ∧ Below w.heap.size w w' := by
  obtain ⟨hx, hrd⟩ := hr
  have HRD := Lib.hid hrd
  clear hx hrd
  have H0 : Hid (inStops r.stops d = inStops (r.stops.drop 0) d) := rfl
  go_enter Try.func29, Try.ntmps29
  go_wp2
  go_loopw [5] (fun i wr => ∃ k : Nat, k ≤ r.stops.length ∧ i = .int .i64 k ∧ (∃ nq, wr = (w.alloc (.cells #[.int .i64 r.id, .int .i64 r.came, .int .i64 r.working, .int .i64 r.extended, .slice A r.stops.length c] 43)).drewN nq) ∧ Hid (inStops r.stops d = inStops (r.stops.drop k) d)) (fun i _ => r.stops.length - (intOf i).toNat)
  case atStart => exact ⟨0, Nat.zero_le _, rfl, ⟨0, rfl⟩, H0⟩
  case round =>
    obtain ⟨k, hk, rfl, ⟨nq, rfl⟩, K⟩ := hrel
    by_cases hlt : k < r.stops.length
    · obtain ⟨gb, go, rfl, hgb, hcell⟩ := HRD.out (by omega)
      obtain ⟨h0, h1⟩ := cells2_at hcell hlt
      clear hcell
      have hlt' : ((k : Int) < (r.stops.length : Int)) := by omega
      have K' : Hid (inStops r.stops d = (inB d r.stops[k].1 r.stops[k].2 || inStops (r.stops.drop (k + 1)) d)) := by
        have := K.out
        rw [List.drop_eq_getElem_cons hlt] at this
        exact this
      by_cases hP : inB d r.stops[k].1 r.stops[k].2 = true
      · have K2 : Hid (cntB r.stops d = false) := by show _ = _; unfold cntB; rw [K'.out, hP]; simp
        go_wp2
        go_quiet ((go_at_call 33; exact quietC (l1In_t hP _) ⟨_, rfl⟩))
        go_wp2
        go_ret
        exact ⟨by rw [K2.out]; rfl, by (repeat refine below_drewN ?_ _); go_grown⟩
      · have K2 : Hid (inStops r.stops d = inStops (r.stops.drop (k + 1)) d) := by show _ = _; rw [K'.out]; simp [hP]
        go_wp2
        go_quiet ((go_at_call 33; exact quietC (l1In_f hP _) ⟨_, rfl⟩))
        go_wp2
        go_roundw
        case rel => exact ⟨k + 1, by omega, by go_num, ⟨_, rfl⟩, K2⟩
        case measure => simp [intOf]; omega
    · obtain rfl : k = r.stops.length := by omega
      have K2 : Hid (cntB r.stops d = wkB d) := by
        have := K.out
        show _ = _
        simp [inStops] at this
        simp [cntB, inStops]
        exact fun _ => this
      go_wp2_with (go_at_call 35; refine (l13Works_any _ _ (by omega)).mono ?_; rintro e w' ⟨rfl, rfl⟩)
      go_ret
      exact ⟨by rw [K2.out]; rfl, by (repeat refine below_drewN ?_ _); go_grown⟩

end Go.Proofs.Ytonfopelfccnpaa
