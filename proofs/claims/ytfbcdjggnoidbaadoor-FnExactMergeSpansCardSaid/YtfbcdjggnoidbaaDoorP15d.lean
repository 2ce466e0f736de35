/-
  Chapter 15: the bytes that spans hide, by the reference and by the program.
  Conditions: those written at each theorem.
-/
import Derived.Test.YtfbcdjggnoidbaaDoorP15c
namespace Go.Proofs.YtfbcdjggnoidbaaDoor
open Go.RowKit Go.BigFrame
set_option maxRecDepth 100000

theorem spansB_all {n : Int} : ∀ {l : List Span} {p : Int}, spansB n p l = true → ∀ s ∈ l, (0 ≤ s.lo ∧ s.lo < s.hi ∧ s.hi ≤ n) ∧ (1 ≤ s.reason ∧ s.reason ≤ 9)
  | [], _, _, s, hs => by cases hs
  | x :: r, p, h, s, hs => by
    rw [spansB, Bool.and_eq_true] at h
    rcases List.mem_cons.1 hs with rfl | hs
    · have h1 := h.1
      simp only [spOk, Bool.and_eq_true] at h1
      have a := inB_iff.1 h1.1.1.1
      have b := inB_iff.1 h1.1.1.2
      have d := inB_iff.1 h1.1.2
      omega
    · exact spansB_all h.2 s hs
theorem goodT_true {t : ByteArray} {l : List Span} (h : goodT t l = true) : (∀ k (hk : k < l.length), (0 ≤ l[k].lo ∧ l[k].lo < l[k].hi ∧ l[k].hi ≤ 100) ∧ (1 ≤ l[k].reason ∧ l[k].reason ≤ 9)) ∧ t.size ≤ 100 ∧ l.length ≤ 8 := by
  simp only [goodT, Bool.and_eq_true, decide_eq_true_eq] at h
  have h2 := textB_true h.2.1
  refine ⟨fun k hk => ?_, h2, by omega⟩
  have := spansB_all h.1 _ (List.getElem_mem hk)
  omega

def hidF : List Span → Int
  | [] => 0
  | s :: r => s.hi - s.lo + hidF r
def hbAns (t : ByteArray) (l : List Span) : Value := if goodT t l = true then .tuple #[.int .i64 (hidF l), .bool true] else .tuple #[.int .i64 0, .bool false]
theorem hbAns_form (t : ByteArray) (l : List Span) : ∃ (x : Int) (y : Bool), hbAns t l = .tuple #[.int .i64 x, .bool y] := by
  unfold hbAns; split <;> exact ⟨_, _, rfl⟩

set_option maxHeartbeats 800000 in
theorem specHiddenBytes_any (t : ByteArray) (l : List Span) (A : Option Addr) (c : Nat) (ht : t.size ≤ 1048576) (hl : l.length ≤ 1048576) (w : World) (hr : Rd w 3 A l.length (cellsSpan l)) :
    Calls Tryd.prog 20 #[.string t, .slice A l.length c] w fun e w' => e = .returned (hbAns t l) ∧ Below w.heap.size w w' := by
  have HI := Lib.hid (l15Good_any t l A c ht hl w hr)
  have HR := Lib.hid hr
  clear hr
  by_cases h1 : goodT t l = true
  · have e1 : Hid (hbAns t l = .tuple #[.int .i64 (hidF l), .bool true]) := if_pos h1
    obtain ⟨hst, ht1, hl8⟩ := goodT_true h1
    have HS := Lib.hid hst
    clear hst
    rw [h1] at HI
    go_enter Tryd.func20, Tryd.ntmps20
    go_wp2_with fail
    refine HI.out.mono ?_
    rintro e w1 ⟨rfl, hb1⟩
    have B1 := Lib.hid hb1
    clear hb1
    go_wp2_with fail
    go_loopw [6, 7] (fun v6 v7 wr => ∃ (k : Nat) (s : Int), k ≤ l.length ∧ v7 = .int .i64 k ∧ v6 = .int .i64 s ∧ (0 ≤ s ∧ s ≤ 100 * k) ∧ Below w.heap.size w wr ∧ Hid (hidF l = s + hidF (l.drop k))) (fun _ v7 _ => l.length - (intOf v7).toNat)
    case atStart => exact ⟨0, 0, Nat.zero_le _, rfl, rfl, by omega, B1.out, by show _ = _; simp⟩
    case round =>
      obtain ⟨k, s, hk, rfl, rfl, hs, hb, K⟩ := hrel
      by_cases hlt : k < l.length
      · obtain ⟨gb, go, rfl, hgb, hcell⟩ := (HR.out.below hb).2 (by omega)
        obtain ⟨h0, h1, h2⟩ := cellsSpan_at hcell hlt
        clear hcell
        have hlt' : ((k : Int) < (l.length : Int)) := by omega
        have h01 := (HS.out k hlt).1
        have K2 : Hid (hidF l = (s + l[k].hi - l[k].lo) + hidF (l.drop (k + 1))) := by
          show _ = _; rw [K.out, List.drop_eq_getElem_cons hlt, hidF]; omega
        have HB := Lib.hid hb
        clear K hb
        go_wp2_with fail
        go_quiet (fail)
        go_wp2
        go_roundw
        case rel => exact ⟨k + 1, _, by omega, by go_num, rfl, by omega, below_drewN HB.out _, K2⟩
        case measure => simp [intOf]; omega
      · have K2 : Hid (hidF l = s) := by show _ = _; rw [K.out, List.drop_of_length_le (by omega), hidF]; omega
        clear K
        go_wp2
        go_ret2
        exact ⟨by rw [e1.out, K2.out]; rfl, hb⟩
  · have e1 : Hid (hbAns t l = .tuple #[.int .i64 0, .bool false]) := if_neg h1
    rw [show goodT t l = false by simpa using h1] at HI
    go_enter Tryd.func20, Tryd.ntmps20
    go_wp2_with fail
    refine HI.out.mono ?_
    rintro e w1 ⟨rfl, hb1⟩
    go_wp2
    go_ret2
    exact ⟨by rw [e1.out]; rfl, hb1⟩

set_option maxHeartbeats 800000 in
theorem implHiddenBytes_any (t : ByteArray) (l : List Span) (A : Option Addr) (c : Nat) (ht : t.size ≤ 1048576) (hl : l.length ≤ 1048576) (w : World) (hr : Rd w 3 A l.length (cellsSpan l)) :
    Calls Tryd.prog 21 #[.string t, .slice A l.length c] w fun e w' => e = .returned (hbAns t l) ∧ Below w.heap.size w w' := by
  have HI := Lib.hid (implAreSpans_any t l A c ht hl w hr)
  have HR := Lib.hid hr
  clear hr
  by_cases h1 : goodT t l = true
  · have e1 : Hid (hbAns t l = .tuple #[.int .i64 (hidF l), .bool true]) := if_pos h1
    obtain ⟨hst, ht1, hl8⟩ := goodT_true h1
    have HS := Lib.hid hst
    clear hst
    rw [h1] at HI
    go_enter Tryd.func21, Tryd.ntmps21
    go_wp2_with fail
    refine HI.out.mono ?_
    rintro e w1 ⟨rfl, hb1⟩
    have B1 := Lib.hid hb1
    clear hb1
    go_wp2_with fail
    go_loopw [6, 15] (fun v6 v7 wr => ∃ (k : Nat) (s : Int), k ≤ l.length ∧ v7 = .int .i64 k ∧ v6 = .int .i64 s ∧ (0 ≤ s ∧ s ≤ 100 * k) ∧ Below w.heap.size w wr ∧ Hid (hidF l = s + hidF (l.drop k))) (fun _ v7 _ => l.length - (intOf v7).toNat)
    case atStart => exact ⟨0, 0, Nat.zero_le _, rfl, rfl, by omega, B1.out, by show _ = _; simp⟩
    case round =>
      obtain ⟨k, s, hk, rfl, rfl, hs, hb, K⟩ := hrel
      by_cases hlt : k < l.length
      · obtain ⟨gb, go, rfl, hgb, hcell⟩ := (HR.out.below hb).2 (by omega)
        obtain ⟨h0, h1, h2⟩ := cellsSpan_at hcell hlt
        clear hcell
        have hlt' : ((k : Int) < (l.length : Int)) := by omega
        have h01 := (HS.out k hlt).1
        have K2 : Hid (hidF l = (s + (l[k].hi - l[k].lo)) + hidF (l.drop (k + 1))) := by
          show _ = _; rw [K.out, List.drop_eq_getElem_cons hlt, hidF]; omega
        have HB := Lib.hid (Below.alloc hb hb.size (.cells #[.int .i64 l[k].lo, .int .i64 l[k].hi, .int .i64 l[k].reason] 53))
        clear K hb
        go_wp2
        go_roundw
        case rel => exact ⟨k + 1, _, by omega, by go_num, rfl, by omega, HB.out, K2⟩
        case measure => simp [intOf]; omega
      · have K2 : Hid (hidF l = s) := by show _ = _; rw [K.out, List.drop_of_length_le (by omega), hidF]; omega
        clear K
        go_wp2
        go_ret2
        exact ⟨by rw [e1.out, K2.out]; rfl, hb⟩
  · have e1 : Hid (hbAns t l = .tuple #[.int .i64 0, .bool false]) := if_neg h1
    rw [show goodT t l = false by simpa using h1] at HI
    go_enter Tryd.func21, Tryd.ntmps21
    go_wp2_with fail
    refine HI.out.mono ?_
    rintro e w1 ⟨rfl, hb1⟩
    go_wp2
    go_ret2
    exact ⟨by rw [e1.out]; rfl, hb1⟩

end Go.Proofs.YtfbcdjggnoidbaaDoor
