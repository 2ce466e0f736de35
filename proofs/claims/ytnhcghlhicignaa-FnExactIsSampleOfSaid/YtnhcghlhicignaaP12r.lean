/-
  IsSampleOf, by the reference and by the program.
  Conditions: those written at each theorem.
-/
import Derived.Test.YtnhcghlhicignaaP12q
namespace Go.Proofs.Ytnhcghlhicignaa
open Go.RowKit Go.BigFrame
set_option maxRecDepth 100000

/-- two lists of numbers are one -/
def eqL (a b : List Int) : Bool := decide (a = b)
theorem eqL_len {a b : List Int} (h : a.length ≠ b.length) : eqL a b = false := by
  rw [eqL, decide_eq_false_iff_not]; intro e; exact h (by rw [e])
theorem eqL_go {a b : List Int} {k : Nat} (ha : k < a.length) (hb : k < b.length) (h : a[k] = b[k]) : eqL (a.drop k) (b.drop k) = eqL (a.drop (k + 1)) (b.drop (k + 1)) := by
  rw [List.drop_eq_getElem_cons ha, List.drop_eq_getElem_cons hb, eqL, eqL]; simp only [List.cons.injEq, h, true_and]
theorem eqL_no {a b : List Int} {k : Nat} (ha : k < a.length) (hb : k < b.length) (h : a[k] ≠ b[k]) : eqL (a.drop k) (b.drop k) = false := by
  rw [List.drop_eq_getElem_cons ha, List.drop_eq_getElem_cons hb, eqL]; simp only [List.cons.injEq, h, false_and, decide_false]

set_option maxHeartbeats 800000 in
theorem l1Same_any (a b : List Int) (A B : Option Addr) (c d : Nat) (ha : a.length ≤ 1048577) (hb : b.length ≤ 1048577) (w : World) (hr : Rd w 1 A a.length (cellsI a)) (hq : Rd w 1 B b.length (cellsI b)) :
    Calls Try.prog 57 #[.slice A a.length c, .slice B b.length d] w fun e w' => e = .returned (.bool (eqL a b)) ∧ Below w.heap.size w w' := by
  have HR := Lib.hid hr
  have HQ := Lib.hid hq
  clear hr hq
  by_cases hlen : a.length = b.length
  · have hle : ((a.length : Int) == (b.length : Int)) = true := by simp [hlen]
    have hln : decide ((a.length : Int) = (b.length : Int)) = true := by simp [hlen]
    have HLN := Lib.hid hlen
    clear hlen
    have hb1 : b.length ≤ a.length := by have := HLN.out; omega
    have hb2 : a.length ≤ b.length := by have := HLN.out; omega
    go_enter Try.func57, Try.ntmps57
    go_wp2
    go_loopw [5] (fun v wr => ∃ k : Nat, k ≤ a.length ∧ v = .int .i64 k ∧ Below w.heap.size w wr ∧ Hid (eqL a b = eqL (a.drop k) (b.drop k))) (fun v _ => a.length - (intOf v).toNat)
    case atStart => exact ⟨0, Nat.zero_le _, rfl, Below.refl _ _, by show _ = _; rfl⟩
    case round =>
      obtain ⟨k, hk, rfl, hbw, K⟩ := hrel
      by_cases hlt : k < a.length
      · have hltb : k < b.length := by omega
        obtain ⟨gb, go, rfl, hgb, hcell⟩ := (HR.out.below hbw).2 (by omega)
        have c0 := cellsI_at hcell hlt
        clear hcell
        obtain ⟨gc, gp, rfl, hgc, hcell⟩ := (HQ.out.below hbw).2 (by omega)
        have c1 := cellsI_at hcell hltb
        clear hcell
        have hlt' : ((k : Int) < (a.length : Int)) := by omega
        have hlt2 : ((k : Int) < (b.length : Int)) := by omega
        by_cases he : a[k] = b[k]
        · have K2 : Hid (eqL a b = eqL (a.drop (k + 1)) (b.drop (k + 1))) := by show _ = _; rw [K.out, eqL_go hlt hltb he]
          rw [he] at c0
          clear K he
          go_wp2
          go_quiet (fail)
          go_wp2
          go_roundw
          case rel => exact ⟨k + 1, by omega, by go_num, below_drewN hbw _, K2⟩
          case measure => simp [intOf]; omega
        · have K2 : Hid (eqL a b = false) := by show _ = _; rw [K.out, eqL_no hlt hltb he]
          have hne : (a[k] == b[k]) = false := by simpa using he
          have hne2 : (a[k] != b[k]) = true := by simpa using he
          clear K
          go_wp2
          go_quiet (fail)
          go_wp2
          go_ret
          exact ⟨by rw [K2.out]; rfl, below_drewN hbw _⟩
      · have K2 : Hid (eqL a b = true) := by
          show _ = _; rw [K.out, List.drop_of_length_le (by omega), List.drop_of_length_le (by omega)]; rfl
        clear K
        go_wp2
        go_ret
        exact ⟨by rw [K2.out]; rfl, hbw⟩
  · have K2 : Hid (eqL a b = false) := by show _ = _; exact eqL_len hlen
    have hne : ((a.length : Int) == (b.length : Int)) = false := by simpa using (fun h => hlen (by omega))
    go_enter Try.func57, Try.ntmps57
    go_wp2
    go_ret
    exact ⟨by rw [K2.out]; rfl, Below.refl _ _⟩

set_option maxHeartbeats 800000 in
theorem equal_any (a b : List Int) (A B : Option Addr) (c d : Nat) (ha : a.length ≤ 1048577) (hb : b.length ≤ 1048577) (w : World) (hr : Rd w 1 A a.length (cellsI a)) (hq : Rd w 1 B b.length (cellsI b)) :
    Calls Try.prog 58 #[.slice A a.length c, .slice B b.length d] w fun e w' => e = .returned (.bool (eqL a b)) ∧ Below w.heap.size w w' := by
  have HR := Lib.hid hr
  have HQ := Lib.hid hq
  clear hr hq
  by_cases hlen : a.length = b.length
  · have HLN := Lib.hid hlen
    have hle : ((a.length : Int) == (b.length : Int)) = true := by simp [hlen]
    have hln : decide ((a.length : Int) = (b.length : Int)) = true := by simp [hlen]
    clear hlen
    have hb1 : b.length ≤ a.length := by have := HLN.out; omega
    have hb2 : a.length ≤ b.length := by have := HLN.out; omega
    go_enter Try.func58, Try.ntmps58
    go_wp2
    go_loopw [13] (fun v wr => ∃ k : Nat, k ≤ a.length ∧ v = .int .i64 k ∧ Below w.heap.size w wr ∧ Hid (eqL a b = eqL (a.drop k) (b.drop k))) (fun v _ => a.length - (intOf v).toNat)
    case atStart => exact ⟨0, Nat.zero_le _, rfl, Below.refl _ _, by show _ = _; rfl⟩
    case round =>
      obtain ⟨k, hk, rfl, hbw, K⟩ := hrel
      by_cases hlt : k < a.length
      · have hltb : k < b.length := by omega
        obtain ⟨gb, go, rfl, hgb, hcell⟩ := (HR.out.below hbw).2 (by omega)
        have c0 := cellsI_at hcell hlt
        clear hcell
        obtain ⟨gc, gp, rfl, hgc, hcell⟩ := (HQ.out.below hbw).2 (by omega)
        have c1 := cellsI_at hcell hltb
        clear hcell
        have hlt' : ((k : Int) < (a.length : Int)) := by omega
        have hlt2 : ((k : Int) < (b.length : Int)) := by omega
        by_cases he : a[k] = b[k]
        · have K2 : Hid (eqL a b = eqL (a.drop (k + 1)) (b.drop (k + 1))) := by show _ = _; rw [K.out, eqL_go hlt hltb he]
          rw [he] at c0
          clear K he
          go_wp2
          go_quiet (fail)
          go_wp2
          go_roundw
          case rel => exact ⟨k + 1, by omega, by go_num, below_drewN hbw _, K2⟩
          case measure => simp [intOf]; omega
        · have K2 : Hid (eqL a b = false) := by show _ = _; rw [K.out, eqL_no hlt hltb he]
          have hne : (a[k] == b[k]) = false := by simpa using he
          have hne2 : (a[k] != b[k]) = true := by simpa using he
          clear K
          go_wp2
          go_quiet (fail)
          go_wp2
          go_ret
          exact ⟨by rw [K2.out]; rfl, below_drewN hbw _⟩
      · have K2 : Hid (eqL a b = true) := by
          show _ = _; rw [K.out, List.drop_of_length_le (by omega), List.drop_of_length_le (by omega)]; rfl
        clear K
        go_wp2
        go_ret
        exact ⟨by rw [K2.out]; rfl, hbw⟩
  · have K2 : Hid (eqL a b = false) := by show _ = _; exact eqL_len hlen
    have hne : ((a.length : Int) == (b.length : Int)) = false := by simpa using (fun h => hlen (by omega))
    go_enter Try.func58, Try.ntmps58
    go_wp2
    go_ret
    exact ⟨by rw [K2.out]; rfl, Below.refl _ _⟩

/-- what IsSampleOf answers -/
def isoAns (l t : List Int) (n s : Int) : Value := if askB l n s = true then .tuple #[.bool (eqL t (soOut l n s)), .bool true] else .tuple #[.bool false, .bool false]
theorem isoAns_form (l t : List Int) (n s : Int) : ∃ (x y : Bool), isoAns l t n s = .tuple #[.bool x, .bool y] := by
  unfold isoAns; split <;> exact ⟨_, _, rfl⟩
theorem eqL_comm (a b : List Int) : eqL a b = eqL b a := by
  unfold eqL; rw [Bool.eq_iff_iff]; simp only [decide_eq_true_eq]; exact eq_comm

set_option maxHeartbeats 1000000 in
theorem implIsSampleOf_any (l t : List Int) (n s : Int) (A B : Option Addr) (c d : Nat) (hA : A = none → c = 0) (hl : l.length ≤ 1048576) (ht : t.length ≤ 1048576) (w : World) (hr : Rd w 1 A l.length (cellsI l)) (hq : Rd w 1 B t.length (cellsI t)) :
    Calls Try.prog 31 #[.slice A l.length c, .slice B t.length d, .int .i64 n, .int .i64 s] w fun e w' => e = .returned (isoAns l t n s) ∧ Below w.heap.size w w' := by
  have HO := Lib.hid (implSampleOf_any l n s A c hA w hr hl)
  have HL := len_soOut l n s hl
  have HQ := Lib.hid hq
  clear hr hq
  by_cases h1 : askB l n s = true
  · have e1 : Hid (isoAns l t n s = .tuple #[.bool (eqL (soOut l n s) t), .bool true]) := by show _ = _; rw [isoAns, if_pos h1, eqL_comm]
    generalize soOut l n s = out at HO HL e1
    go_enter Try.func31, Try.ntmps31
    go_wp2_with fail
    refine HO.out.mono ?_
    rintro e w1 ⟨_, rfl, ⟨A1, c1, rfl, ho1⟩, hb1⟩
    rw [h1]
    have HO1 := Lib.hid ho1
    have HB1 := Lib.hid hb1
    clear ho1 hb1 HO
    go_wp2_with fail
    refine (equal_any out t A1 B c1 d (by omega) (by omega) _ (Rd.of_own HO1.out) (HQ.out.below HB1.out)).mono ?_
    rintro e w2 ⟨rfl, hb2⟩
    have HB2 := Lib.hid (Below.trans' HB1.out hb2)
    clear hb2
    go_wp2
    go_ret2
    exact ⟨by rw [e1.out]; rfl, HB2.out⟩
  · have e1 : Hid (isoAns l t n s = .tuple #[.bool false, .bool false]) := if_neg h1
    go_enter Try.func31, Try.ntmps31
    go_wp2_with fail
    refine HO.out.mono ?_
    rintro e w1 ⟨_, rfl, ⟨A1, c1, rfl, ho1⟩, hb1⟩
    rw [show askB l n s = false by simpa using h1]
    have HB1 := Lib.hid hb1
    clear ho1 hb1 HO
    go_wp2
    go_ret2
    exact ⟨by rw [e1.out]; rfl, HB1.out⟩

set_option maxHeartbeats 1000000 in
theorem specIsSampleOf_any (l t : List Int) (n s : Int) (A B : Option Addr) (c d : Nat) (hA : A = none → c = 0) (hl : l.length ≤ 1048576) (ht : t.length ≤ 1048576) (w : World) (hr : Rd w 1 A l.length (cellsI l)) (hq : Rd w 1 B t.length (cellsI t)) :
    Calls Try.prog 30 #[.slice A l.length c, .slice B t.length d, .int .i64 n, .int .i64 s] w fun e w' => e = .returned (isoAns l t n s) ∧ Below w.heap.size w w' := by
  have HI := fun W h => Lib.hid (l12Asked_any l n s A c W h hl)
  have HR := Lib.hid hr
  have HQ := Lib.hid hq
  clear hr hq
  by_cases h1 : askB l n s = true
  · have HN := Lib.hid (otOut_nodup l n s)
    have hsm := otOut_small l n s
    have e0 : Hid (otOut l n s = (takeF l n.toNat s).1) := if_pos h1
    obtain ⟨q1, q2, q3⟩ := askB_true h1
    have hl20 := popB_len q1
    have hn2 := inB_true q2
    obtain ⟨n', hn'⟩ : ∃ n' : Nat, n = (n' : Int) := ⟨n.toNat, by omega⟩
    subst hn'
    have HT := fun W h => Lib.hid (l12Take_any l n' s A c W h hA hl20 (by omega) (inB_true q3))
    have e3 : Hid (isoAns l t n' s = .tuple #[.bool (eqL t (sortF (takeF l n' s).1)), .bool true]) := by show _ = _; rw [isoAns, if_pos h1, soOut, e0.out]; simp
    rw [e0.out] at HN hsm
    simp only [Int.toNat_natCast] at HN hsm
    generalize takeF l n' s = tk at HN hsm HT e3
    obtain ⟨out, sd⟩ := tk
    have hs9 : out.length ≤ 20 := hsm
    have hls := len_sortF out
    have hs10 : (sortF out).length ≤ 1048577 := by omega
    have HS := fun A c W h => Lib.hid (l12Sorted_any out A c (by omega) HN.out W h)
    have e4 : Hid (isoAns l t n' s = .tuple #[.bool (eqL t (sortF out)), .bool true]) := e3.out
    generalize sortF out = so at HS e4 hs10
    clear e0 hsm hls e3
    go_enter Try.func30, Try.ntmps30
    go_wp2_with fail
    refine (HI _ HR.out).out.mono ?_
    rintro e w1 ⟨rfl, hb1⟩
    rw [h1]
    have HR1 := Lib.hid (HR.out.below hb1)
    have HB1 := Lib.hid hb1
    clear hb1
    go_wp2_with fail
    refine (HT _ HR1.out).out.mono ?_
    rintro e w2 ⟨_, rfl, ⟨A2, c2, rfl, ho2⟩, hb2⟩
    have HO2 := Lib.hid ho2
    have HB2 := Lib.hid (Below.trans' HB1.out hb2)
    clear ho2 hb2
    go_wp2_with fail
    refine (HS A2 c2 _ (Rd.of_own HO2.out)).out.mono ?_
    rintro e w3 ⟨_, rfl, ⟨A3, c3, rfl, ho3⟩, hb3⟩
    have HB3 := Lib.hid (Below.transB HB2.out (Nat.le_refl _) hb3)
    have HO3 := Lib.hid ho3
    clear ho3 hb3
    go_wp2_with fail
    refine (l1Same_any t so B A3 d c3 (by omega) (by omega) _ (HQ.out.below HB3.out) (Rd.of_own HO3.out)).mono ?_
    rintro e w4 ⟨rfl, hb4⟩
    have HB4 := Lib.hid (Below.transB HB3.out (Nat.le_refl _) hb4)
    clear hb4
    go_wp2
    go_ret2
    exact ⟨by rw [e4.out]; rfl, HB4.out⟩
  · have e1 : Hid (isoAns l t n s = .tuple #[.bool false, .bool false]) := if_neg h1
    go_enter Try.func30, Try.ntmps30
    go_wp2_with fail
    refine (HI _ HR.out).out.mono ?_
    rintro e w1 ⟨rfl, hb1⟩
    rw [show askB l n s = false by simpa using h1]
    have HB1 := Lib.hid hb1
    clear hb1
    go_wp2
    go_ret2
    exact ⟨by rw [e1.out]; rfl, HB1.out⟩

end Go.Proofs.Ytnhcghlhicignaa
