/-
  slices.Min and slices.Index at numbers; FirstRequest by the reference and by the program.
  Conditions: those written at each theorem.
-/
import Derived.Test.YtonfopelfccnpaaH13
namespace Go.Proofs.Ytonfopelfccnpaa
open Go.RowKit Go.BigFrame
set_option maxRecDepth 100000

set_option maxHeartbeats 1000000 in
theorem minS_any (x : Int) (l : List Int) (A : Option Addr) (c : Nat) (hl : (x :: l).length ≤ 1048576) (w : World) (hr : Rd w 1 A (x :: l).length (cellsI (x :: l))) :
    Calls Try.prog 21 #[.slice A (x :: l).length c] w fun e w' => e = .returned (.int .i64 (minF (x :: l))) ∧ Below w.heap.size w w' := by
  have HM : Hid (minF (x :: l) = minL x l) := rfl
  have hn : ∃ n, n = (x :: l).length := ⟨_, rfl⟩
  obtain ⟨n, hn⟩ := hn
  have hn1 : 1 ≤ n := by rw [hn]; simp
  have HL : Hid (∀ k (h : k < n), ∃ h2 : k < (x :: l).length, True) := Lib.hid (fun k h => ⟨by omega, trivial⟩)
  have HR := Lib.hid hr
  have HN := Lib.hid hn
  rw [← hn] at hl hr HR ⊢
  have hlt0 : ¬ ((n : Int) < 1) := by omega
  have h0n : (0 : Int) < (n : Int) := by omega
  obtain ⟨gb, go, rfl, hgb, hcell⟩ := hr.2 (by omega)
  have c0 := cellsI_at hcell (k := 0) (by rw [← hn]; omega)
  have HC := Lib.hid hcell
  simp only [List.getElem_cons_zero, Nat.add_zero] at c0
  clear hr hcell hn
  go_enter Try.func21, Try.ntmps21
  go_wp2
  go_loopw [3, 4] (fun v3 v4 wr => ∃ (k : Nat) (m : Int), 1 ≤ k ∧ k ≤ n ∧ v4 = .int .i64 k ∧ v3 = .int .i64 m ∧ Below w.heap.size w wr ∧ Hid (minL x l = minL m ((x :: l).drop k))) (fun _ v4 _ => n - (intOf v4).toNat)
  case atStart => exact ⟨1, x, Nat.le_refl _, hn1, rfl, rfl, Below.refl _ _, by show _ = _; rfl⟩
  case round =>
    obtain ⟨k, m, hk1, hk, rfl, rfl, hb, K⟩ := hrel
    by_cases hlt : k < n
    · obtain ⟨hk2, _⟩ := HL.out k hlt
      have hlt' : ((k : Int) < (n : Int)) := by omega
      have hk0 : (0 : Int) ≤ (k : Int) := by omega
      have d0 := (hb.cell (p := ⟨gb, go + k, none⟩) hgb).trans (cellsI_at HC.out hk2)
      have K1 : Hid (minL x l = minL (min m (x :: l)[k]) ((x :: l).drop (k + 1))) := by show _ = _; rw [K.out, List.drop_eq_getElem_cons hk2, minL]
      clear K
      generalize (x :: l)[k] = y at d0 K1
      have HB := Lib.hid hb
      clear hb
      go_wp2
      go_roundw
      case rel => exact ⟨k + 1, min m y, by omega, by omega, by go_num, by rw [show (if y < m then y else m) = min m y by split <;> omega], HB.out, K1⟩
      case measure => simp [intOf]; omega
    · have hge : ¬ ((k : Int) < (n : Int)) := by omega
      have K1 : Hid (minL x l = m) := by show _ = _; rw [K.out, List.drop_of_length_le (by have := HN.out; omega), minL]
      clear K
      go_wp2
      go_ret
      exact ⟨by rw [HM.out, K1.out]; rfl, hb⟩

theorem index_any (l : List Int) (x : Int) (A : Option Addr) (c : Nat) (hl : l.length ≤ 9223372036854775806) (w : World) (hr : Rd w 1 A l.length (cellsI l)) :
    Calls Try.prog 22 #[.slice A l.length c, .int .i64 x] w fun e w' => e = .returned (.int .i64 (idxF (eqI x) l 0)) ∧ w = w' := by
  obtain ⟨hx, hrd⟩ := hr
  have HR := Lib.hid hrd
  clear hx hrd
  go_enter Try.func22, Try.ntmps22
  go_wp2
  go_loop [8] (fun v => ∃ k : Nat, k ≤ l.length ∧ v = .int .i64 k ∧ Hid (idxF (eqI x) l 0 = idxF (eqI x) (l.drop k) k)) (fun v => l.length - (intOf v).toNat)
  case atStart => exact ⟨0, Nat.zero_le _, rfl, by show _ = _; rfl⟩
  case round =>
    obtain ⟨k, hk, rfl, K⟩ := hrel
    by_cases hlt : k < l.length
    · obtain ⟨gb, go, rfl, hgb, hcell⟩ := HR.out (by omega)
      have c0 := cellsI_at hcell hlt
      clear hcell
      have hlt' : ((k : Int) < (l.length : Int)) := by omega
      have K1 := K.out
      rw [List.drop_eq_getElem_cons hlt] at K1
      by_cases hp : x = l[k]
      · have K2 : Hid (idxF (eqI x) l 0 = k) := by show _ = _; rw [K1]; simp [idxF, eqI, hp]
        have hpb : (x == l[k]) = true := by simpa using hp
        clear K K1 hp
        go_wp2
        go_ret
        exact ⟨by rw [K2.out]; rfl, rfl⟩
      · have K2 : Hid (idxF (eqI x) l 0 = idxF (eqI x) (l.drop (k + 1)) (k + 1)) := by show _ = _; rw [K1]; simp [idxF, eqI, hp]
        have hpb : (x == l[k]) = false := by simpa using hp
        clear K K1
        go_wp2
        go_round
        case rel => exact ⟨k + 1, by omega, by go_num, K2⟩
        case measure => simp [intOf]; omega
    · have K2 : Hid (idxF (eqI x) l 0 = -1) := by show _ = _; rw [K.out, List.drop_of_length_le (by omega)]; rfl
      go_wp2
      go_ret
      exact ⟨by rw [K2.out]; rfl, rfl⟩

end Go.Proofs.Ytonfopelfccnpaa
