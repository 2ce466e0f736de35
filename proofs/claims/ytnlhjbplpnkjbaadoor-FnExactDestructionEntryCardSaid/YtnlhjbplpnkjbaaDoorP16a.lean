/-
  Chapter 16: paths; the number of partners at the left; by the reference and by the program.
  Conditions: those written at each theorem.
-/
import Derived.Test.YtnlhjbplpnkjbaaDoorShPair
import Derived.Test.YtnlhjbplpnkjbaaDoorIp
namespace Go.Proofs.YtnlhjbplpnkjbaaDoor
open Go.RowKit Go.BigFrame
set_option maxRecDepth 100000

def stepB (p : Int × Int) : Bool := inB p.1 0 1 && inB p.2 0 999999
/-- a list is a path -/
def pathB (l : List (Int × Int)) : Bool := l.all stepB && decide ((l.length : Int) ≤ 8)
theorem pathB_true {l : List (Int × Int)} (h : pathB l = true) : (∀ k (hk : k < l.length), (0 ≤ l[k].1 ∧ l[k].1 ≤ 1) ∧ (0 ≤ l[k].2 ∧ l[k].2 ≤ 999999)) ∧ l.length ≤ 8 := by
  simp only [pathB, Bool.and_eq_true, List.all_eq_true, decide_eq_true_eq] at h
  refine ⟨fun k hk => ?_, by omega⟩
  have := h.1 _ (List.getElem_mem hk)
  simp only [stepB, Bool.and_eq_true] at this
  exact ⟨inB_true this.1, inB_true this.2⟩

theorem l16Hash_any (x : Int) (w : World) : Calls Tryd.prog 43 #[.int .i64 x] w fun e w' => e = .returned (.bool (inB x 0 999999)) ∧ w = w' := by
  go_enter Tryd.func43, Tryd.ntmps43
  go_wp2_with (go_at_call 74; refine (l1In_any _ _ _ _).mono ?_; rintro e w' ⟨rfl, rfl⟩)
  go_ret
  exact ⟨rfl, rfl⟩
theorem isHash_any (x : Int) (w : World) : Calls Tryd.prog 45 #[.int .i64 x] w fun e w' => e = .returned (.bool (inB x 0 999999)) ∧ w = w' := by
  go_enter Tryd.func45, Tryd.ntmps45
  go_wp2_with (go_at_call 61; refine (within_any _ _ _ _).mono ?_; rintro e w' ⟨rfl, rfl⟩)
  go_ret
  exact ⟨rfl, rfl⟩

theorem isPath1_any (p : Int × Int) (w : World) : Calls Tryd.prog 89 #[.agg #[.int .i64 p.1, .int .i64 p.2]] w fun e w' => e = .returned (.bool (!stepB p)) ∧ Below w.heap.size w w' := by
  by_cases h1 : inB p.1 0 1 = true <;> by_cases h2 : inB p.2 0 999999 = true
  all_goals
    have hs : Hid ((!stepB p) = !(inB p.1 0 1 && inB p.2 0 999999)) := rfl
    go_enter Tryd.func89, Tryd.ntmps89
    go_wp2_with (first
      | (go_at_call 61; refine (within_any _ _ _ _).mono ?_; rintro e w' ⟨rfl, rfl⟩)
      | (go_at_call 45; refine (isHash_any _ _).mono ?_; rintro e w' ⟨rfl, rfl⟩))
    all_goals
      go_ret
      refine ⟨?_, by go_grown⟩
      rw [hs.out]
      simp_all

theorem any_notB (l : List (Int × Int)) : (l.any fun p => !stepB p) = !l.all stepB := by
  induction l with
  | nil => rfl
  | cons x r ih => rw [List.any_cons, List.all_cons, ih]; cases stepB x <;> rfl

theorem isPath_any (l : List (Int × Int)) (A : Option Addr) (c : Nat) (hl : l.length ≤ 1048576) (w : World) (hr : Rd w 2 A l.length (cells2 l)) :
    Calls Tryd.prog 69 #[.slice A l.length c] w fun e w' => e = .returned (.bool (pathB l)) ∧ Below w.heap.size w w' := by
  have HC := Lib.hid (containsFuncPair_any l A c 89 #[] (fun p => !stepB p) w hr (by omega) (fun _ _ => by kernel_rfl) (fun p w1 _ _ => isPath1_any p w1))
  have HP : Hid (pathB l = (l.all stepB && decide ((l.length : Int) ≤ 8))) := rfl
  rw [any_notB] at HC
  clear hr
  generalize l.all stepB = q at HC HP
  by_cases h8 : (l.length : Int) ≤ 8
  · cases q
    all_goals
      go_enter Tryd.func69, Tryd.ntmps69
      go_wp2_with fail
      refine HC.out.mono ?_
      rintro e w1 ⟨rfl, hb1⟩
      have HB := Lib.hid hb1
      clear hb1
      go_wp2
      go_ret
      exact ⟨by rw [HP.out]; simp [h8], HB.out⟩
  · go_enter Tryd.func69, Tryd.ntmps69
    go_wp2
    go_ret
    exact ⟨by rw [HP.out]; simp [h8], Below.refl _ _⟩

set_option maxHeartbeats 400000 in
theorem l16Path_any (l : List (Int × Int)) (A : Option Addr) (c : Nat) (hl : l.length ≤ 1048576) (w : World) (hr : Rd w 2 A l.length (cells2 l)) :
    Calls Tryd.prog 66 #[.slice A l.length c] w fun e w' => e = .returned (.bool (pathB l)) ∧ w = w' := by
  have HR := Lib.hid hr
  have HP : Hid (pathB l = (l.all stepB && decide ((l.length : Int) ≤ 8))) := rfl
  clear hr
  go_enter Tryd.func66, Tryd.ntmps66
  go_wp2
  go_loop [3] (fun v => ∃ k : Nat, k ≤ l.length ∧ v = .int .i64 k ∧ Hid (l.all stepB = (l.drop k).all stepB)) (fun v => l.length - (intOf v).toNat)
  case atStart => exact ⟨0, Nat.zero_le _, rfl, by show _ = _; rfl⟩
  case round =>
    obtain ⟨k, hk, rfl, K⟩ := hrel
    by_cases hlt : k < l.length
    · obtain ⟨gb, go, rfl, hgb, hcell⟩ := HR.out.2 (by omega)
      obtain ⟨h0, h1⟩ := cells2_at hcell hlt
      clear hcell
      have hlt' : ((k : Int) < (l.length : Int)) := by omega
      have K1 := K.out
      rw [List.drop_eq_getElem_cons hlt, List.all_cons, stepB] at K1
      by_cases g1 : inB l[k].1 0 1 = true
      · by_cases g2 : inB l[k].2 0 999999 = true
        · have K2 : Hid (l.all stepB = (l.drop (k + 1)).all stepB) := by show _ = _; rw [K1, g1, g2]; rfl
          clear K K1
          go_wp2_with (first
            | (go_at_call 74; refine (l1In_any _ _ _ _).mono ?_; rintro e w' ⟨rfl, rfl⟩; rw [g1])
            | (go_at_call 43; refine (l16Hash_any _ _).mono ?_; rintro e w' ⟨rfl, rfl⟩; rw [g2]))
          go_round
          case rel => exact ⟨k + 1, by omega, by go_num, K2⟩
          case measure => simp [intOf]; omega
        · have K2 : Hid (pathB l = false) := by show _ = _; rw [HP.out, K1, show inB l[k].2 0 999999 = false by simpa using g2]; simp
          clear K K1
          go_wp2_with (first
            | (go_at_call 74; refine (l1In_any _ _ _ _).mono ?_; rintro e w' ⟨rfl, rfl⟩; rw [g1])
            | (go_at_call 43; refine (l16Hash_any _ _).mono ?_; rintro e w' ⟨rfl, rfl⟩; rw [show inB l[k].2 0 999999 = false by simpa using g2]))
          go_ret
          exact ⟨by rw [K2.out]; rfl, rfl⟩
      · have K2 : Hid (pathB l = false) := by show _ = _; rw [HP.out, K1, show inB l[k].1 0 1 = false by simpa using g1]; simp
        clear K K1
        go_wp2_with (go_at_call 74; refine (l1In_any _ _ _ _).mono ?_; rintro e w' ⟨rfl, rfl⟩; rw [show inB l[k].1 0 1 = false by simpa using g1])
        go_ret
        exact ⟨by rw [K2.out]; rfl, rfl⟩
    · have K2 : Hid (pathB l = decide ((l.length : Int) ≤ 8)) := by
        show _ = _; rw [HP.out, K.out, List.drop_of_length_le (by omega)]; rfl
      clear K
      go_wp2
      go_ret
      exact ⟨by rw [K2.out]; rfl, rfl⟩

end Go.Proofs.YtnlhjbplpnkjbaaDoor
