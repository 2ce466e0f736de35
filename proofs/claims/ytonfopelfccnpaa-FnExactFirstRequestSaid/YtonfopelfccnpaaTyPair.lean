/-
  The walks of the law's own helpers on lists of pairs of numbers: copy, compare, mark, look.
  Conditions: those written at each theorem.
-/
import Derived.Test.YtonfopelfccnpaaNums
import Derived.OwnWalk
import Derived.StillTailTactics
namespace Go.Proofs.Ytonfopelfccnpaa
open Go.RowKit
set_option maxRecDepth 100000

theorem toIntA2_any (a b : Int) (w : World) :
    Calls Try.prog 36 #[.agg #[.int .i64 a, .int .i64 b]] w fun e w' => e = .returned (.agg #[.int .i64 a, .int .i64 b]) ∧ Below w.heap.size w w' := by
  go_enter Try.func36, Try.ntmps36
  go_wp2
  go_rounds 3
  go_returns
  exact ⟨rfl, by go_grown⟩

theorem eqIntA2_same (a b : Int) (w : World) :
    Calls Try.prog 39 #[.agg #[.int .i64 a, .int .i64 b], .agg #[.int .i64 a, .int .i64 b]] w fun e w' => e = .returned (.bool true) ∧ Below w.heap.size w w' := by
  go_enter Try.func39, Try.ntmps39
  go_wp2
  refine wp_loop_rounds 3 ?_
  rw [rounds_succ]
  go_wp2
  go_quiet (fail)
  go_wp2
  rw [rounds_succ]
  go_wp2
  go_quiet (fail)
  go_wp2
  rw [rounds_succ]
  go_wp2
  go_ret
  exact ⟨rfl, by (repeat refine below_drewN ?_ _); go_grown⟩

theorem infoPair : (Try.prog.info? 57).map (fun i => (i.zero, i.size, i.bytes)) = some (some (.agg #[.int .i64 0, .int .i64 0]), 2, 16) := by kernel_rfl

set_option maxHeartbeats 400000 in
theorem toIntA2S_any (S : List (Int × Int)) (A : Option Addr) (c : Nat) (w : World) (hr : Rd w 2 A S.length (cells2 S)) (hl : S.length ≤ 1048576) :
    Calls Try.prog 30 #[.slice A S.length c] w
      fun e w' => ∃ g, e = .returned (.slice (some ⟨g, 0, none⟩) S.length S.length) ∧ w'.ownsRow w.heap.size 57 2 (.slice (some ⟨g, 0, none⟩) S.length S.length) S.length (cells2 S) ∧ Below w.heap.size w w' := by
  obtain ⟨i0, hi, hz0, hz1, hz2⟩ := info_parts infoPair
  obtain ⟨hx, hrd⟩ := hr
  have HRD := Lib.hid hrd
  clear hx hrd
  go_enter Try.func30, Try.ntmps30
  go_wp2_with (at_make; refine wpList_make_full _ rfl _ _ 38 rfl w.heap.size 57 i0 _ 2 Try.underlying38 hi hz0 hz1 .i64 .i64 _ _ S.length rfl rfl rfl rfl (by rw [hz2]; omega) (by unfold maxLen; omega) (by simp) ?_; intro w1 hown hgrow)
  have hb0 : Below w.heap.size w w1 := (Below.refl _ _).grown hgrow (Nat.le_refl _) (fun k h => by cases h)
  clear hgrow
  go_loopw [4] (fun i wr => ∃ k : Nat, k ≤ S.length ∧ i = .int .i64 k ∧ Below w.heap.size w wr ∧
      wr.ownsRow w.heap.size 57 2 (.slice (some ⟨w.heap.size, 0, none⟩) S.length S.length) S.length (cells2 (S.take k) ++ (madeCells (Value.agg #[.int .i64 0, .int .i64 0]).cells (S.length * 2)).toList.drop (k * 2))) (fun i _ => S.length - (intOf i).toNat)
  case atStart => exact ⟨0, Nat.zero_le _, rfl, hb0, hown⟩
  case round =>
    clear hown hb0
    obtain ⟨k, hk, rfl, hb, hown⟩ := hrel
    by_cases hlt : k < S.length
    · obtain ⟨gb, go, rfl, hgb, hcell⟩ := HRD.out (by omega)
      obtain ⟨h0, h1⟩ := cells2_at hcell hlt
      have c0 : wr.cell? ⟨gb, go + k * 2, none⟩ = some (.int .i64 S[k].1) := (hb.cell (p := ⟨gb, go + k * 2, none⟩) hgb).trans h0
      have c1 : wr.cell? ⟨gb, go + k * 2 + 1, none⟩ = some (.int .i64 S[k].2) := (hb.cell (p := ⟨gb, go + k * 2 + 1, none⟩) hgb).trans h1
      clear h0 h1 hcell
      have hlt' : ((k : Int) < (S.length : Int)) := by omega
      go_wp2_with fail
      refine (toIntA2_any _ _ _).mono ?_
      rintro e w2 ⟨rfl, hb2⟩
      have hown2 := own_below hown hb2
      obtain ⟨⟨z0, e0⟩, f0⟩ := own_has hown2 (k * 2) (by omega)
      obtain ⟨⟨z1, e1⟩, f1⟩ := own_has hown2 (k * 2 + 1) (by omega)
      have HO := Lib.hid hown2
      have HB := Lib.hid (Below.transB hb (Nat.le_refl _) hb2)
      clear hown2 hown hb
      go_wp2
      go_roundw
      case rel =>
        refine ⟨k + 1, by omega, by go_num, (HB.out.setCell (Nat.le_refl _) _).setCell (Nat.le_refl _) _, ?_⟩
        have h := ((HO.out.stored (k * 2) (.int .i64 S[k].1)).1.stored (k * 2 + 1) (.int .i64 S[k].2)).1
        rw [fill2 (by rw [length_cells2, List.length_take]; congr 1; omega) (by rw [len_made]; omega)] at h
        rw [take_succ' S k hlt, cells2_append, List.append_assoc]
        exact h
      case measure => simp [intOf]; omega
    · obtain rfl : k = S.length := by omega
      have H1 : Hid (wr.ownsRow w.heap.size 57 2 (.slice (some ⟨w.heap.size, 0, none⟩) S.length S.length) S.length (cells2 S)) := by
        rw [List.take_length, List.drop_of_length_le (by rw [len_made]; omega), List.append_nil] at hown
        exact hown
      clear hown
      go_wp2
      go_ret
      exact ⟨_, rfl, H1.out, hb⟩

set_option maxHeartbeats 400000 in
theorem eqIntA2S_same (S : List (Int × Int)) (A B : Option Addr) (c d : Nat) (w : World) (hr : Rd w 2 A S.length (cells2 S)) (hs : Rd w 2 B S.length (cells2 S)) (hl : S.length ≤ 1048576) :
    Calls Try.prog 32 #[.slice A S.length c, .slice B S.length d] w fun e w' => e = .returned (.bool true) ∧ Below w.heap.size w w' := by
  obtain ⟨hx, hrd⟩ := hr
  have HR := Lib.hid hrd
  clear hx hrd
  obtain ⟨hx, hrd⟩ := hs
  have HS := Lib.hid hrd
  clear hx hrd
  go_enter Try.func32, Try.ntmps32
  go_wp2
  go_loopw [5] (fun i wr => ∃ k : Nat, k ≤ S.length ∧ i = .int .i64 k ∧ Below w.heap.size w wr) (fun i _ => S.length - (intOf i).toNat)
  case atStart => exact ⟨0, Nat.zero_le _, rfl, Below.refl _ _⟩
  case round =>
    obtain ⟨k, hk, rfl, hb⟩ := hrel
    by_cases hlt : k < S.length
    · obtain ⟨gb, go, rfl, hgb, hcell⟩ := HR.out (by omega)
      obtain ⟨h0, h1⟩ := cells2_at hcell hlt
      have c0 : wr.cell? ⟨gb, go + k * 2, none⟩ = some (.int .i64 S[k].1) := (hb.cell (p := ⟨gb, go + k * 2, none⟩) hgb).trans h0
      have c1 : wr.cell? ⟨gb, go + k * 2 + 1, none⟩ = some (.int .i64 S[k].2) := (hb.cell (p := ⟨gb, go + k * 2 + 1, none⟩) hgb).trans h1
      clear h0 h1 hcell
      obtain ⟨gc, gp, rfl, hgc, hcell⟩ := HS.out (by omega)
      obtain ⟨h0, h1⟩ := cells2_at hcell hlt
      have c2 : wr.cell? ⟨gc, gp + k * 2, none⟩ = some (.int .i64 S[k].1) := (hb.cell (p := ⟨gc, gp + k * 2, none⟩) hgc).trans h0
      have c3 : wr.cell? ⟨gc, gp + k * 2 + 1, none⟩ = some (.int .i64 S[k].2) := (hb.cell (p := ⟨gc, gp + k * 2 + 1, none⟩) hgc).trans h1
      clear h0 h1 hcell
      have hlt' : ((k : Int) < (S.length : Int)) := by omega
      go_wp2_with fail
      go_still_tail 8, (by kernel_rfl)
      change wpList _ _ _ _ _ wr.drew
      go_wp2_with (go_at_call 39; refine (eqIntA2_same _ _ _).mono ?_; rintro e w2 ⟨rfl, hb2⟩)
      go_roundw
      case rel => exact ⟨k + 1, by omega, by go_num, Below.transB hb.drew (Nat.le_refl _) hb2⟩
      case measure => simp [intOf]; omega
    · go_wp2
      go_ret
      exact ⟨rfl, hb⟩

/-- n pairs of numbers that count on from k -/
def pairsFrom (k : Int) (n : Nat) : List (Int × Int) := (List.range n).map fun (i : Nat) => (k + 2 * (i : Int), k + 2 * (i : Int) + 1)
theorem length_pairsFrom (k : Int) (n : Nat) : (pairsFrom k n).length = n := by simp [pairsFrom]
theorem pairsFrom_succ (k : Int) (n : Nat) : pairsFrom k (n + 1) = pairsFrom k n ++ [(k + 2 * n, k + 2 * n + 1)] := by simp [pairsFrom, List.range_succ]
theorem pairsFrom_get (k : Int) (n i : Nat) (h : i < (pairsFrom k n).length) : (pairsFrom k n)[i] = (k + 2 * i, k + 2 * i + 1) := by simp [pairsFrom]

set_option maxHeartbeats 800000 in
theorem markIntA2S_any (xs : List Value) (n : Nat) (k0 : Int) (A : Option Addr) (c base : Nat) (w : World) (ho : w.ownsRow base 57 2 (.slice A n c) n xs) (hn : n ≤ 9000000) (hk : 0 ≤ k0 ∧ k0 ≤ 9000000) :
    Calls Try.prog 26 #[.slice A n c, .int .i64 k0] w
      fun e w' => e = .returned (.int .i64 (k0 + 2 * n)) ∧ w'.ownsRow base 57 2 (.slice A n c) n (cells2 (pairsFrom k0 n)) ∧ w.grownBy w' (Value.slice A n c).ownBlock := by
  rcases Nat.eq_zero_or_pos n with rfl | hpos
  · have hx : xs = [] := List.eq_nil_of_length_eq_zero (by simpa using ho.1)
    subst hx
    have HO := Lib.hid ho
    clear ho
    go_enter Try.func26, Try.ntmps26
    go_wp2
    go_rounds 1
    go_ret
    exact ⟨by simp, by simpa [pairsFrom, cells2] using HO.out, World.grownBy.refl _ _⟩
  · obtain ⟨g, hA⟩ : ∃ g, A = some ⟨g, 0, none⟩ := by
      rcases ho.2 with ⟨hv, h0⟩ | ⟨g, cap, cur, hv, _⟩
      · omega
      · injection hv with hA _ _; exact ⟨g, hA⟩
    subst hA
    go_enter Try.func26, Try.ntmps26
    go_wp2
    go_loopw [1, 5] (fun v1 v5 wr => ∃ i : Nat, i ≤ n ∧ v5 = .int .i64 i ∧ v1 = .int .i64 (k0 + 2 * i) ∧ w.grownBy wr (some g) ∧
      wr.ownsRow base 57 2 (.slice (some ⟨g, 0, none⟩) n c) n (cells2 (pairsFrom k0 i) ++ xs.drop (i * 2))) (fun _ i _ => n - (intOf i).toNat)
    case atStart => exact ⟨0, Nat.zero_le _, rfl, by go_num, World.grownBy.refl _ _, by simpa [pairsFrom, cells2] using ho⟩
    case round =>
      have hxl : xs.length = n * 2 := ho.1
      have HX := Lib.hid hxl
      clear ho hxl
      obtain ⟨i, hi, rfl, rfl, hgr, hown⟩ := hrel
      by_cases hlt : i < n
      · have hlt' : ((i : Int) < (n : Int)) := by omega
        obtain ⟨⟨z0, e0⟩, f0⟩ := own_has hown (i * 2) (by omega)
        obtain ⟨⟨z1, e1⟩, f1⟩ := own_has hown (i * 2 + 1) (by omega)
        have HO := Lib.hid hown
        have HG := Lib.hid hgr
        clear hown hgr
        go_wp2
        refine wp_loop_rounds 3 ?_
        rw [rounds_succ]
        go_wp2
        rw [rounds_succ]
        go_wp2
        rw [rounds_succ]
        go_wp2
        go_roundw
        case rel =>
          refine ⟨i + 1, by omega, by go_num, by go_num, grown_set (grown_set HG.out _ _) _ _, ?_⟩
          have h := ((HO.out.stored (i * 2) (.int .i64 (k0 + 2 * i))).1.stored (i * 2 + 1) (.int .i64 (k0 + 2 * i + 1))).1
          rw [fill2 (by rw [length_cells2, length_pairsFrom]) (by rw [HX.out]; omega)] at h
          rw [pairsFrom_succ, cells2_append, List.append_assoc]
          exact h
        case measure => simp [intOf]; omega
      · obtain rfl : i = n := by omega
        have H1 : Hid (wr.ownsRow base 57 2 (.slice (some ⟨g, 0, none⟩) i c) i (cells2 (pairsFrom k0 i))) := by
          rw [List.drop_of_length_le (by rw [HX.out]; omega), List.append_nil] at hown
          exact hown
        have HG := Lib.hid hgr
        clear hown hgr
        go_wp2
        go_ret
        exact ⟨rfl, H1.out, HG.out⟩

theorem szIntA2S_ok (n : Nat) (left : Int) (A : Option Addr) (c : Nat) (w : World) (hl : left ≤ 1048576) (h : (n : Int) ≤ left) :
    Calls Try.prog 27 #[.slice A n c, .int .i64 left] w fun e w' => e = .returned (.int .i64 (left - n)) ∧ w = w' := by
  go_enter Try.func27, Try.ntmps27
  go_wp2
  go_ret
  exact ⟨rfl, rfl⟩

theorem szIntA2S_no (n : Nat) (left : Int) (A : Option Addr) (c : Nat) (w : World) (h0 : 0 ≤ left) (hn : n ≤ 9223372036854775807) (h : left < (n : Int)) :
    Calls Try.prog 27 #[.slice A n c, .int .i64 left] w fun e w' => e = .returned (.int .i64 (-1)) ∧ w = w' := by
  go_enter Try.func27, Try.ntmps27
  go_wp2
  go_ret
  exact ⟨rfl, rfl⟩

end Go.Proofs.Ytonfopelfccnpaa
