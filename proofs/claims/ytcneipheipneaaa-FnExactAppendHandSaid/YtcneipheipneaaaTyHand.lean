/-
  The walks of the law's own helpers on Hand and on lists of it: copy, compare, measure, mark, look. Written by gen_struct.py.
  Conditions: those written at each theorem.
-/
import Derived.Test.YtcneipheipneaaaNums
import Derived.Test.YtcneipheipneaaaOpen
import Derived.OwnWalk
import Derived.StillTailTactics
namespace Go.Proofs.Ytcneipheipneaaa
open Go.RowKit
set_option maxRecDepth 100000

structure Hand where
  record : Int
  giver : Int
  taker : Int
  day : Int
  sum : Int
  sealed : Bool

def aggHand (x : Hand) : Value := .agg #[.int .i64 x.record, .int .i64 x.giver, .int .i64 x.taker, .int .i64 x.day, .int .i64 x.sum, .bool x.sealed]
def cellHand (x : Hand) : List Value := [.int .i64 x.record, .int .i64 x.giver, .int .i64 x.taker, .int .i64 x.day, .int .i64 x.sum, .bool x.sealed]
def cellsHand (l : List Hand) : List Value := l.flatMap cellHand
instance : Inhabited Hand := ⟨⟨0, 0, 0, 0, 0, false⟩⟩
theorem len_cellsHand (l : List Hand) : (cellsHand l).length = l.length * 6 := length_flat cellHand 6 (fun _ => rfl) l
theorem cellsHand_append (l m : List Hand) : cellsHand (l ++ m) = cellsHand l ++ cellsHand m := by simp [cellsHand]
theorem cellsHand_at {w : World} {l : List Hand} {b o k : Nat} (hc : ∀ j u, (cellsHand l)[j]? = some u → w.cell? ⟨b, o + j, none⟩ = some u) (h : k < l.length) :
    w.cell? ⟨b, o + k * 6, none⟩ = some (.int .i64 l[k].record) ∧ w.cell? ⟨b, o + k * 6 + 1, none⟩ = some (.int .i64 l[k].giver) ∧ w.cell? ⟨b, o + k * 6 + 2, none⟩ = some (.int .i64 l[k].taker) ∧ w.cell? ⟨b, o + k * 6 + 3, none⟩ = some (.int .i64 l[k].day) ∧ w.cell? ⟨b, o + k * 6 + 4, none⟩ = some (.int .i64 l[k].sum) ∧ w.cell? ⟨b, o + k * 6 + 5, none⟩ = some (.bool l[k].sealed) := by
  have e : ∀ r, r < 6 → (cellsHand l)[k * 6 + r]? = (cellHand l[k])[r]? := fun r hr => getElem?_flat cellHand 6 (fun _ => rfl) l k r h hr
  exact ⟨hc _ _ (e 0 (by omega)), hc _ _ (e 1 (by omega)), hc _ _ (e 2 (by omega)), hc _ _ (e 3 (by omega)), hc _ _ (e 4 (by omega)), hc _ _ (e 5 (by omega))⟩

theorem toHand_any (x : Hand) (w : World) : Calls Try.prog 10 #[aggHand x] w fun e w' => e = .returned (aggHand x) ∧ Below w.heap.size w w' := by
  unfold aggHand
  go_enter Try.func10, Try.ntmps10
  go_wp2
  go_returns
  exact ⟨rfl, by go_grown⟩

theorem eqHand_same (x : Hand) (w : World) : Calls Try.prog 37 #[aggHand x, aggHand x] w fun e w' => e = .returned (.bool true) ∧ Below w.heap.size w w' := by
  unfold aggHand
  go_enter Try.func37, Try.ntmps37
  go_wp2
  go_ret
  exact ⟨rfl, by go_grown⟩

theorem infoHand : (Try.prog.info? 25).map (fun i => (i.zero, i.size, i.bytes)) = some (some (.agg #[.int .i64 0, .int .i64 0, .int .i64 0, .int .i64 0, .int .i64 0, .bool false]), 6, 48) := by kernel_rfl

set_option maxHeartbeats 400000 in
theorem toHandS_any (l : List Hand) (A : Option Addr) (c : Nat) (w : World) (hr : Rd w 6 A l.length (cellsHand l)) (hl : l.length ≤ 1048576) :
    Calls Try.prog 14 #[.slice A l.length c] w
      fun e w' => ∃ g, e = .returned (.slice (some ⟨g, 0, none⟩) l.length l.length) ∧ w'.ownsRow w.heap.size 25 6 (.slice (some ⟨g, 0, none⟩) l.length l.length) l.length (cellsHand l) ∧ Below w.heap.size w w' := by
  obtain ⟨i0, hi, hz0, hz1, hz2⟩ := info_parts infoHand
  obtain ⟨hx, hrd⟩ := hr
  have HRD := Lib.hid hrd
  clear hx hrd
  go_enter Try.func14, Try.ntmps14
  go_wp2_with (at_make; refine wpList_make_full _ rfl _ _ 31 rfl w.heap.size 25 i0 _ 6 Try.underlying31 hi hz0 hz1 .i64 .i64 _ _ l.length rfl rfl rfl rfl (by rw [hz2]; omega) (by unfold maxLen; omega) (by simp) ?_; intro w1 hown hgrow)
  have hb0 : Below w.heap.size w w1 := (Below.refl _ _).grown hgrow (Nat.le_refl _) (fun k h => by cases h)
  clear hgrow
  go_loopw [4] (fun i wr => ∃ k : Nat, k ≤ l.length ∧ i = .int .i64 k ∧ Below w.heap.size w wr ∧
      wr.ownsRow w.heap.size 25 6 (.slice (some ⟨w.heap.size, 0, none⟩) l.length l.length) l.length (cellsHand (l.take k) ++ (madeCells (Value.agg #[.int .i64 0, .int .i64 0, .int .i64 0, .int .i64 0, .int .i64 0, .bool false]).cells (l.length * 6)).toList.drop (k * 6))) (fun i _ => l.length - (intOf i).toNat)
  case atStart => exact ⟨0, Nat.zero_le _, rfl, hb0, hown⟩
  case round =>
    clear hown hb0
    obtain ⟨k, hk, rfl, hb, hown⟩ := hrel
    by_cases hlt : k < l.length
    · obtain ⟨gb, go, rfl, hgb, hcell⟩ := HRD.out (by omega)
      obtain ⟨h0, h1, h2, h3, h4, h5⟩ := cellsHand_at hcell hlt
      have c0 : wr.cell? ⟨gb, go + k * 6, none⟩ = some (.int .i64 l[k].record) := (hb.cell (p := ⟨gb, go + k * 6, none⟩) hgb).trans h0
      have c1 : wr.cell? ⟨gb, go + k * 6 + 1, none⟩ = some (.int .i64 l[k].giver) := (hb.cell (p := ⟨gb, go + k * 6 + 1, none⟩) hgb).trans h1
      have c2 : wr.cell? ⟨gb, go + k * 6 + 2, none⟩ = some (.int .i64 l[k].taker) := (hb.cell (p := ⟨gb, go + k * 6 + 2, none⟩) hgb).trans h2
      have c3 : wr.cell? ⟨gb, go + k * 6 + 3, none⟩ = some (.int .i64 l[k].day) := (hb.cell (p := ⟨gb, go + k * 6 + 3, none⟩) hgb).trans h3
      have c4 : wr.cell? ⟨gb, go + k * 6 + 4, none⟩ = some (.int .i64 l[k].sum) := (hb.cell (p := ⟨gb, go + k * 6 + 4, none⟩) hgb).trans h4
      have c5 : wr.cell? ⟨gb, go + k * 6 + 5, none⟩ = some (.bool l[k].sealed) := (hb.cell (p := ⟨gb, go + k * 6 + 5, none⟩) hgb).trans h5
      clear h0 h1 h2 h3 h4 h5 hcell
      have hlt' : ((k : Int) < (l.length : Int)) := by omega
      go_wp2_with fail
      refine (toHand_any l[k] _).mono ?_
      rintro e w2 ⟨rfl, hb2⟩
      unfold aggHand
      have hown2 := own_below hown hb2
      obtain ⟨⟨z0, e0⟩, f0⟩ := own_has hown2 (k * 6) (by omega)
      obtain ⟨⟨z1, e1⟩, f1⟩ := own_has hown2 (k * 6 + 1) (by omega)
      obtain ⟨⟨z2, e2⟩, f2⟩ := own_has hown2 (k * 6 + 2) (by omega)
      obtain ⟨⟨z3, e3⟩, f3⟩ := own_has hown2 (k * 6 + 3) (by omega)
      obtain ⟨⟨z4, e4⟩, f4⟩ := own_has hown2 (k * 6 + 4) (by omega)
      obtain ⟨⟨z5, e5⟩, f5⟩ := own_has hown2 (k * 6 + 5) (by omega)
      have HO := Lib.hid hown2
      have HB := Lib.hid (Below.transB hb (Nat.le_refl _) hb2)
      clear hown2 hown hb
      go_wp2
      go_roundw
      case rel =>
        refine ⟨k + 1, by omega, by go_num, ((((((HB.out.setCell (Nat.le_refl _) _).setCell (Nat.le_refl _) _).setCell (Nat.le_refl _) _).setCell (Nat.le_refl _) _).setCell (Nat.le_refl _) _).setCell (Nat.le_refl _) _), ?_⟩
        have h := ((((((HO.out.stored (k * 6) (.int .i64 l[k].record)).1.stored (k * 6 + 1) (.int .i64 l[k].giver)).1.stored (k * 6 + 2) (.int .i64 l[k].taker)).1.stored (k * 6 + 3) (.int .i64 l[k].day)).1.stored (k * 6 + 4) (.int .i64 l[k].sum)).1.stored (k * 6 + 5) (.bool l[k].sealed)).1
        rw [fill6 (by rw [len_cellsHand, List.length_take]; congr 1; omega) (by rw [len_made]; omega)] at h
        rw [take_succ' l k hlt, cellsHand_append, List.append_assoc]
        exact h
      case measure => simp [intOf]; omega
    · obtain rfl : k = l.length := by omega
      have H1 : Hid (wr.ownsRow w.heap.size 25 6 (.slice (some ⟨w.heap.size, 0, none⟩) l.length l.length) l.length (cellsHand l)) := by
        rw [List.take_length, List.drop_of_length_le (by rw [len_made]; omega), List.append_nil] at hown
        exact hown
      clear hown
      go_wp2
      go_ret
      exact ⟨_, rfl, H1.out, hb⟩

set_option maxHeartbeats 400000 in
theorem eqHandS_same (l : List Hand) (A B : Option Addr) (c d : Nat) (w : World) (hr : Rd w 6 A l.length (cellsHand l)) (hs : Rd w 6 B l.length (cellsHand l)) (hl : l.length ≤ 1048576) :
    Calls Try.prog 16 #[.slice A l.length c, .slice B l.length d] w fun e w' => e = .returned (.bool true) ∧ Below w.heap.size w w' := by
  obtain ⟨hx, hrd⟩ := hr
  have HR := Lib.hid hrd
  clear hx hrd
  obtain ⟨hx, hrd⟩ := hs
  have HS := Lib.hid hrd
  clear hx hrd
  go_enter Try.func16, Try.ntmps16
  go_wp2
  go_loopw [5] (fun i wr => ∃ k : Nat, k ≤ l.length ∧ i = .int .i64 k ∧ Below w.heap.size w wr) (fun i _ => l.length - (intOf i).toNat)
  case atStart => exact ⟨0, Nat.zero_le _, rfl, Below.refl _ _⟩
  case round =>
    obtain ⟨k, hk, rfl, hb⟩ := hrel
    by_cases hlt : k < l.length
    · obtain ⟨gb, go, rfl, hgb, hcell⟩ := HR.out (by omega)
      obtain ⟨h0, h1, h2, h3, h4, h5⟩ := cellsHand_at hcell hlt
      have c0 : wr.cell? ⟨gb, go + k * 6, none⟩ = some (.int .i64 l[k].record) := (hb.cell (p := ⟨gb, go + k * 6, none⟩) hgb).trans h0
      have c1 : wr.cell? ⟨gb, go + k * 6 + 1, none⟩ = some (.int .i64 l[k].giver) := (hb.cell (p := ⟨gb, go + k * 6 + 1, none⟩) hgb).trans h1
      have c2 : wr.cell? ⟨gb, go + k * 6 + 2, none⟩ = some (.int .i64 l[k].taker) := (hb.cell (p := ⟨gb, go + k * 6 + 2, none⟩) hgb).trans h2
      have c3 : wr.cell? ⟨gb, go + k * 6 + 3, none⟩ = some (.int .i64 l[k].day) := (hb.cell (p := ⟨gb, go + k * 6 + 3, none⟩) hgb).trans h3
      have c4 : wr.cell? ⟨gb, go + k * 6 + 4, none⟩ = some (.int .i64 l[k].sum) := (hb.cell (p := ⟨gb, go + k * 6 + 4, none⟩) hgb).trans h4
      have c5 : wr.cell? ⟨gb, go + k * 6 + 5, none⟩ = some (.bool l[k].sealed) := (hb.cell (p := ⟨gb, go + k * 6 + 5, none⟩) hgb).trans h5
      clear h0 h1 h2 h3 h4 h5 hcell
      obtain ⟨gc, gp, rfl, hgc, hcell⟩ := HS.out (by omega)
      obtain ⟨h0, h1, h2, h3, h4, h5⟩ := cellsHand_at hcell hlt
      have d0 : wr.cell? ⟨gc, gp + k * 6, none⟩ = some (.int .i64 l[k].record) := (hb.cell (p := ⟨gc, gp + k * 6, none⟩) hgc).trans h0
      have d1 : wr.cell? ⟨gc, gp + k * 6 + 1, none⟩ = some (.int .i64 l[k].giver) := (hb.cell (p := ⟨gc, gp + k * 6 + 1, none⟩) hgc).trans h1
      have d2 : wr.cell? ⟨gc, gp + k * 6 + 2, none⟩ = some (.int .i64 l[k].taker) := (hb.cell (p := ⟨gc, gp + k * 6 + 2, none⟩) hgc).trans h2
      have d3 : wr.cell? ⟨gc, gp + k * 6 + 3, none⟩ = some (.int .i64 l[k].day) := (hb.cell (p := ⟨gc, gp + k * 6 + 3, none⟩) hgc).trans h3
      have d4 : wr.cell? ⟨gc, gp + k * 6 + 4, none⟩ = some (.int .i64 l[k].sum) := (hb.cell (p := ⟨gc, gp + k * 6 + 4, none⟩) hgc).trans h4
      have d5 : wr.cell? ⟨gc, gp + k * 6 + 5, none⟩ = some (.bool l[k].sealed) := (hb.cell (p := ⟨gc, gp + k * 6 + 5, none⟩) hgc).trans h5
      clear h0 h1 h2 h3 h4 h5 hcell
      have hlt' : ((k : Int) < (l.length : Int)) := by omega
      go_wp2_with fail
      go_still_tail 8, (by kernel_rfl)
      change wpList _ _ _ _ _ wr.drew
      go_wp2_with (go_at_call 37; refine (eqHand_same l[k] _).mono ?_; rintro e w2 ⟨rfl, hb2⟩)
      go_roundw
      case rel => exact ⟨k + 1, by omega, by go_num, Below.transB hb.drew (Nat.le_refl _) hb2⟩
      case measure => simp [intOf]; omega
    · go_wp2
      go_ret
      exact ⟨rfl, hb⟩

theorem szHandS_ok (n : Nat) (left : Int) (A : Option Addr) (c : Nat) (w : World) (hl : left ≤ 1048576) (h : (n : Int) ≤ left) :
    Calls Try.prog 12 #[.slice A n c, .int .i64 left] w fun e w' => e = .returned (.int .i64 (left - n)) ∧ w = w' := by
  go_enter Try.func12, Try.ntmps12
  go_wp2
  go_ret
  exact ⟨rfl, rfl⟩

theorem szHandS_no (n : Nat) (left : Int) (A : Option Addr) (c : Nat) (w : World) (h0 : 0 ≤ left) (hn : n ≤ 9223372036854775807) (h : left < (n : Int)) :
    Calls Try.prog 12 #[.slice A n c, .int .i64 left] w fun e w' => e = .returned (.int .i64 (-1)) ∧ w = w' := by
  go_enter Try.func12, Try.ntmps12
  go_wp2
  go_ret
  exact ⟨rfl, rfl⟩

/-- n structs of values that count on from k -/
def handFrom (k : Int) (n : Nat) : List Hand := (List.range n).map fun (i : Nat) => ⟨k + 6 * (i : Int), k + 6 * (i : Int) + 1, k + 6 * (i : Int) + 1 + 1, k + 6 * (i : Int) + 1 + 1 + 1, k + 6 * (i : Int) + 1 + 1 + 1 + 1, ((k + 6 * (i : Int) + 1 + 1 + 1 + 1 + 1) % 3 == 0)⟩
theorem length_handFrom (k : Int) (n : Nat) : (handFrom k n).length = n := by simp [handFrom]
theorem handFrom_succ (k : Int) (i : Nat) : handFrom k (i + 1) = handFrom k i ++ [⟨k + 6 * (i : Int), k + 6 * (i : Int) + 1, k + 6 * (i : Int) + 1 + 1, k + 6 * (i : Int) + 1 + 1 + 1, k + 6 * (i : Int) + 1 + 1 + 1 + 1, ((k + 6 * (i : Int) + 1 + 1 + 1 + 1 + 1) % 3 == 0)⟩] := by simp [handFrom, List.range_succ]
theorem handFrom_get (k : Int) (n i : Nat) (h : i < (handFrom k n).length) : (handFrom k n)[i] = ⟨k + 6 * (i : Int), k + 6 * (i : Int) + 1, k + 6 * (i : Int) + 1 + 1, k + 6 * (i : Int) + 1 + 1 + 1, k + 6 * (i : Int) + 1 + 1 + 1 + 1, ((k + 6 * (i : Int) + 1 + 1 + 1 + 1 + 1) % 3 == 0)⟩ := by simp [handFrom]

set_option maxHeartbeats 1000000 in
theorem markHandS_any (xs : List Value) (n : Nat) (k : Int) (A : Option Addr) (c base : Nat) (w : World) (ho : w.ownsRow base 25 6 (.slice A n c) n xs) (hn : n ≤ 9000000) (hk : 0 ≤ k ∧ k ≤ 9000000) :
    Calls Try.prog 23 #[.slice A n c, .int .i64 k] w
      fun e w' => e = .returned (.int .i64 (k + 6 * n)) ∧ w'.ownsRow base 25 6 (.slice A n c) n (cellsHand (handFrom k n)) ∧ w.grownBy w' (Value.slice A n c).ownBlock := by
  rcases Nat.eq_zero_or_pos n with rfl | hpos
  · have hx : xs = [] := List.eq_nil_of_length_eq_zero (by simpa using ho.1)
    subst hx
    have HO := Lib.hid ho
    clear ho
    go_enter Try.func23, Try.ntmps23
    go_wp2
    go_rounds 1
    go_ret
    exact ⟨by simp, HO.out, World.grownBy.refl _ _⟩
  · obtain ⟨g, hA⟩ : ∃ g, A = some ⟨g, 0, none⟩ := by
      rcases ho.2 with ⟨hv, h0⟩ | ⟨g, cap, cur, hv, _⟩
      · omega
      · injection hv with hA _ _; exact ⟨g, hA⟩
    subst hA
    go_enter Try.func23, Try.ntmps23
    go_wp2
    go_loopw [1, 5] (fun v1 v5 wr => ∃ i : Nat, i ≤ n ∧ v5 = .int .i64 i ∧ v1 = .int .i64 (k + 6 * (i : Int)) ∧ w.grownBy wr (some g) ∧
      wr.ownsRow base 25 6 (.slice (some ⟨g, 0, none⟩) n c) n (cellsHand (handFrom k i) ++ xs.drop (i * 6))) (fun _ i _ => n - (intOf i).toNat)
    case atStart => exact ⟨0, Nat.zero_le _, rfl, by go_num, World.grownBy.refl _ _, ho⟩
    case round =>
      have hxl : xs.length = n * 6 := ho.1
      have HX := Lib.hid hxl
      clear ho hxl
      obtain ⟨i, hi, rfl, rfl, hgr, hown⟩ := hrel
      by_cases hlt : i < n
      · have hlt' : ((i : Int) < (n : Int)) := by omega
        obtain ⟨⟨z0, e0⟩, f0⟩ := own_has hown (i * 6) (by omega)
        obtain ⟨⟨z1, e1⟩, f1⟩ := own_has hown (i * 6 + 1) (by omega)
        obtain ⟨⟨z2, e2⟩, f2⟩ := own_has hown (i * 6 + 2) (by omega)
        obtain ⟨⟨z3, e3⟩, f3⟩ := own_has hown (i * 6 + 3) (by omega)
        obtain ⟨⟨z4, e4⟩, f4⟩ := own_has hown (i * 6 + 4) (by omega)
        obtain ⟨⟨z5, e5⟩, f5⟩ := own_has hown (i * 6 + 5) (by omega)
        have HO := Lib.hid hown
        have HG := Lib.hid hgr
        clear hown hgr
        go_wp2
        go_roundw
        case rel =>
          refine ⟨i + 1, by omega, by go_num, by go_num, grown_set (grown_set (grown_set (grown_set (grown_set (grown_set (HG.out) _ _) _ _) _ _) _ _) _ _) _ _, ?_⟩
          have h := ((((((HO.out.stored (i * 6) (.int .i64 (k + 6 * (i : Int)))).1.stored (i * 6 + 1) (.int .i64 (k + 6 * (i : Int) + 1))).1.stored (i * 6 + 2) (.int .i64 (k + 6 * (i : Int) + 1 + 1))).1.stored (i * 6 + 3) (.int .i64 (k + 6 * (i : Int) + 1 + 1 + 1))).1.stored (i * 6 + 4) (.int .i64 (k + 6 * (i : Int) + 1 + 1 + 1 + 1))).1.stored (i * 6 + 5) (.bool ((k + 6 * (i : Int) + 1 + 1 + 1 + 1 + 1) % 3 == 0))).1
          rw [fill6 (by rw [len_cellsHand, length_handFrom]) (by rw [HX.out]; omega)] at h
          rw [handFrom_succ, cellsHand_append, List.append_assoc]
          exact h
        case measure => simp [intOf]; omega
      · obtain rfl : i = n := by omega
        have H1 : Hid (wr.ownsRow base 25 6 (.slice (some ⟨g, 0, none⟩) i c) i (cellsHand (handFrom k i))) := by
          rw [List.drop_of_length_le (by rw [HX.out]; omega), List.append_nil] at hown
          exact hown
        have HG := Lib.hid hgr
        clear hown hgr
        go_wp2
        go_ret
        exact ⟨rfl, H1.out, HG.out⟩

set_option maxHeartbeats 1000000 in
theorem heldHandS_any (n : Nat) (k : Int) (A : Option Addr) (c : Nat) (w : World) (hr : Rd w 6 A n (cellsHand (handFrom k n))) (hn : n ≤ 9000000) (hk : 0 ≤ k ∧ k ≤ 9000000) :
    Calls Try.prog 24 #[.slice A n c, .int .i64 k] w fun e w' => e = .returned (.int .i64 (k + 6 * n)) ∧ w = w' := by
  obtain ⟨hx, hrd⟩ := hr
  have HR := Lib.hid hrd
  clear hx hrd
  go_enter Try.func24, Try.ntmps24
  go_wp2
  go_loop [1, 5] (fun v1 v5 => ∃ i : Nat, i ≤ n ∧ v5 = .int .i64 i ∧ v1 = .int .i64 (k + 6 * (i : Int))) (fun _ i => n - (intOf i).toNat)
  case atStart => exact ⟨0, Nat.zero_le _, rfl, by go_num⟩
  case round =>
    obtain ⟨i, hi, rfl, rfl⟩ := hrel
    by_cases hlt : i < n
    · have hlt' : ((i : Int) < (n : Int)) := by omega
      obtain ⟨gb, go, rfl, hgb, hcell⟩ := HR.out (by omega)
      have hc := cellsHand_at hcell (by rw [length_handFrom]; exact hlt)
      rw [handFrom_get] at hc
      obtain ⟨h0, h1, h2, h3, h4, h5⟩ := hc
      clear hcell
      go_wp2
      go_round
      case rel => exact ⟨i + 1, by omega, by go_num, by go_num⟩
      case measure => simp [intOf]; omega
    · obtain rfl : i = n := by omega
      go_wp2
      go_ret
      exact ⟨rfl, rfl⟩

section
variable {H : Type} {enc : TypeId × Value → H} {W : World} {base : Nat} {v : Value} {d : DataW H} {p : List MemPlace} {r : Reach}
open Go.ChangeShapes Go.WideShapes Go.ChangeAt Go.RowKit Go.Deep

theorem handFields : ∃ f0 f1 f2 f3 f4 f5 : Field, Try.prog.underlying 23 = some (.struct #[f0, f1, f2, f3, f4, f5]) ∧ oneCellFields Try.prog #[f0, f1, f2, f3, f4, f5] = true ∧ f0.type = 3 ∧ f1.type = 3 ∧ f2.type = 3 ∧ f3.type = 3 ∧ f4.type = 3 ∧ f5.type = 4 :=
  ⟨_, _, _, _, _, _, Try.underlying23, by kernel_rfl, rfl, rfl, rfl, rfl, rfl, rfl⟩

theorem hand_of {fuel : Nat} {cs : List Value} {x : DataW H × List MemPlace} (h : DataW.trod enc Try.prog W 0 (fun _ => true) true fuel 23 cs = some x) :
    ∃ y : Hand, cs = cellHand y ∧ I64 y.record ∧ I64 y.giver ∧ I64 y.taker ∧ I64 y.day ∧ I64 y.sum := by
  obtain ⟨f0, f1, f2, f3, f4, f5, hs, hone, t0, t1, t2, t3, t4, t5⟩ := handFields
  obtain ⟨hl, n, hf⟩ := fields_of hs hone (by kernel_rfl) h
  obtain ⟨u0, y0, c0, k0⟩ := hf 0 f0 rfl
  rw [t0] at k0
  obtain ⟨a0, e0, _, w0⟩ := DataW.trod_int Try.underlying3 k0
  obtain ⟨u1, y1, c1, k1⟩ := hf 1 f1 rfl
  rw [t1] at k1
  obtain ⟨a1, e1, _, w1⟩ := DataW.trod_int Try.underlying3 k1
  obtain ⟨u2, y2, c2, k2⟩ := hf 2 f2 rfl
  rw [t2] at k2
  obtain ⟨a2, e2, _, w2⟩ := DataW.trod_int Try.underlying3 k2
  obtain ⟨u3, y3, c3, k3⟩ := hf 3 f3 rfl
  rw [t3] at k3
  obtain ⟨a3, e3, _, w3⟩ := DataW.trod_int Try.underlying3 k3
  obtain ⟨u4, y4, c4, k4⟩ := hf 4 f4 rfl
  rw [t4] at k4
  obtain ⟨a4, e4, _, w4⟩ := DataW.trod_int Try.underlying3 k4
  obtain ⟨u5, y5, c5, k5⟩ := hf 5 f5 rfl
  rw [t5] at k5
  obtain ⟨a5, e5, _⟩ := DataW.trod_bool Try.underlying4 k5
  match cs, hl with
  | [z0, z1, z2, z3, z4, z5], _ =>
    simp at c0 c1 c2 c3 c4 c5 e0 e1 e2 e3 e4 e5
    subst c0 c1 c2 c3 c4 c5 e0 e1 e2 e3 e4 e5
    exact ⟨⟨a0, a1, a2, a3, a4, a5⟩, rfl, I64.of_wf w0, I64.of_wf w1, I64.of_wf w2, I64.of_wf w3, I64.of_wf w4⟩

theorem in_hand (hv : Value.okWide Try.prog W r base 23 v) (h : DataW.Trod enc Try.prog W 0 (fun _ => true) true 23 v d p) : ∃ y : Hand, (I64 y.record ∧ I64 y.giver ∧ I64 y.taker ∧ I64 y.day ∧ I64 y.sum) ∧ v = aggHand y := by
  obtain ⟨cs, rfl, _⟩ := okWide_struct Try.underlying23 hv
  obtain ⟨fuel, hf⟩ := h
  obtain ⟨y, hcs, hw⟩ := hand_of hf
  refine ⟨y, hw, ?_⟩
  have hcs' : cs.toList = cellHand y := by simpa [Value.cells] using hcs
  unfold aggHand
  congr 1
  exact Array.toList_inj.1 (by rw [hcs']; rfl)

/-- what came in as a list of them -/
def InHandS (W : World) (v : Value) : Prop := ∃ (A : Option Addr) (k : Nat) (l : List Hand), v = .slice A l.length k ∧ Rd W 6 A l.length (cellsHand l) ∧ (∀ y ∈ l, I64 y.record ∧ I64 y.giver ∧ I64 y.taker ∧ I64 y.day ∧ I64 y.sum) ∧ l.length ≤ 9223372036854775807
theorem in_hands (hv : Value.okWide Try.prog W r base 28 v) (h : DataW.Trod enc Try.prog W 0 (fun _ => true) true 28 v d p) : ∃ x, InHandS W x ∧ v = x := by
  obtain ⟨a, n, c, rfl⟩ := okWide_slice Try.underlying28 hv
  obtain ⟨fuel, hf⟩ := h
  exact ⟨_, slice_of (c := cellHand) (Q := fun y : Hand => I64 y.record ∧ I64 y.giver ∧ I64 y.taker ∧ I64 y.day ∧ I64 y.sum) Try.underlying28 (by kernel_rfl) (by omega) (fun _ => rfl) (fun _ _ _ h => hand_of h) hf, rfl⟩
end

end Go.Proofs.Ytcneipheipneaaa
