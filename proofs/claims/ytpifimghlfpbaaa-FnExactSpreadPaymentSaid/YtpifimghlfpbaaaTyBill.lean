/-
  The walks of the law's own helpers on Bill and on lists of it: copy, compare, measure, mark, look. Written by gen_struct.py.
  Conditions: those written at each theorem.
-/
import Derived.Test.YtpifimghlfpbaaaNums
import Derived.Test.YtpifimghlfpbaaaOpen
import Derived.OwnWalk
import Derived.StillTailTactics
namespace Go.Proofs.Ytpifimghlfpbaaa
open Go.RowKit
set_option maxRecDepth 100000

structure Bill where
  id : Int
  hours : Int
  pages : Int
  poor : Bool
  pub : Bool
  paid : Int

def aggBill (x : Bill) : Value := .agg #[.int .i64 x.id, .int .i64 x.hours, .int .i64 x.pages, .bool x.poor, .bool x.pub, .int .i64 x.paid]
def cellBill (x : Bill) : List Value := [.int .i64 x.id, .int .i64 x.hours, .int .i64 x.pages, .bool x.poor, .bool x.pub, .int .i64 x.paid]
def cellsBill (l : List Bill) : List Value := l.flatMap cellBill
instance : Inhabited Bill := ⟨⟨0, 0, 0, false, false, 0⟩⟩
theorem len_cellsBill (l : List Bill) : (cellsBill l).length = l.length * 6 := length_flat cellBill 6 (fun _ => rfl) l
theorem cellsBill_append (l m : List Bill) : cellsBill (l ++ m) = cellsBill l ++ cellsBill m := by simp [cellsBill]
theorem cellsBill_at {w : World} {l : List Bill} {b o k : Nat} (hc : ∀ j u, (cellsBill l)[j]? = some u → w.cell? ⟨b, o + j, none⟩ = some u) (h : k < l.length) :
    w.cell? ⟨b, o + k * 6, none⟩ = some (.int .i64 l[k].id) ∧ w.cell? ⟨b, o + k * 6 + 1, none⟩ = some (.int .i64 l[k].hours) ∧ w.cell? ⟨b, o + k * 6 + 2, none⟩ = some (.int .i64 l[k].pages) ∧ w.cell? ⟨b, o + k * 6 + 3, none⟩ = some (.bool l[k].poor) ∧ w.cell? ⟨b, o + k * 6 + 4, none⟩ = some (.bool l[k].pub) ∧ w.cell? ⟨b, o + k * 6 + 5, none⟩ = some (.int .i64 l[k].paid) := by
  have e : ∀ r, r < 6 → (cellsBill l)[k * 6 + r]? = (cellBill l[k])[r]? := fun r hr => getElem?_flat cellBill 6 (fun _ => rfl) l k r h hr
  exact ⟨hc _ _ (e 0 (by omega)), hc _ _ (e 1 (by omega)), hc _ _ (e 2 (by omega)), hc _ _ (e 3 (by omega)), hc _ _ (e 4 (by omega)), hc _ _ (e 5 (by omega))⟩

theorem toBill_any (x : Bill) (w : World) : Calls Try.prog 15 #[aggBill x] w fun e w' => e = .returned (aggBill x) ∧ Below w.heap.size w w' := by
  unfold aggBill
  go_enter Try.func15, Try.ntmps15
  go_wp2
  go_returns
  exact ⟨rfl, by go_grown⟩

theorem eqBill_same (x : Bill) (w : World) : Calls Try.prog 24 #[aggBill x, aggBill x] w fun e w' => e = .returned (.bool true) ∧ Below w.heap.size w w' := by
  unfold aggBill
  go_enter Try.func24, Try.ntmps24
  go_wp2
  go_ret
  exact ⟨rfl, by go_grown⟩

theorem infoBill : (Try.prog.info? 40).map (fun i => (i.zero, i.size, i.bytes)) = some (some (.agg #[.int .i64 0, .int .i64 0, .int .i64 0, .bool false, .bool false, .int .i64 0]), 6, 40) := by kernel_rfl

set_option maxHeartbeats 400000 in
theorem toBillS_any (l : List Bill) (A : Option Addr) (c : Nat) (w : World) (hr : Rd w 6 A l.length (cellsBill l)) (hl : l.length ≤ 1048576) :
    Calls Try.prog 7 #[.slice A l.length c] w
      fun e w' => ∃ g, e = .returned (.slice (some ⟨g, 0, none⟩) l.length l.length) ∧ w'.ownsRow w.heap.size 40 6 (.slice (some ⟨g, 0, none⟩) l.length l.length) l.length (cellsBill l) ∧ Below w.heap.size w w' := by
  obtain ⟨i0, hi, hz0, hz1, hz2⟩ := info_parts infoBill
  obtain ⟨hx, hrd⟩ := hr
  have HRD := Lib.hid hrd
  clear hx hrd
  go_enter Try.func7, Try.ntmps7
  go_wp2_with (at_make; refine wpList_make_full _ rfl _ _ 26 rfl w.heap.size 40 i0 _ 6 Try.underlying26 hi hz0 hz1 .i64 .i64 _ _ l.length rfl rfl rfl rfl (by rw [hz2]; omega) (by unfold maxLen; omega) (by simp) ?_; intro w1 hown hgrow)
  have hb0 : Below w.heap.size w w1 := (Below.refl _ _).grown hgrow (Nat.le_refl _) (fun k h => by cases h)
  clear hgrow
  go_loopw [4] (fun i wr => ∃ k : Nat, k ≤ l.length ∧ i = .int .i64 k ∧ Below w.heap.size w wr ∧
      wr.ownsRow w.heap.size 40 6 (.slice (some ⟨w.heap.size, 0, none⟩) l.length l.length) l.length (cellsBill (l.take k) ++ (madeCells (Value.agg #[.int .i64 0, .int .i64 0, .int .i64 0, .bool false, .bool false, .int .i64 0]).cells (l.length * 6)).toList.drop (k * 6))) (fun i _ => l.length - (intOf i).toNat)
  case atStart => exact ⟨0, Nat.zero_le _, rfl, hb0, hown⟩
  case round =>
    clear hown hb0
    obtain ⟨k, hk, rfl, hb, hown⟩ := hrel
    by_cases hlt : k < l.length
    · obtain ⟨gb, go, rfl, hgb, hcell⟩ := HRD.out (by omega)
      obtain ⟨h0, h1, h2, h3, h4, h5⟩ := cellsBill_at hcell hlt
      have c0 : wr.cell? ⟨gb, go + k * 6, none⟩ = some (.int .i64 l[k].id) := (hb.cell (p := ⟨gb, go + k * 6, none⟩) hgb).trans h0
      have c1 : wr.cell? ⟨gb, go + k * 6 + 1, none⟩ = some (.int .i64 l[k].hours) := (hb.cell (p := ⟨gb, go + k * 6 + 1, none⟩) hgb).trans h1
      have c2 : wr.cell? ⟨gb, go + k * 6 + 2, none⟩ = some (.int .i64 l[k].pages) := (hb.cell (p := ⟨gb, go + k * 6 + 2, none⟩) hgb).trans h2
      have c3 : wr.cell? ⟨gb, go + k * 6 + 3, none⟩ = some (.bool l[k].poor) := (hb.cell (p := ⟨gb, go + k * 6 + 3, none⟩) hgb).trans h3
      have c4 : wr.cell? ⟨gb, go + k * 6 + 4, none⟩ = some (.bool l[k].pub) := (hb.cell (p := ⟨gb, go + k * 6 + 4, none⟩) hgb).trans h4
      have c5 : wr.cell? ⟨gb, go + k * 6 + 5, none⟩ = some (.int .i64 l[k].paid) := (hb.cell (p := ⟨gb, go + k * 6 + 5, none⟩) hgb).trans h5
      clear h0 h1 h2 h3 h4 h5 hcell
      have hlt' : ((k : Int) < (l.length : Int)) := by omega
      go_wp2_with fail
      refine (toBill_any l[k] _).mono ?_
      rintro e w2 ⟨rfl, hb2⟩
      unfold aggBill
      have hown2 := own_below hown hb2
      obtain ⟨⟨z0, e0⟩, f0⟩ := own_has hown2 (k * 6) (by omega)
      obtain ⟨⟨z1, e1⟩, f1⟩ := own_has hown2 (k * 6 + 1) (by omega)
      obtain ⟨⟨z2, e2⟩, f2⟩ := own_has hown2 (k * 6 + 2) (by omega)
      obtain ⟨⟨z3, e3⟩, f3⟩ := own_has hown2 (k * 6 + 3) (by omega)
      obtain ⟨⟨z4, e4⟩, f4⟩ := own_has hown2 (k * 6 + 4) (by omega)
      obtain ⟨⟨z5, e5⟩, f5⟩ := own_has hown2 (k * 6 + 5) (by omega)
      have HO := Lib.hid hown2
      have HB := Lib.hid (Below.transB hb (Nat.le_refl _) hb2)
      clear hown2 hown hb
      go_wp2
      go_roundw
      case rel =>
        refine ⟨k + 1, by omega, by go_num, ((((((HB.out.setCell (Nat.le_refl _) _).setCell (Nat.le_refl _) _).setCell (Nat.le_refl _) _).setCell (Nat.le_refl _) _).setCell (Nat.le_refl _) _).setCell (Nat.le_refl _) _), ?_⟩
        have h := ((((((HO.out.stored (k * 6) (.int .i64 l[k].id)).1.stored (k * 6 + 1) (.int .i64 l[k].hours)).1.stored (k * 6 + 2) (.int .i64 l[k].pages)).1.stored (k * 6 + 3) (.bool l[k].poor)).1.stored (k * 6 + 4) (.bool l[k].pub)).1.stored (k * 6 + 5) (.int .i64 l[k].paid)).1
        rw [fill6 (by rw [len_cellsBill, List.length_take]; congr 1; omega) (by rw [len_made]; omega)] at h
        rw [take_succ' l k hlt, cellsBill_append, List.append_assoc]
        exact h
      case measure => simp [intOf]; omega
    · obtain rfl : k = l.length := by omega
      have H1 : Hid (wr.ownsRow w.heap.size 40 6 (.slice (some ⟨w.heap.size, 0, none⟩) l.length l.length) l.length (cellsBill l)) := by
        rw [List.take_length, List.drop_of_length_le (by rw [len_made]; omega), List.append_nil] at hown
        exact hown
      clear hown
      go_wp2
      go_ret
      exact ⟨_, rfl, H1.out, hb⟩

set_option maxHeartbeats 400000 in
theorem eqBillS_same (l : List Bill) (A B : Option Addr) (c d : Nat) (w : World) (hr : Rd w 6 A l.length (cellsBill l)) (hs : Rd w 6 B l.length (cellsBill l)) (hl : l.length ≤ 1048576) :
    Calls Try.prog 9 #[.slice A l.length c, .slice B l.length d] w fun e w' => e = .returned (.bool true) ∧ Below w.heap.size w w' := by
  obtain ⟨hx, hrd⟩ := hr
  have HR := Lib.hid hrd
  clear hx hrd
  obtain ⟨hx, hrd⟩ := hs
  have HS := Lib.hid hrd
  clear hx hrd
  go_enter Try.func9, Try.ntmps9
  go_wp2
  go_loopw [5] (fun i wr => ∃ k : Nat, k ≤ l.length ∧ i = .int .i64 k ∧ Below w.heap.size w wr) (fun i _ => l.length - (intOf i).toNat)
  case atStart => exact ⟨0, Nat.zero_le _, rfl, Below.refl _ _⟩
  case round =>
    obtain ⟨k, hk, rfl, hb⟩ := hrel
    by_cases hlt : k < l.length
    · obtain ⟨gb, go, rfl, hgb, hcell⟩ := HR.out (by omega)
      obtain ⟨h0, h1, h2, h3, h4, h5⟩ := cellsBill_at hcell hlt
      have c0 : wr.cell? ⟨gb, go + k * 6, none⟩ = some (.int .i64 l[k].id) := (hb.cell (p := ⟨gb, go + k * 6, none⟩) hgb).trans h0
      have c1 : wr.cell? ⟨gb, go + k * 6 + 1, none⟩ = some (.int .i64 l[k].hours) := (hb.cell (p := ⟨gb, go + k * 6 + 1, none⟩) hgb).trans h1
      have c2 : wr.cell? ⟨gb, go + k * 6 + 2, none⟩ = some (.int .i64 l[k].pages) := (hb.cell (p := ⟨gb, go + k * 6 + 2, none⟩) hgb).trans h2
      have c3 : wr.cell? ⟨gb, go + k * 6 + 3, none⟩ = some (.bool l[k].poor) := (hb.cell (p := ⟨gb, go + k * 6 + 3, none⟩) hgb).trans h3
      have c4 : wr.cell? ⟨gb, go + k * 6 + 4, none⟩ = some (.bool l[k].pub) := (hb.cell (p := ⟨gb, go + k * 6 + 4, none⟩) hgb).trans h4
      have c5 : wr.cell? ⟨gb, go + k * 6 + 5, none⟩ = some (.int .i64 l[k].paid) := (hb.cell (p := ⟨gb, go + k * 6 + 5, none⟩) hgb).trans h5
      clear h0 h1 h2 h3 h4 h5 hcell
      obtain ⟨gc, gp, rfl, hgc, hcell⟩ := HS.out (by omega)
      obtain ⟨h0, h1, h2, h3, h4, h5⟩ := cellsBill_at hcell hlt
      have d0 : wr.cell? ⟨gc, gp + k * 6, none⟩ = some (.int .i64 l[k].id) := (hb.cell (p := ⟨gc, gp + k * 6, none⟩) hgc).trans h0
      have d1 : wr.cell? ⟨gc, gp + k * 6 + 1, none⟩ = some (.int .i64 l[k].hours) := (hb.cell (p := ⟨gc, gp + k * 6 + 1, none⟩) hgc).trans h1
      have d2 : wr.cell? ⟨gc, gp + k * 6 + 2, none⟩ = some (.int .i64 l[k].pages) := (hb.cell (p := ⟨gc, gp + k * 6 + 2, none⟩) hgc).trans h2
      have d3 : wr.cell? ⟨gc, gp + k * 6 + 3, none⟩ = some (.bool l[k].poor) := (hb.cell (p := ⟨gc, gp + k * 6 + 3, none⟩) hgc).trans h3
      have d4 : wr.cell? ⟨gc, gp + k * 6 + 4, none⟩ = some (.bool l[k].pub) := (hb.cell (p := ⟨gc, gp + k * 6 + 4, none⟩) hgc).trans h4
      have d5 : wr.cell? ⟨gc, gp + k * 6 + 5, none⟩ = some (.int .i64 l[k].paid) := (hb.cell (p := ⟨gc, gp + k * 6 + 5, none⟩) hgc).trans h5
      clear h0 h1 h2 h3 h4 h5 hcell
      have hlt' : ((k : Int) < (l.length : Int)) := by omega
      go_wp2_with fail
      go_still_tail 8, (by kernel_rfl)
      change wpList _ _ _ _ _ wr.drew
      go_wp2_with (go_at_call 24; refine (eqBill_same l[k] _).mono ?_; rintro e w2 ⟨rfl, hb2⟩)
      go_roundw
      case rel => exact ⟨k + 1, by omega, by go_num, Below.transB hb.drew (Nat.le_refl _) hb2⟩
      case measure => simp [intOf]; omega
    · go_wp2
      go_ret
      exact ⟨rfl, hb⟩

theorem szBillS_ok (n : Nat) (left : Int) (A : Option Addr) (c : Nat) (w : World) (hl : left ≤ 1048576) (h : (n : Int) ≤ left) :
    Calls Try.prog 4 #[.slice A n c, .int .i64 left] w fun e w' => e = .returned (.int .i64 (left - n)) ∧ w = w' := by
  go_enter Try.func4, Try.ntmps4
  go_wp2
  go_ret
  exact ⟨rfl, rfl⟩

theorem szBillS_no (n : Nat) (left : Int) (A : Option Addr) (c : Nat) (w : World) (h0 : 0 ≤ left) (hn : n ≤ 9223372036854775807) (h : left < (n : Int)) :
    Calls Try.prog 4 #[.slice A n c, .int .i64 left] w fun e w' => e = .returned (.int .i64 (-1)) ∧ w = w' := by
  go_enter Try.func4, Try.ntmps4
  go_wp2
  go_ret
  exact ⟨rfl, rfl⟩

/-- n structs of values that count on from k -/
def billFrom (k : Int) (n : Nat) : List Bill := (List.range n).map fun (i : Nat) => ⟨k + 6 * (i : Int), k + 6 * (i : Int) + 1, k + 6 * (i : Int) + 1 + 1, ((k + 6 * (i : Int) + 1 + 1 + 1) % 3 == 0), ((k + 6 * (i : Int) + 1 + 1 + 1 + 1) % 3 == 0), k + 6 * (i : Int) + 1 + 1 + 1 + 1 + 1⟩
theorem length_billFrom (k : Int) (n : Nat) : (billFrom k n).length = n := by simp [billFrom]
theorem billFrom_succ (k : Int) (i : Nat) : billFrom k (i + 1) = billFrom k i ++ [⟨k + 6 * (i : Int), k + 6 * (i : Int) + 1, k + 6 * (i : Int) + 1 + 1, ((k + 6 * (i : Int) + 1 + 1 + 1) % 3 == 0), ((k + 6 * (i : Int) + 1 + 1 + 1 + 1) % 3 == 0), k + 6 * (i : Int) + 1 + 1 + 1 + 1 + 1⟩] := by simp [billFrom, List.range_succ]
theorem billFrom_get (k : Int) (n i : Nat) (h : i < (billFrom k n).length) : (billFrom k n)[i] = ⟨k + 6 * (i : Int), k + 6 * (i : Int) + 1, k + 6 * (i : Int) + 1 + 1, ((k + 6 * (i : Int) + 1 + 1 + 1) % 3 == 0), ((k + 6 * (i : Int) + 1 + 1 + 1 + 1) % 3 == 0), k + 6 * (i : Int) + 1 + 1 + 1 + 1 + 1⟩ := by simp [billFrom]

set_option maxHeartbeats 1000000 in
theorem markBillS_any (xs : List Value) (n : Nat) (k : Int) (A : Option Addr) (c base : Nat) (w : World) (ho : w.ownsRow base 40 6 (.slice A n c) n xs) (hn : n ≤ 9000000) (hk : 0 ≤ k ∧ k ≤ 9000000) :
    Calls Try.prog 10 #[.slice A n c, .int .i64 k] w
      fun e w' => e = .returned (.int .i64 (k + 6 * n)) ∧ w'.ownsRow base 40 6 (.slice A n c) n (cellsBill (billFrom k n)) ∧ w.grownBy w' (Value.slice A n c).ownBlock := by
  rcases Nat.eq_zero_or_pos n with rfl | hpos
  · have hx : xs = [] := List.eq_nil_of_length_eq_zero (by simpa using ho.1)
    subst hx
    have HO := Lib.hid ho
    clear ho
    go_enter Try.func10, Try.ntmps10
    go_wp2
    go_rounds 1
    go_ret
    exact ⟨by simp, HO.out, World.grownBy.refl _ _⟩
  · obtain ⟨g, hA⟩ : ∃ g, A = some ⟨g, 0, none⟩ := by
      rcases ho.2 with ⟨hv, h0⟩ | ⟨g, cap, cur, hv, _⟩
      · omega
      · injection hv with hA _ _; exact ⟨g, hA⟩
    subst hA
    go_enter Try.func10, Try.ntmps10
    go_wp2
    go_loopw [1, 5] (fun v1 v5 wr => ∃ i : Nat, i ≤ n ∧ v5 = .int .i64 i ∧ v1 = .int .i64 (k + 6 * (i : Int)) ∧ w.grownBy wr (some g) ∧
      wr.ownsRow base 40 6 (.slice (some ⟨g, 0, none⟩) n c) n (cellsBill (billFrom k i) ++ xs.drop (i * 6))) (fun _ i _ => n - (intOf i).toNat)
    case atStart => exact ⟨0, Nat.zero_le _, rfl, by go_num, World.grownBy.refl _ _, ho⟩
    case round =>
      have hxl : xs.length = n * 6 := ho.1
      have HX := Lib.hid hxl
      clear ho hxl
      obtain ⟨i, hi, rfl, rfl, hgr, hown⟩ := hrel
      by_cases hlt : i < n
      · have hlt' : ((i : Int) < (n : Int)) := by omega
        obtain ⟨⟨z0, e0⟩, f0⟩ := own_has hown (i * 6) (by omega)
        obtain ⟨⟨z1, e1⟩, f1⟩ := own_has hown (i * 6 + 1) (by omega)
        obtain ⟨⟨z2, e2⟩, f2⟩ := own_has hown (i * 6 + 2) (by omega)
        obtain ⟨⟨z3, e3⟩, f3⟩ := own_has hown (i * 6 + 3) (by omega)
        obtain ⟨⟨z4, e4⟩, f4⟩ := own_has hown (i * 6 + 4) (by omega)
        obtain ⟨⟨z5, e5⟩, f5⟩ := own_has hown (i * 6 + 5) (by omega)
        have HO := Lib.hid hown
        have HG := Lib.hid hgr
        clear hown hgr
        go_wp2
        go_roundw
        case rel =>
          refine ⟨i + 1, by omega, by go_num, by go_num, grown_set (grown_set (grown_set (grown_set (grown_set (grown_set (HG.out) _ _) _ _) _ _) _ _) _ _) _ _, ?_⟩
          have h := ((((((HO.out.stored (i * 6) (.int .i64 (k + 6 * (i : Int)))).1.stored (i * 6 + 1) (.int .i64 (k + 6 * (i : Int) + 1))).1.stored (i * 6 + 2) (.int .i64 (k + 6 * (i : Int) + 1 + 1))).1.stored (i * 6 + 3) (.bool ((k + 6 * (i : Int) + 1 + 1 + 1) % 3 == 0))).1.stored (i * 6 + 4) (.bool ((k + 6 * (i : Int) + 1 + 1 + 1 + 1) % 3 == 0))).1.stored (i * 6 + 5) (.int .i64 (k + 6 * (i : Int) + 1 + 1 + 1 + 1 + 1))).1
          rw [fill6 (by rw [len_cellsBill, length_billFrom]) (by rw [HX.out]; omega)] at h
          rw [billFrom_succ, cellsBill_append, List.append_assoc]
          exact h
        case measure => simp [intOf]; omega
      · obtain rfl : i = n := by omega
        have H1 : Hid (wr.ownsRow base 40 6 (.slice (some ⟨g, 0, none⟩) i c) i (cellsBill (billFrom k i))) := by
          rw [List.drop_of_length_le (by rw [HX.out]; omega), List.append_nil] at hown
          exact hown
        have HG := Lib.hid hgr
        clear hown hgr
        go_wp2
        go_ret
        exact ⟨rfl, H1.out, HG.out⟩

set_option maxHeartbeats 1000000 in
theorem heldBillS_any (n : Nat) (k : Int) (A : Option Addr) (c : Nat) (w : World) (hr : Rd w 6 A n (cellsBill (billFrom k n))) (hn : n ≤ 9000000) (hk : 0 ≤ k ∧ k ≤ 9000000) :
    Calls Try.prog 11 #[.slice A n c, .int .i64 k] w fun e w' => e = .returned (.int .i64 (k + 6 * n)) ∧ w = w' := by
  obtain ⟨hx, hrd⟩ := hr
  have HR := Lib.hid hrd
  clear hx hrd
  go_enter Try.func11, Try.ntmps11
  go_wp2
  go_loop [1, 5] (fun v1 v5 => ∃ i : Nat, i ≤ n ∧ v5 = .int .i64 i ∧ v1 = .int .i64 (k + 6 * (i : Int))) (fun _ i => n - (intOf i).toNat)
  case atStart => exact ⟨0, Nat.zero_le _, rfl, by go_num⟩
  case round =>
    obtain ⟨i, hi, rfl, rfl⟩ := hrel
    by_cases hlt : i < n
    · have hlt' : ((i : Int) < (n : Int)) := by omega
      obtain ⟨gb, go, rfl, hgb, hcell⟩ := HR.out (by omega)
      have hc := cellsBill_at hcell (by rw [length_billFrom]; exact hlt)
      rw [billFrom_get] at hc
      obtain ⟨h0, h1, h2, h3, h4, h5⟩ := hc
      clear hcell
      go_wp2
      go_round
      case rel => exact ⟨i + 1, by omega, by go_num, by go_num⟩
      case measure => simp [intOf]; omega
    · obtain rfl : i = n := by omega
      go_wp2
      go_ret
      exact ⟨rfl, rfl⟩

section
variable {H : Type} {enc : TypeId × Value → H} {W : World} {base : Nat} {v : Value} {d : DataW H} {p : List MemPlace} {r : Reach}
open Go.ChangeShapes Go.WideShapes Go.ChangeAt Go.RowKit Go.Deep

theorem billFields : ∃ f0 f1 f2 f3 f4 f5 : Field, Try.prog.underlying 43 = some (.struct #[f0, f1, f2, f3, f4, f5]) ∧ oneCellFields Try.prog #[f0, f1, f2, f3, f4, f5] = true ∧ f0.type = 3 ∧ f1.type = 3 ∧ f2.type = 3 ∧ f3.type = 4 ∧ f4.type = 4 ∧ f5.type = 3 :=
  ⟨_, _, _, _, _, _, Try.underlying43, by kernel_rfl, rfl, rfl, rfl, rfl, rfl, rfl⟩

theorem bill_of {fuel : Nat} {cs : List Value} {x : DataW H × List MemPlace} (h : DataW.trod enc Try.prog W 0 (fun _ => true) true fuel 43 cs = some x) :
    ∃ y : Bill, cs = cellBill y ∧ I64 y.id ∧ I64 y.hours ∧ I64 y.pages ∧ I64 y.paid := by
  obtain ⟨f0, f1, f2, f3, f4, f5, hs, hone, t0, t1, t2, t3, t4, t5⟩ := billFields
  obtain ⟨hl, n, hf⟩ := fields_of hs hone (by kernel_rfl) h
  obtain ⟨u0, y0, c0, k0⟩ := hf 0 f0 rfl
  rw [t0] at k0
  obtain ⟨a0, e0, _, w0⟩ := DataW.trod_int Try.underlying3 k0
  obtain ⟨u1, y1, c1, k1⟩ := hf 1 f1 rfl
  rw [t1] at k1
  obtain ⟨a1, e1, _, w1⟩ := DataW.trod_int Try.underlying3 k1
  obtain ⟨u2, y2, c2, k2⟩ := hf 2 f2 rfl
  rw [t2] at k2
  obtain ⟨a2, e2, _, w2⟩ := DataW.trod_int Try.underlying3 k2
  obtain ⟨u3, y3, c3, k3⟩ := hf 3 f3 rfl
  rw [t3] at k3
  obtain ⟨a3, e3, _⟩ := DataW.trod_bool Try.underlying4 k3
  obtain ⟨u4, y4, c4, k4⟩ := hf 4 f4 rfl
  rw [t4] at k4
  obtain ⟨a4, e4, _⟩ := DataW.trod_bool Try.underlying4 k4
  obtain ⟨u5, y5, c5, k5⟩ := hf 5 f5 rfl
  rw [t5] at k5
  obtain ⟨a5, e5, _, w5⟩ := DataW.trod_int Try.underlying3 k5
  match cs, hl with
  | [z0, z1, z2, z3, z4, z5], _ =>
    simp at c0 c1 c2 c3 c4 c5 e0 e1 e2 e3 e4 e5
    subst c0 c1 c2 c3 c4 c5 e0 e1 e2 e3 e4 e5
    exact ⟨⟨a0, a1, a2, a3, a4, a5⟩, rfl, I64.of_wf w0, I64.of_wf w1, I64.of_wf w2, I64.of_wf w5⟩

theorem in_bill (hv : Value.okWide Try.prog W r base 43 v) (h : DataW.Trod enc Try.prog W 0 (fun _ => true) true 43 v d p) : ∃ y : Bill, (I64 y.id ∧ I64 y.hours ∧ I64 y.pages ∧ I64 y.paid) ∧ v = aggBill y := by
  obtain ⟨cs, rfl, _⟩ := okWide_struct Try.underlying43 hv
  obtain ⟨fuel, hf⟩ := h
  obtain ⟨y, hcs, hw⟩ := bill_of hf
  refine ⟨y, hw, ?_⟩
  have hcs' : cs.toList = cellBill y := by simpa [Value.cells] using hcs
  unfold aggBill
  congr 1
  exact Array.toList_inj.1 (by rw [hcs']; rfl)

/-- what came in as a list of them -/
def InBillS (W : World) (v : Value) : Prop := ∃ (A : Option Addr) (k : Nat) (l : List Bill), v = .slice A l.length k ∧ Rd W 6 A l.length (cellsBill l) ∧ (∀ y ∈ l, I64 y.id ∧ I64 y.hours ∧ I64 y.pages ∧ I64 y.paid) ∧ l.length ≤ 9223372036854775807
theorem in_bills (hv : Value.okWide Try.prog W r base 24 v) (h : DataW.Trod enc Try.prog W 0 (fun _ => true) true 24 v d p) : ∃ x, InBillS W x ∧ v = x := by
  obtain ⟨a, n, c, rfl⟩ := okWide_slice Try.underlying24 hv
  obtain ⟨fuel, hf⟩ := h
  exact ⟨_, slice_of (c := cellBill) (Q := fun y : Bill => I64 y.id ∧ I64 y.hours ∧ I64 y.pages ∧ I64 y.paid) Try.underlying24 (by kernel_rfl) (by omega) (fun _ => rfl) (fun _ _ _ h => bill_of h) hf, rfl⟩
end

end Go.Proofs.Ytpifimghlfpbaaa
