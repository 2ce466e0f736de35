/-
  The walks of the law's own helpers on Span and on lists of it: copy, compare, measure, mark, look. Written by gen_struct.py.
  Conditions: those written at each theorem.
-/
import Derived.Test.YtllnnkiehckegaaDoorNums
import Derived.Test.YtllnnkiehckegaaDoorOpen
import Derived.OwnWalk
import Derived.StillTailTactics
namespace Go.Proofs.YtllnnkiehckegaaDoor
open Go.RowKit
set_option maxRecDepth 100000

structure Span where
  lo : Int
  hi : Int
  reason : Int

def aggSpan (x : Span) : Value := .agg #[.int .i64 x.lo, .int .i64 x.hi, .int .i64 x.reason]
def cellSpan (x : Span) : List Value := [.int .i64 x.lo, .int .i64 x.hi, .int .i64 x.reason]
def cellsSpan (l : List Span) : List Value := l.flatMap cellSpan
instance : Inhabited Span := ⟨⟨0, 0, 0⟩⟩
theorem len_cellsSpan (l : List Span) : (cellsSpan l).length = l.length * 3 := length_flat cellSpan 3 (fun _ => rfl) l
theorem cellsSpan_append (l m : List Span) : cellsSpan (l ++ m) = cellsSpan l ++ cellsSpan m := by simp [cellsSpan]
theorem cellsSpan_at {w : World} {l : List Span} {b o k : Nat} (hc : ∀ j u, (cellsSpan l)[j]? = some u → w.cell? ⟨b, o + j, none⟩ = some u) (h : k < l.length) :
    w.cell? ⟨b, o + k * 3, none⟩ = some (.int .i64 l[k].lo) ∧ w.cell? ⟨b, o + k * 3 + 1, none⟩ = some (.int .i64 l[k].hi) ∧ w.cell? ⟨b, o + k * 3 + 2, none⟩ = some (.int .i64 l[k].reason) := by
  have e : ∀ r, r < 3 → (cellsSpan l)[k * 3 + r]? = (cellSpan l[k])[r]? := fun r hr => getElem?_flat cellSpan 3 (fun _ => rfl) l k r h hr
  exact ⟨hc _ _ (e 0 (by omega)), hc _ _ (e 1 (by omega)), hc _ _ (e 2 (by omega))⟩

theorem toSpan_any (x : Span) (w : World) : Calls Tryd.prog 25 #[aggSpan x] w fun e w' => e = .returned (aggSpan x) ∧ Below w.heap.size w w' := by
  unfold aggSpan
  go_enter Tryd.func25, Tryd.ntmps25
  go_wp2
  go_returns
  exact ⟨rfl, by go_grown⟩

theorem eqSpan_same (x : Span) (w : World) : Calls Tryd.prog 31 #[aggSpan x, aggSpan x] w fun e w' => e = .returned (.bool true) ∧ Below w.heap.size w w' := by
  unfold aggSpan
  go_enter Tryd.func31, Tryd.ntmps31
  go_wp2
  go_ret
  exact ⟨rfl, by go_grown⟩

theorem infoSpan : (Tryd.prog.info? 45).map (fun i => (i.zero, i.size, i.bytes)) = some (some (.agg #[.int .i64 0, .int .i64 0, .int .i64 0]), 3, 24) := by kernel_rfl

set_option maxHeartbeats 400000 in
theorem toSpanS_any (l : List Span) (A : Option Addr) (c : Nat) (w : World) (hr : Rd w 3 A l.length (cellsSpan l)) (hl : l.length ≤ 1048576) :
    Calls Tryd.prog 9 #[.slice A l.length c] w
      fun e w' => ∃ g, e = .returned (.slice (some ⟨g, 0, none⟩) l.length l.length) ∧ w'.ownsRow w.heap.size 45 3 (.slice (some ⟨g, 0, none⟩) l.length l.length) l.length (cellsSpan l) ∧ Below w.heap.size w w' := by
  obtain ⟨i0, hi, hz0, hz1, hz2⟩ := info_parts infoSpan
  obtain ⟨hx, hrd⟩ := hr
  have HRD := Lib.hid hrd
  clear hx hrd
  go_enter Tryd.func9, Tryd.ntmps9
  go_wp2_with (at_make; refine wpList_make_full _ rfl _ _ 24 rfl w.heap.size 45 i0 _ 3 Tryd.underlying24 hi hz0 hz1 .i64 .i64 _ _ l.length rfl rfl rfl rfl (by rw [hz2]; omega) (by unfold maxLen; omega) (by simp) ?_; intro w1 hown hgrow)
  have hb0 : Below w.heap.size w w1 := (Below.refl _ _).grown hgrow (Nat.le_refl _) (fun k h => by cases h)
  clear hgrow
  go_loopw [4] (fun i wr => ∃ k : Nat, k ≤ l.length ∧ i = .int .i64 k ∧ Below w.heap.size w wr ∧
      wr.ownsRow w.heap.size 45 3 (.slice (some ⟨w.heap.size, 0, none⟩) l.length l.length) l.length (cellsSpan (l.take k) ++ (madeCells (Value.agg #[.int .i64 0, .int .i64 0, .int .i64 0]).cells (l.length * 3)).toList.drop (k * 3))) (fun i _ => l.length - (intOf i).toNat)
  case atStart => exact ⟨0, Nat.zero_le _, rfl, hb0, hown⟩
  case round =>
    clear hown hb0
    obtain ⟨k, hk, rfl, hb, hown⟩ := hrel
    by_cases hlt : k < l.length
    · obtain ⟨gb, go, rfl, hgb, hcell⟩ := HRD.out (by omega)
      obtain ⟨h0, h1, h2⟩ := cellsSpan_at hcell hlt
      have c0 : wr.cell? ⟨gb, go + k * 3, none⟩ = some (.int .i64 l[k].lo) := (hb.cell (p := ⟨gb, go + k * 3, none⟩) hgb).trans h0
      have c1 : wr.cell? ⟨gb, go + k * 3 + 1, none⟩ = some (.int .i64 l[k].hi) := (hb.cell (p := ⟨gb, go + k * 3 + 1, none⟩) hgb).trans h1
      have c2 : wr.cell? ⟨gb, go + k * 3 + 2, none⟩ = some (.int .i64 l[k].reason) := (hb.cell (p := ⟨gb, go + k * 3 + 2, none⟩) hgb).trans h2
      clear h0 h1 h2 hcell
      have hlt' : ((k : Int) < (l.length : Int)) := by omega
      go_wp2_with fail
      refine (toSpan_any l[k] _).mono ?_
      rintro e w2 ⟨rfl, hb2⟩
      unfold aggSpan
      have hown2 := own_below hown hb2
      obtain ⟨⟨z0, e0⟩, f0⟩ := own_has hown2 (k * 3) (by omega)
      obtain ⟨⟨z1, e1⟩, f1⟩ := own_has hown2 (k * 3 + 1) (by omega)
      obtain ⟨⟨z2, e2⟩, f2⟩ := own_has hown2 (k * 3 + 2) (by omega)
      have HO := Lib.hid hown2
      have HB := Lib.hid (Below.transB hb (Nat.le_refl _) hb2)
      clear hown2 hown hb
      go_wp2
      go_roundw
      case rel =>
        refine ⟨k + 1, by omega, by go_num, (((HB.out.setCell (Nat.le_refl _) _).setCell (Nat.le_refl _) _).setCell (Nat.le_refl _) _), ?_⟩
        have h := (((HO.out.stored (k * 3) (.int .i64 l[k].lo)).1.stored (k * 3 + 1) (.int .i64 l[k].hi)).1.stored (k * 3 + 2) (.int .i64 l[k].reason)).1
        rw [fill3 (by rw [len_cellsSpan, List.length_take]; congr 1; omega) (by rw [len_made]; omega)] at h
        rw [take_succ' l k hlt, cellsSpan_append, List.append_assoc]
        exact h
      case measure => simp [intOf]; omega
    · obtain rfl : k = l.length := by omega
      have H1 : Hid (wr.ownsRow w.heap.size 45 3 (.slice (some ⟨w.heap.size, 0, none⟩) l.length l.length) l.length (cellsSpan l)) := by
        rw [List.take_length, List.drop_of_length_le (by rw [len_made]; omega), List.append_nil] at hown
        exact hown
      clear hown
      go_wp2
      go_ret
      exact ⟨_, rfl, H1.out, hb⟩

set_option maxHeartbeats 400000 in
theorem eqSpanS_same (l : List Span) (A B : Option Addr) (c d : Nat) (w : World) (hr : Rd w 3 A l.length (cellsSpan l)) (hs : Rd w 3 B l.length (cellsSpan l)) (hl : l.length ≤ 1048576) :
    Calls Tryd.prog 11 #[.slice A l.length c, .slice B l.length d] w fun e w' => e = .returned (.bool true) ∧ Below w.heap.size w w' := by
  obtain ⟨hx, hrd⟩ := hr
  have HR := Lib.hid hrd
  clear hx hrd
  obtain ⟨hx, hrd⟩ := hs
  have HS := Lib.hid hrd
  clear hx hrd
  go_enter Tryd.func11, Tryd.ntmps11
  go_wp2
  go_loopw [5] (fun i wr => ∃ k : Nat, k ≤ l.length ∧ i = .int .i64 k ∧ Below w.heap.size w wr) (fun i _ => l.length - (intOf i).toNat)
  case atStart => exact ⟨0, Nat.zero_le _, rfl, Below.refl _ _⟩
  case round =>
    obtain ⟨k, hk, rfl, hb⟩ := hrel
    by_cases hlt : k < l.length
    · obtain ⟨gb, go, rfl, hgb, hcell⟩ := HR.out (by omega)
      obtain ⟨h0, h1, h2⟩ := cellsSpan_at hcell hlt
      have c0 : wr.cell? ⟨gb, go + k * 3, none⟩ = some (.int .i64 l[k].lo) := (hb.cell (p := ⟨gb, go + k * 3, none⟩) hgb).trans h0
      have c1 : wr.cell? ⟨gb, go + k * 3 + 1, none⟩ = some (.int .i64 l[k].hi) := (hb.cell (p := ⟨gb, go + k * 3 + 1, none⟩) hgb).trans h1
      have c2 : wr.cell? ⟨gb, go + k * 3 + 2, none⟩ = some (.int .i64 l[k].reason) := (hb.cell (p := ⟨gb, go + k * 3 + 2, none⟩) hgb).trans h2
      clear h0 h1 h2 hcell
      obtain ⟨gc, gp, rfl, hgc, hcell⟩ := HS.out (by omega)
      obtain ⟨h0, h1, h2⟩ := cellsSpan_at hcell hlt
      have d0 : wr.cell? ⟨gc, gp + k * 3, none⟩ = some (.int .i64 l[k].lo) := (hb.cell (p := ⟨gc, gp + k * 3, none⟩) hgc).trans h0
      have d1 : wr.cell? ⟨gc, gp + k * 3 + 1, none⟩ = some (.int .i64 l[k].hi) := (hb.cell (p := ⟨gc, gp + k * 3 + 1, none⟩) hgc).trans h1
      have d2 : wr.cell? ⟨gc, gp + k * 3 + 2, none⟩ = some (.int .i64 l[k].reason) := (hb.cell (p := ⟨gc, gp + k * 3 + 2, none⟩) hgc).trans h2
      clear h0 h1 h2 hcell
      have hlt' : ((k : Int) < (l.length : Int)) := by omega
      go_wp2_with fail
      go_still_tail 8, (by kernel_rfl)
      change wpList _ _ _ _ _ wr.drew
      go_wp2_with (go_at_call 31; refine (eqSpan_same l[k] _).mono ?_; rintro e w2 ⟨rfl, hb2⟩)
      go_roundw
      case rel => exact ⟨k + 1, by omega, by go_num, Below.transB hb.drew (Nat.le_refl _) hb2⟩
      case measure => simp [intOf]; omega
    · go_wp2
      go_ret
      exact ⟨rfl, hb⟩

theorem szSpanS_ok (n : Nat) (left : Int) (A : Option Addr) (c : Nat) (w : World) (hl : left ≤ 1048576) (h : (n : Int) ≤ left) :
    Calls Tryd.prog 7 #[.slice A n c, .int .i64 left] w fun e w' => e = .returned (.int .i64 (left - n)) ∧ w = w' := by
  go_enter Tryd.func7, Tryd.ntmps7
  go_wp2
  go_ret
  exact ⟨rfl, rfl⟩

theorem szSpanS_no (n : Nat) (left : Int) (A : Option Addr) (c : Nat) (w : World) (h0 : 0 ≤ left) (hn : n ≤ 9223372036854775807) (h : left < (n : Int)) :
    Calls Tryd.prog 7 #[.slice A n c, .int .i64 left] w fun e w' => e = .returned (.int .i64 (-1)) ∧ w = w' := by
  go_enter Tryd.func7, Tryd.ntmps7
  go_wp2
  go_ret
  exact ⟨rfl, rfl⟩

/-- n structs of values that count on from k -/
def spanFrom (k : Int) (n : Nat) : List Span := (List.range n).map fun (i : Nat) => ⟨k + 3 * (i : Int), k + 3 * (i : Int) + 1, k + 3 * (i : Int) + 1 + 1⟩
theorem length_spanFrom (k : Int) (n : Nat) : (spanFrom k n).length = n := by simp [spanFrom]
theorem spanFrom_succ (k : Int) (i : Nat) : spanFrom k (i + 1) = spanFrom k i ++ [⟨k + 3 * (i : Int), k + 3 * (i : Int) + 1, k + 3 * (i : Int) + 1 + 1⟩] := by simp [spanFrom, List.range_succ]
theorem spanFrom_get (k : Int) (n i : Nat) (h : i < (spanFrom k n).length) : (spanFrom k n)[i] = ⟨k + 3 * (i : Int), k + 3 * (i : Int) + 1, k + 3 * (i : Int) + 1 + 1⟩ := by simp [spanFrom]

set_option maxHeartbeats 1000000 in
theorem markSpanS_any (xs : List Value) (n : Nat) (k : Int) (A : Option Addr) (c base : Nat) (w : World) (ho : w.ownsRow base 45 3 (.slice A n c) n xs) (hn : n ≤ 9000000) (hk : 0 ≤ k ∧ k ≤ 9000000) :
    Calls Tryd.prog 12 #[.slice A n c, .int .i64 k] w
      fun e w' => e = .returned (.int .i64 (k + 3 * n)) ∧ w'.ownsRow base 45 3 (.slice A n c) n (cellsSpan (spanFrom k n)) ∧ w.grownBy w' (Value.slice A n c).ownBlock := by
  rcases Nat.eq_zero_or_pos n with rfl | hpos
  · have hx : xs = [] := List.eq_nil_of_length_eq_zero (by simpa using ho.1)
    subst hx
    have HO := Lib.hid ho
    clear ho
    go_enter Tryd.func12, Tryd.ntmps12
    go_wp2
    go_rounds 1
    go_ret
    exact ⟨by simp, HO.out, World.grownBy.refl _ _⟩
  · obtain ⟨g, hA⟩ : ∃ g, A = some ⟨g, 0, none⟩ := by
      rcases ho.2 with ⟨hv, h0⟩ | ⟨g, cap, cur, hv, _⟩
      · omega
      · injection hv with hA _ _; exact ⟨g, hA⟩
    subst hA
    go_enter Tryd.func12, Tryd.ntmps12
    go_wp2
    go_loopw [1, 5] (fun v1 v5 wr => ∃ i : Nat, i ≤ n ∧ v5 = .int .i64 i ∧ v1 = .int .i64 (k + 3 * (i : Int)) ∧ w.grownBy wr (some g) ∧
      wr.ownsRow base 45 3 (.slice (some ⟨g, 0, none⟩) n c) n (cellsSpan (spanFrom k i) ++ xs.drop (i * 3))) (fun _ i _ => n - (intOf i).toNat)
    case atStart => exact ⟨0, Nat.zero_le _, rfl, by go_num, World.grownBy.refl _ _, ho⟩
    case round =>
      have hxl : xs.length = n * 3 := ho.1
      have HX := Lib.hid hxl
      clear ho hxl
      obtain ⟨i, hi, rfl, rfl, hgr, hown⟩ := hrel
      by_cases hlt : i < n
      · have hlt' : ((i : Int) < (n : Int)) := by omega
        obtain ⟨⟨z0, e0⟩, f0⟩ := own_has hown (i * 3) (by omega)
        obtain ⟨⟨z1, e1⟩, f1⟩ := own_has hown (i * 3 + 1) (by omega)
        obtain ⟨⟨z2, e2⟩, f2⟩ := own_has hown (i * 3 + 2) (by omega)
        have HO := Lib.hid hown
        have HG := Lib.hid hgr
        clear hown hgr
        go_wp2
        go_roundw
        case rel =>
          refine ⟨i + 1, by omega, by go_num, by go_num, grown_set (grown_set (grown_set (HG.out) _ _) _ _) _ _, ?_⟩
          have h := (((HO.out.stored (i * 3) (.int .i64 (k + 3 * (i : Int)))).1.stored (i * 3 + 1) (.int .i64 (k + 3 * (i : Int) + 1))).1.stored (i * 3 + 2) (.int .i64 (k + 3 * (i : Int) + 1 + 1))).1
          rw [fill3 (by rw [len_cellsSpan, length_spanFrom]) (by rw [HX.out]; omega)] at h
          rw [spanFrom_succ, cellsSpan_append, List.append_assoc]
          exact h
        case measure => simp [intOf]; omega
      · obtain rfl : i = n := by omega
        have H1 : Hid (wr.ownsRow base 45 3 (.slice (some ⟨g, 0, none⟩) i c) i (cellsSpan (spanFrom k i))) := by
          rw [List.drop_of_length_le (by rw [HX.out]; omega), List.append_nil] at hown
          exact hown
        have HG := Lib.hid hgr
        clear hown hgr
        go_wp2
        go_ret
        exact ⟨rfl, H1.out, HG.out⟩

set_option maxHeartbeats 1000000 in
theorem heldSpanS_any (n : Nat) (k : Int) (A : Option Addr) (c : Nat) (w : World) (hr : Rd w 3 A n (cellsSpan (spanFrom k n))) (hn : n ≤ 9000000) (hk : 0 ≤ k ∧ k ≤ 9000000) :
    Calls Tryd.prog 13 #[.slice A n c, .int .i64 k] w fun e w' => e = .returned (.int .i64 (k + 3 * n)) ∧ w = w' := by
  obtain ⟨hx, hrd⟩ := hr
  have HR := Lib.hid hrd
  clear hx hrd
  go_enter Tryd.func13, Tryd.ntmps13
  go_wp2
  go_loop [1, 5] (fun v1 v5 => ∃ i : Nat, i ≤ n ∧ v5 = .int .i64 i ∧ v1 = .int .i64 (k + 3 * (i : Int))) (fun _ i => n - (intOf i).toNat)
  case atStart => exact ⟨0, Nat.zero_le _, rfl, by go_num⟩
  case round =>
    obtain ⟨i, hi, rfl, rfl⟩ := hrel
    by_cases hlt : i < n
    · have hlt' : ((i : Int) < (n : Int)) := by omega
      obtain ⟨gb, go, rfl, hgb, hcell⟩ := HR.out (by omega)
      have hc := cellsSpan_at hcell (by rw [length_spanFrom]; exact hlt)
      rw [spanFrom_get] at hc
      obtain ⟨h0, h1, h2⟩ := hc
      clear hcell
      go_wp2
      go_round
      case rel => exact ⟨i + 1, by omega, by go_num, by go_num⟩
      case measure => simp [intOf]; omega
    · obtain rfl : i = n := by omega
      go_wp2
      go_ret
      exact ⟨rfl, rfl⟩

section
variable {H : Type} {enc : TypeId × Value → H} {W : World} {base : Nat} {v : Value} {d : DataW H} {p : List MemPlace} {r : Reach}
open Go.ChangeShapes Go.WideShapes Go.ChangeAt Go.RowKit Go.Deep

theorem spanFields : ∃ f0 f1 f2 : Field, Tryd.prog.underlying 47 = some (.struct #[f0, f1, f2]) ∧ oneCellFields Tryd.prog #[f0, f1, f2] = true ∧ f0.type = 3 ∧ f1.type = 3 ∧ f2.type = 3 :=
  ⟨_, _, _, Tryd.underlying47, by kernel_rfl, rfl, rfl, rfl⟩

theorem span_of {fuel : Nat} {cs : List Value} {x : DataW H × List MemPlace} (h : DataW.trod enc Tryd.prog W 0 (fun _ => true) true fuel 47 cs = some x) :
    ∃ y : Span, cs = cellSpan y ∧ I64 y.lo ∧ I64 y.hi ∧ I64 y.reason := by
  obtain ⟨f0, f1, f2, hs, hone, t0, t1, t2⟩ := spanFields
  obtain ⟨hl, n, hf⟩ := fields_of hs hone (by kernel_rfl) h
  obtain ⟨u0, y0, c0, k0⟩ := hf 0 f0 rfl
  rw [t0] at k0
  obtain ⟨a0, e0, _, w0⟩ := DataW.trod_int Tryd.underlying3 k0
  obtain ⟨u1, y1, c1, k1⟩ := hf 1 f1 rfl
  rw [t1] at k1
  obtain ⟨a1, e1, _, w1⟩ := DataW.trod_int Tryd.underlying3 k1
  obtain ⟨u2, y2, c2, k2⟩ := hf 2 f2 rfl
  rw [t2] at k2
  obtain ⟨a2, e2, _, w2⟩ := DataW.trod_int Tryd.underlying3 k2
  match cs, hl with
  | [z0, z1, z2], _ =>
    simp at c0 c1 c2 e0 e1 e2
    subst c0 c1 c2 e0 e1 e2
    exact ⟨⟨a0, a1, a2⟩, rfl, I64.of_wf w0, I64.of_wf w1, I64.of_wf w2⟩

theorem in_span (hv : Value.okWide Tryd.prog W r base 47 v) (h : DataW.Trod enc Tryd.prog W 0 (fun _ => true) true 47 v d p) : ∃ y : Span, (I64 y.lo ∧ I64 y.hi ∧ I64 y.reason) ∧ v = aggSpan y := by
  obtain ⟨cs, rfl, _⟩ := okWide_struct Tryd.underlying47 hv
  obtain ⟨fuel, hf⟩ := h
  obtain ⟨y, hcs, hw⟩ := span_of hf
  refine ⟨y, hw, ?_⟩
  have hcs' : cs.toList = cellSpan y := by simpa [Value.cells] using hcs
  unfold aggSpan
  congr 1
  exact Array.toList_inj.1 (by rw [hcs']; rfl)

/-- what came in as a list of them -/
def InSpanS (W : World) (v : Value) : Prop := ∃ (A : Option Addr) (k : Nat) (l : List Span), v = .slice A l.length k ∧ Rd W 3 A l.length (cellsSpan l) ∧ (∀ y ∈ l, I64 y.lo ∧ I64 y.hi ∧ I64 y.reason) ∧ l.length ≤ 9223372036854775807
theorem in_spans (hv : Value.okWide Tryd.prog W r base 22 v) (h : DataW.Trod enc Tryd.prog W 0 (fun _ => true) true 22 v d p) : ∃ x, InSpanS W x ∧ v = x := by
  obtain ⟨a, n, c, rfl⟩ := okWide_slice Tryd.underlying22 hv
  obtain ⟨fuel, hf⟩ := h
  exact ⟨_, slice_of (c := cellSpan) (Q := fun y : Span => I64 y.lo ∧ I64 y.hi ∧ I64 y.reason) Tryd.underlying22 (by kernel_rfl) (by omega) (fun _ => rfl) (fun _ _ _ h => span_of h) hf, rfl⟩
end

end Go.Proofs.YtllnnkiehckegaaDoor
