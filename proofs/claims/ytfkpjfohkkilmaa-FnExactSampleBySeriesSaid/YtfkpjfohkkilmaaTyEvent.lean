/-
  The walks of the law's own helpers on Event and on lists of it: copy, compare, measure, mark, look. Written by gen_struct.py.
  Conditions: those written at each theorem.
-/
import Derived.Test.YtfkpjfohkkilmaaNums
import Derived.Test.YtfkpjfohkkilmaaOpen
import Derived.OwnWalk
import Derived.StillTailTactics
namespace Go.Proofs.Ytfkpjfohkkilmaa
open Go.RowKit
set_option maxRecDepth 100000

structure Event where
  kind : Int
  day : Int

def aggEvent (x : Event) : Value := .agg #[.int .i64 x.kind, .int .i64 x.day]
def cellEvent (x : Event) : List Value := [.int .i64 x.kind, .int .i64 x.day]
def cellsEvent (l : List Event) : List Value := l.flatMap cellEvent
instance : Inhabited Event := ⟨⟨0, 0⟩⟩
theorem len_cellsEvent (l : List Event) : (cellsEvent l).length = l.length * 2 := length_flat cellEvent 2 (fun _ => rfl) l
theorem cellsEvent_append (l m : List Event) : cellsEvent (l ++ m) = cellsEvent l ++ cellsEvent m := by simp [cellsEvent]
theorem cellsEvent_at {w : World} {l : List Event} {b o k : Nat} (hc : ∀ j u, (cellsEvent l)[j]? = some u → w.cell? ⟨b, o + j, none⟩ = some u) (h : k < l.length) :
    w.cell? ⟨b, o + k * 2, none⟩ = some (.int .i64 l[k].kind) ∧ w.cell? ⟨b, o + k * 2 + 1, none⟩ = some (.int .i64 l[k].day) := by
  have e : ∀ r, r < 2 → (cellsEvent l)[k * 2 + r]? = (cellEvent l[k])[r]? := fun r hr => getElem?_flat cellEvent 2 (fun _ => rfl) l k r h hr
  exact ⟨hc _ _ (e 0 (by omega)), hc _ _ (e 1 (by omega))⟩

theorem toEvent_any (x : Event) (w : World) : Calls Try.prog 48 #[aggEvent x] w fun e w' => e = .returned (aggEvent x) ∧ Below w.heap.size w w' := by
  unfold aggEvent
  go_enter Try.func48, Try.ntmps48
  go_wp2
  go_returns
  exact ⟨rfl, by go_grown⟩

theorem eqEvent_same (x : Event) (w : World) : Calls Try.prog 63 #[aggEvent x, aggEvent x] w fun e w' => e = .returned (.bool true) ∧ Below w.heap.size w w' := by
  unfold aggEvent
  go_enter Try.func63, Try.ntmps63
  go_wp2
  go_ret
  exact ⟨rfl, by go_grown⟩

theorem infoEvent : (Try.prog.info? 66).map (fun i => (i.zero, i.size, i.bytes)) = some (some (.agg #[.int .i64 0, .int .i64 0]), 2, 16) := by kernel_rfl

set_option maxHeartbeats 400000 in
theorem toEventS_any (l : List Event) (A : Option Addr) (c : Nat) (w : World) (hr : Rd w 2 A l.length (cellsEvent l)) (hl : l.length ≤ 1048576) :
    Calls Try.prog 37 #[.slice A l.length c] w
      fun e w' => ∃ g, e = .returned (.slice (some ⟨g, 0, none⟩) l.length l.length) ∧ w'.ownsRow w.heap.size 66 2 (.slice (some ⟨g, 0, none⟩) l.length l.length) l.length (cellsEvent l) ∧ Below w.heap.size w w' := by
  obtain ⟨i0, hi, hz0, hz1, hz2⟩ := info_parts infoEvent
  obtain ⟨hx, hrd⟩ := hr
  have HRD := Lib.hid hrd
  clear hx hrd
  go_enter Try.func37, Try.ntmps37
  go_wp2_with (at_make; refine wpList_make_full _ rfl _ _ 46 rfl w.heap.size 66 i0 _ 2 Try.underlying46 hi hz0 hz1 .i64 .i64 _ _ l.length rfl rfl rfl rfl (by rw [hz2]; omega) (by unfold maxLen; omega) (by simp) ?_; intro w1 hown hgrow)
  have hb0 : Below w.heap.size w w1 := (Below.refl _ _).grown hgrow (Nat.le_refl _) (fun k h => by cases h)
  clear hgrow
  go_loopw [4] (fun i wr => ∃ k : Nat, k ≤ l.length ∧ i = .int .i64 k ∧ Below w.heap.size w wr ∧
      wr.ownsRow w.heap.size 66 2 (.slice (some ⟨w.heap.size, 0, none⟩) l.length l.length) l.length (cellsEvent (l.take k) ++ (madeCells (Value.agg #[.int .i64 0, .int .i64 0]).cells (l.length * 2)).toList.drop (k * 2))) (fun i _ => l.length - (intOf i).toNat)
  case atStart => exact ⟨0, Nat.zero_le _, rfl, hb0, hown⟩
  case round =>
    clear hown hb0
    obtain ⟨k, hk, rfl, hb, hown⟩ := hrel
    by_cases hlt : k < l.length
    · obtain ⟨gb, go, rfl, hgb, hcell⟩ := HRD.out (by omega)
      obtain ⟨h0, h1⟩ := cellsEvent_at hcell hlt
      have c0 : wr.cell? ⟨gb, go + k * 2, none⟩ = some (.int .i64 l[k].kind) := (hb.cell (p := ⟨gb, go + k * 2, none⟩) hgb).trans h0
      have c1 : wr.cell? ⟨gb, go + k * 2 + 1, none⟩ = some (.int .i64 l[k].day) := (hb.cell (p := ⟨gb, go + k * 2 + 1, none⟩) hgb).trans h1
      clear h0 h1 hcell
      have hlt' : ((k : Int) < (l.length : Int)) := by omega
      go_wp2_with fail
      refine (toEvent_any l[k] _).mono ?_
      rintro e w2 ⟨rfl, hb2⟩
      unfold aggEvent
      have hown2 := own_below hown hb2
      obtain ⟨⟨z0, e0⟩, f0⟩ := own_has hown2 (k * 2) (by omega)
      obtain ⟨⟨z1, e1⟩, f1⟩ := own_has hown2 (k * 2 + 1) (by omega)
      have HO := Lib.hid hown2
      have HB := Lib.hid (Below.transB hb (Nat.le_refl _) hb2)
      clear hown2 hown hb
      go_wp2
      go_roundw
      case rel =>
        refine ⟨k + 1, by omega, by go_num, ((HB.out.setCell (Nat.le_refl _) _).setCell (Nat.le_refl _) _), ?_⟩
        have h := ((HO.out.stored (k * 2) (.int .i64 l[k].kind)).1.stored (k * 2 + 1) (.int .i64 l[k].day)).1
        rw [fill2 (by rw [len_cellsEvent, List.length_take]; congr 1; omega) (by rw [len_made]; omega)] at h
        rw [take_succ' l k hlt, cellsEvent_append, List.append_assoc]
        exact h
      case measure => simp [intOf]; omega
    · obtain rfl : k = l.length := by omega
      have H1 : Hid (wr.ownsRow w.heap.size 66 2 (.slice (some ⟨w.heap.size, 0, none⟩) l.length l.length) l.length (cellsEvent l)) := by
        rw [List.take_length, List.drop_of_length_le (by rw [len_made]; omega), List.append_nil] at hown
        exact hown
      clear hown
      go_wp2
      go_ret
      exact ⟨_, rfl, H1.out, hb⟩

set_option maxHeartbeats 400000 in
theorem eqEventS_same (l : List Event) (A B : Option Addr) (c d : Nat) (w : World) (hr : Rd w 2 A l.length (cellsEvent l)) (hs : Rd w 2 B l.length (cellsEvent l)) (hl : l.length ≤ 1048576) :
    Calls Try.prog 45 #[.slice A l.length c, .slice B l.length d] w fun e w' => e = .returned (.bool true) ∧ Below w.heap.size w w' := by
  obtain ⟨hx, hrd⟩ := hr
  have HR := Lib.hid hrd
  clear hx hrd
  obtain ⟨hx, hrd⟩ := hs
  have HS := Lib.hid hrd
  clear hx hrd
  go_enter Try.func45, Try.ntmps45
  go_wp2
  go_loopw [5] (fun i wr => ∃ k : Nat, k ≤ l.length ∧ i = .int .i64 k ∧ Below w.heap.size w wr) (fun i _ => l.length - (intOf i).toNat)
  case atStart => exact ⟨0, Nat.zero_le _, rfl, Below.refl _ _⟩
  case round =>
    obtain ⟨k, hk, rfl, hb⟩ := hrel
    by_cases hlt : k < l.length
    · obtain ⟨gb, go, rfl, hgb, hcell⟩ := HR.out (by omega)
      obtain ⟨h0, h1⟩ := cellsEvent_at hcell hlt
      have c0 : wr.cell? ⟨gb, go + k * 2, none⟩ = some (.int .i64 l[k].kind) := (hb.cell (p := ⟨gb, go + k * 2, none⟩) hgb).trans h0
      have c1 : wr.cell? ⟨gb, go + k * 2 + 1, none⟩ = some (.int .i64 l[k].day) := (hb.cell (p := ⟨gb, go + k * 2 + 1, none⟩) hgb).trans h1
      clear h0 h1 hcell
      obtain ⟨gc, gp, rfl, hgc, hcell⟩ := HS.out (by omega)
      obtain ⟨h0, h1⟩ := cellsEvent_at hcell hlt
      have d0 : wr.cell? ⟨gc, gp + k * 2, none⟩ = some (.int .i64 l[k].kind) := (hb.cell (p := ⟨gc, gp + k * 2, none⟩) hgc).trans h0
      have d1 : wr.cell? ⟨gc, gp + k * 2 + 1, none⟩ = some (.int .i64 l[k].day) := (hb.cell (p := ⟨gc, gp + k * 2 + 1, none⟩) hgc).trans h1
      clear h0 h1 hcell
      have hlt' : ((k : Int) < (l.length : Int)) := by omega
      go_wp2_with fail
      go_still_tail 8, (by kernel_rfl)
      change wpList _ _ _ _ _ wr.drew
      go_wp2_with (go_at_call 63; refine (eqEvent_same l[k] _).mono ?_; rintro e w2 ⟨rfl, hb2⟩)
      go_roundw
      case rel => exact ⟨k + 1, by omega, by go_num, Below.transB hb.drew (Nat.le_refl _) hb2⟩
      case measure => simp [intOf]; omega
    · go_wp2
      go_ret
      exact ⟨rfl, hb⟩

theorem szEventS_ok (n : Nat) (left : Int) (A : Option Addr) (c : Nat) (w : World) (hl : left ≤ 1048576) (h : (n : Int) ≤ left) :
    Calls Try.prog 30 #[.slice A n c, .int .i64 left] w fun e w' => e = .returned (.int .i64 (left - n)) ∧ w = w' := by
  go_enter Try.func30, Try.ntmps30
  go_wp2
  go_ret
  exact ⟨rfl, rfl⟩

theorem szEventS_no (n : Nat) (left : Int) (A : Option Addr) (c : Nat) (w : World) (h0 : 0 ≤ left) (hn : n ≤ 9223372036854775807) (h : left < (n : Int)) :
    Calls Try.prog 30 #[.slice A n c, .int .i64 left] w fun e w' => e = .returned (.int .i64 (-1)) ∧ w = w' := by
  go_enter Try.func30, Try.ntmps30
  go_wp2
  go_ret
  exact ⟨rfl, rfl⟩

/-- n structs of values that count on from k -/
def eventFrom (k : Int) (n : Nat) : List Event := (List.range n).map fun (i : Nat) => ⟨k + 2 * (i : Int), k + 2 * (i : Int) + 1⟩
theorem length_eventFrom (k : Int) (n : Nat) : (eventFrom k n).length = n := by simp [eventFrom]
theorem eventFrom_succ (k : Int) (i : Nat) : eventFrom k (i + 1) = eventFrom k i ++ [⟨k + 2 * (i : Int), k + 2 * (i : Int) + 1⟩] := by simp [eventFrom, List.range_succ]
theorem eventFrom_get (k : Int) (n i : Nat) (h : i < (eventFrom k n).length) : (eventFrom k n)[i] = ⟨k + 2 * (i : Int), k + 2 * (i : Int) + 1⟩ := by simp [eventFrom]

set_option maxHeartbeats 1000000 in
theorem markEventS_any (xs : List Value) (n : Nat) (k : Int) (A : Option Addr) (c base : Nat) (w : World) (ho : w.ownsRow base 66 2 (.slice A n c) n xs) (hn : n ≤ 9000000) (hk : 0 ≤ k ∧ k ≤ 9000000) :
    Calls Try.prog 29 #[.slice A n c, .int .i64 k] w
      fun e w' => e = .returned (.int .i64 (k + 2 * n)) ∧ w'.ownsRow base 66 2 (.slice A n c) n (cellsEvent (eventFrom k n)) ∧ w.grownBy w' (Value.slice A n c).ownBlock := by
  rcases Nat.eq_zero_or_pos n with rfl | hpos
  · have hx : xs = [] := List.eq_nil_of_length_eq_zero (by simpa using ho.1)
    subst hx
    have HO := Lib.hid ho
    clear ho
    go_enter Try.func29, Try.ntmps29
    go_wp2
    go_rounds 1
    go_ret
    exact ⟨by simp, HO.out, World.grownBy.refl _ _⟩
  · obtain ⟨g, hA⟩ : ∃ g, A = some ⟨g, 0, none⟩ := by
      rcases ho.2 with ⟨hv, h0⟩ | ⟨g, cap, cur, hv, _⟩
      · omega
      · injection hv with hA _ _; exact ⟨g, hA⟩
    subst hA
    go_enter Try.func29, Try.ntmps29
    go_wp2
    go_loopw [1, 5] (fun v1 v5 wr => ∃ i : Nat, i ≤ n ∧ v5 = .int .i64 i ∧ v1 = .int .i64 (k + 2 * (i : Int)) ∧ w.grownBy wr (some g) ∧
      wr.ownsRow base 66 2 (.slice (some ⟨g, 0, none⟩) n c) n (cellsEvent (eventFrom k i) ++ xs.drop (i * 2))) (fun _ i _ => n - (intOf i).toNat)
    case atStart => exact ⟨0, Nat.zero_le _, rfl, by go_num, World.grownBy.refl _ _, ho⟩
    case round =>
      have hxl : xs.length = n * 2 := ho.1
      have HX := Lib.hid hxl
      clear ho hxl
      obtain ⟨i, hi, rfl, rfl, hgr, hown⟩ := hrel
      by_cases hlt : i < n
      · have hlt' : ((i : Int) < (n : Int)) := by omega
        obtain ⟨⟨z0, e0⟩, f0⟩ := own_has hown (i * 2) (by omega)
        obtain ⟨⟨z1, e1⟩, f1⟩ := own_has hown (i * 2 + 1) (by omega)
        have HO := Lib.hid hown
        have HG := Lib.hid hgr
        clear hown hgr
        go_wp2
        go_roundw
        case rel =>
          refine ⟨i + 1, by omega, by go_num, by go_num, grown_set (grown_set (HG.out) _ _) _ _, ?_⟩
          have h := ((HO.out.stored (i * 2) (.int .i64 (k + 2 * (i : Int)))).1.stored (i * 2 + 1) (.int .i64 (k + 2 * (i : Int) + 1))).1
          rw [fill2 (by rw [len_cellsEvent, length_eventFrom]) (by rw [HX.out]; omega)] at h
          rw [eventFrom_succ, cellsEvent_append, List.append_assoc]
          exact h
        case measure => simp [intOf]; omega
      · obtain rfl : i = n := by omega
        have H1 : Hid (wr.ownsRow base 66 2 (.slice (some ⟨g, 0, none⟩) i c) i (cellsEvent (eventFrom k i))) := by
          rw [List.drop_of_length_le (by rw [HX.out]; omega), List.append_nil] at hown
          exact hown
        have HG := Lib.hid hgr
        clear hown hgr
        go_wp2
        go_ret
        exact ⟨rfl, H1.out, HG.out⟩


section
variable {H : Type} {enc : TypeId × Value → H} {W : World} {base : Nat} {v : Value} {d : DataW H} {p : List MemPlace} {r : Reach}
open Go.ChangeShapes Go.WideShapes Go.ChangeAt Go.RowKit Go.Deep

theorem eventFields : ∃ f0 f1 : Field, Try.prog.underlying 69 = some (.struct #[f0, f1]) ∧ oneCellFields Try.prog #[f0, f1] = true ∧ f0.type = 3 ∧ f1.type = 3 :=
  ⟨_, _, Try.underlying69, by kernel_rfl, rfl, rfl⟩

theorem event_of {fuel : Nat} {cs : List Value} {x : DataW H × List MemPlace} (h : DataW.trod enc Try.prog W 0 (fun _ => true) true fuel 69 cs = some x) :
    ∃ y : Event, cs = cellEvent y ∧ I64 y.kind ∧ I64 y.day := by
  obtain ⟨f0, f1, hs, hone, t0, t1⟩ := eventFields
  obtain ⟨hl, n, hf⟩ := fields_of hs hone (by kernel_rfl) h
  obtain ⟨u0, y0, c0, k0⟩ := hf 0 f0 rfl
  rw [t0] at k0
  obtain ⟨a0, e0, _, w0⟩ := DataW.trod_int Try.underlying3 k0
  obtain ⟨u1, y1, c1, k1⟩ := hf 1 f1 rfl
  rw [t1] at k1
  obtain ⟨a1, e1, _, w1⟩ := DataW.trod_int Try.underlying3 k1
  match cs, hl with
  | [z0, z1], _ =>
    simp at c0 c1 e0 e1
    subst c0 c1 e0 e1
    exact ⟨⟨a0, a1⟩, rfl, I64.of_wf w0, I64.of_wf w1⟩

theorem in_event (hv : Value.okWide Try.prog W r base 69 v) (h : DataW.Trod enc Try.prog W 0 (fun _ => true) true 69 v d p) : ∃ y : Event, (I64 y.kind ∧ I64 y.day) ∧ v = aggEvent y := by
  obtain ⟨cs, rfl, _⟩ := okWide_struct Try.underlying69 hv
  obtain ⟨fuel, hf⟩ := h
  obtain ⟨y, hcs, hw⟩ := event_of hf
  refine ⟨y, hw, ?_⟩
  have hcs' : cs.toList = cellEvent y := by simpa [Value.cells] using hcs
  unfold aggEvent
  congr 1
  exact Array.toList_inj.1 (by rw [hcs']; rfl)

/-- what came in as a list of them -/
def InEventS (W : World) (v : Value) : Prop := ∃ (A : Option Addr) (k : Nat) (l : List Event), v = .slice A l.length k ∧ Rd W 2 A l.length (cellsEvent l) ∧ (∀ y ∈ l, I64 y.kind ∧ I64 y.day) ∧ l.length ≤ 9223372036854775807
theorem in_events (hv : Value.okWide Try.prog W r base 35 v) (h : DataW.Trod enc Try.prog W 0 (fun _ => true) true 35 v d p) : ∃ x, InEventS W x ∧ v = x := by
  obtain ⟨a, n, c, rfl⟩ := okWide_slice Try.underlying35 hv
  obtain ⟨fuel, hf⟩ := h
  exact ⟨_, slice_of (c := cellEvent) (Q := fun y : Event => I64 y.kind ∧ I64 y.day) Try.underlying35 (by kernel_rfl) (by omega) (fun _ => rfl) (fun _ _ _ h => event_of h) hf, rfl⟩
end

end Go.Proofs.Ytfkpjfohkkilmaa
