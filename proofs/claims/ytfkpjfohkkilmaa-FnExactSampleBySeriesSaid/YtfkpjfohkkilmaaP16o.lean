/-
  Records, by the reference and by the program; the law's own helpers on them. Written by mk16o.py.
  Conditions: those written at each theorem.
-/
import Derived.Test.YtfkpjfohkkilmaaTyEvent
import Derived.Test.YtfkpjfohkkilmaaSi
namespace Go.Proofs.Ytfkpjfohkkilmaa
open Go.RowKit Go.BigFrame
set_option maxRecDepth 100000

structure Rec where
  id : Int
  series : Int
  made : Int
  events : List Event

section
variable {H : Type} {enc : TypeId × Value → H} {W : World} {base : Nat} {v : Value} {d : DataW H} {p : List MemPlace} {r : Reach}
open Go.ChangeShapes Go.WideShapes Go.ChangeAt Go.RowKit Go.Deep
/-- what came in as a record -/
def InRec (W : World) (v : Value) : Prop := ∃ (r : Rec) (A : Option Addr) (k : Nat), v = .agg #[.int .i64 r.id, .int .i64 r.series, .int .i64 r.made, .slice A r.events.length k] ∧
  Rd W 2 A r.events.length (cellsEvent r.events) ∧ r.events.length ≤ 9223372036854775807 ∧ I64 r.id ∧ I64 r.series ∧ I64 r.made
theorem recFields : ∃ f0 f1 f2 f3 : Field, Try.prog.underlying 37 = some (.struct #[f0, f1, f2, f3]) ∧ oneCellFields Try.prog #[f0, f1, f2, f3] = true ∧ f0.type = 3 ∧ f1.type = 3 ∧ f2.type = 3 ∧ f3.type = 35 :=
  ⟨_, _, _, _, Try.underlying37, by kernel_rfl, rfl, rfl, rfl, rfl⟩
theorem rec_of {fuel : Nat} {cs : List Value} {x : DataW H × List MemPlace} (h : DataW.trod enc Try.prog W 0 (fun _ => true) true fuel 37 cs = some x) :
    ∃ (r : Rec) (A : Option Addr) (k : Nat), cs = [.int .i64 r.id, .int .i64 r.series, .int .i64 r.made, .slice A r.events.length k] ∧
      Rd W 2 A r.events.length (cellsEvent r.events) ∧ r.events.length ≤ 9223372036854775807 ∧ I64 r.id ∧ I64 r.series ∧ I64 r.made := by
  obtain ⟨f0, f1, f2, f3, hs, hone, t0, t1, t2, t3⟩ := recFields
  obtain ⟨hl, n, hf⟩ := fields_of hs hone (by kernel_rfl) h
  obtain ⟨u0, y0, c0, k0⟩ := hf 0 f0 rfl
  obtain ⟨u1, y1, c1, k1⟩ := hf 1 f1 rfl
  obtain ⟨u2, y2, c2, k2⟩ := hf 2 f2 rfl
  obtain ⟨u3, y3, c3, k3⟩ := hf 3 f3 rfl
  rw [t0] at k0
  rw [t1] at k1
  rw [t2] at k2
  rw [t3] at k3
  obtain ⟨a0, e0, _, w0⟩ := DataW.trod_int Try.underlying3 k0
  obtain ⟨a1, e1, _, w1⟩ := DataW.trod_int Try.underlying3 k1
  obtain ⟨a2, e2, _, w2⟩ := DataW.trod_int Try.underlying3 k2
  obtain ⟨A, k, S, e3, hr, hq, hm⟩ := slice_of (sz := 2) (c := cellEvent) (Q := fun y : Event => I64 y.kind ∧ I64 y.day) Try.underlying35 (by kernel_rfl) (by omega) (fun _ => rfl) (fun _ _ _ h => event_of h) k3
  match cs, hl with
  | [z0, z1, z2, z3], _ =>
    simp at c0 c1 c2 c3 e0 e1 e2
    subst c0 c1 c2 c3 e0 e1 e2 e3
    exact ⟨⟨a0, a1, a2, S⟩, A, k, rfl, hr, hm, I64.of_wf w0, I64.of_wf w1, I64.of_wf w2⟩
theorem in_record (hv : Value.okWide Try.prog W r base 37 v) (h : DataW.Trod enc Try.prog W 0 (fun _ => true) true 37 v d p) : ∃ x, InRec W x ∧ v = x := by
  obtain ⟨cs, rfl, _⟩ := okWide_struct Try.underlying37 hv
  obtain ⟨fuel, hf⟩ := h
  obtain ⟨r, A, k, hcs, hr⟩ := rec_of hf
  refine ⟨_, ⟨r, A, k, ?_, hr⟩, rfl⟩
  have hcs' : cs.toList = [.int .i64 r.id, .int .i64 r.series, .int .i64 r.made, .slice A r.events.length k] := by simpa [Value.cells] using hcs
  congr 1
  exact Array.toList_inj.1 (by rw [hcs'])
end

set_option maxHeartbeats 400000 in
theorem toRecord_any (r : Rec) (A : Option Addr) (c : Nat) (w : World) (hr : Rd w 2 A r.events.length (cellsEvent r.events)) (hl : r.events.length ≤ 1048576) :
    Calls Try.prog 21 #[.agg #[.int .i64 r.id, .int .i64 r.series, .int .i64 r.made, .slice A r.events.length c]] w
      fun e w' => ∃ g, e = .returned (.agg #[.int .i64 r.id, .int .i64 r.series, .int .i64 r.made, .slice (some ⟨g, 0, none⟩) r.events.length r.events.length])
        ∧ w'.ownsRow w.heap.size 66 2 (.slice (some ⟨g, 0, none⟩) r.events.length r.events.length) r.events.length (cellsEvent r.events) ∧ Below w.heap.size w w' := by
  go_enter Try.func21, Try.ntmps21
  go_wp2_with fail
  refine (toEventS_any r.events A c _ (hr.below (by go_grown)) hl).mono ?_
  rintro e w1 ⟨g, rfl, ho, hb⟩
  obtain ⟨hc, hf⟩ := bcell hb
  have hsz : w.heap.size + 1 + 1 < w1.heap.size := by have := hb.size; simp at this; omega
  have HO := Lib.hid ho
  have HB := Lib.hid hb
  clear ho hb
  go_wp2
  refine bodyPost_ret (v := .agg #[.int .i64 r.id, .int .i64 r.series, .int .i64 r.made, .slice (some ⟨g, 0, none⟩) r.events.length r.events.length]) (by simp [results, Try.results21, go_sem, hc, hsz]) rfl ⟨g, rfl, ?_, ?_⟩
  · refine own_base (base := w.heap.size + 1 + 1 + 1) ?_ (by omega)
    repeat' refine ownsRow_setCell_below ?_ (by simp) _
    simpa using HO.out
  · have h := Below.trans' (a := w) (by go_grown) HB.out
    repeat' refine Below.setCell ?_ (by simp [Nat.add_assoc]) _
    exact h

set_option maxHeartbeats 400000 in
theorem eqRecord_same (r : Rec) (A B : Option Addr) (c d : Nat) (w : World) (hr : Rd w 2 A r.events.length (cellsEvent r.events)) (hs : Rd w 2 B r.events.length (cellsEvent r.events)) (hl : r.events.length ≤ 1048576) :
    Calls Try.prog 28 #[.agg #[.int .i64 r.id, .int .i64 r.series, .int .i64 r.made, .slice A r.events.length c], .agg #[.int .i64 r.id, .int .i64 r.series, .int .i64 r.made, .slice B r.events.length d]] w
      fun e w' => e = .returned (.bool true) ∧ Below w.heap.size w w' := by
  go_enter Try.func28, Try.ntmps28
  go_wp2_with fail
  refine (eqEventS_same r.events A B c d _ (hr.below (by go_grown)) (hs.below (by go_grown)) hl).mono ?_
  rintro e w1 ⟨rfl, hb⟩
  go_wp2
  go_ret
  exact ⟨rfl, Below.trans' (by go_grown) hb⟩

theorem szRecord_ok (a0 a1 a2 : Value) (n : Nat) (left : Int) (A : Option Addr) (c : Nat) (w : World) (hl : left ≤ 1048576) (h : (n : Int) ≤ left) :
    Calls Try.prog 13 #[.agg #[a0, a1, a2, .slice A n c], .int .i64 left] w fun e w' => e = .returned (.int .i64 (left - n)) ∧ Below w.heap.size w w' := by
  go_enter Try.func13, Try.ntmps13
  go_wp2_with (go_at_call 30; refine (szEventS_ok _ _ _ _ _ hl h).mono ?_; rintro e w1 ⟨rfl, rfl⟩)
  go_ret
  exact ⟨rfl, by go_grown⟩
theorem szRecord_no (a0 a1 a2 : Value) (n : Nat) (left : Int) (A : Option Addr) (c : Nat) (w : World) (h0 : 0 ≤ left) (hn : n ≤ 9223372036854775807) (h : left < (n : Int)) :
    Calls Try.prog 13 #[.agg #[a0, a1, a2, .slice A n c], .int .i64 left] w fun e w' => e = .returned (.int .i64 (-1)) ∧ Below w.heap.size w w' := by
  go_enter Try.func13, Try.ntmps13
  go_wp2_with (go_at_call 30; refine (szEventS_no _ _ _ _ _ h0 hn h).mono ?_; rintro e w1 ⟨rfl, rfl⟩)
  go_ret
  exact ⟨rfl, by go_grown⟩

def evOk (e : Event) : Bool := inB e.kind 1 9 && inB e.day 0 20000
theorem l2Event_any (e : Event) (w : World) : Calls Try.prog 46 #[aggEvent e] w fun x w' => x = .returned (.bool (evOk e)) ∧ Below w.heap.size w w' := by
  have HE : Hid (evOk e = (inB e.kind 1 9 && inB e.day 0 20000)) := rfl
  unfold aggEvent
  by_cases q : inB e.kind 1 9 = true
  · go_enter Try.func46, Try.ntmps46
    go_wp2_with (first
      | (go_at_call 15; refine (l1In_any _ _ _ _).mono ?_; rintro e w' ⟨rfl, rfl⟩; rw [q])
      | (go_at_call 47; refine (l2Day_any _ _).mono ?_; rintro e w' ⟨rfl, rfl⟩))
    go_ret
    exact ⟨by rw [HE.out, q]; rfl, by go_grown⟩
  · have q' : inB e.kind 1 9 = false := by simpa using q
    go_enter Try.func46, Try.ntmps46
    go_wp2_with (go_at_call 15; refine (l1In_any _ _ _ _).mono ?_; rintro e w' ⟨rfl, rfl⟩; rw [q'])
    go_ret
    exact ⟨by rw [HE.out, q']; rfl, by go_grown⟩
theorem isEvent_any (e : Event) (w : World) : Calls Try.prog 51 #[aggEvent e] w fun x w' => x = .returned (.bool (evOk e)) ∧ Below w.heap.size w w' := by
  have HE : Hid (evOk e = (inB e.kind 1 9 && inB e.day 0 20000)) := rfl
  unfold aggEvent
  by_cases q : inB e.kind 1 9 = true
  · go_enter Try.func51, Try.ntmps51
    go_wp2_with (first
      | (go_at_call 23; refine (within_any _ _ _ _).mono ?_; rintro e w' ⟨rfl, rfl⟩; rw [q])
      | (go_at_call 50; refine (isDay_any _ _).mono ?_; rintro e w' ⟨rfl, rfl⟩))
    go_ret
    exact ⟨by rw [HE.out, q]; rfl, by go_grown⟩
  · have q' : inB e.kind 1 9 = false := by simpa using q
    go_enter Try.func51, Try.ntmps51
    go_wp2_with (go_at_call 23; refine (within_any _ _ _ _).mono ?_; rintro e w' ⟨rfl, rfl⟩; rw [q'])
    go_ret
    exact ⟨by rw [HE.out, q']; rfl, by go_grown⟩

/-- events, one behind the other -/
def evsB (m : Int) : Int → List Event → Bool
  | _, [] => true
  | p, e :: r => (evOk e && decide (m ≤ e.day) && decide (p < e.kind)) && evsB m e.kind r
def prevK (l : List Event) : Nat → Int
  | 0 => 0
  | k + 1 => ((l[k]?).map (·.kind)).getD 0
theorem prevK_succ (l : List Event) (k : Nat) (h : k < l.length) : prevK l (k + 1) = l[k].kind := by simp [prevK, h]
theorem evsB_step {m : Int} {l : List Event} {k : Nat} (h : k < l.length) (K : evsB m 0 l = evsB m (prevK l k) (l.drop k)) : evsB m 0 l = ((evOk l[k] && decide (m ≤ l[k].day) && decide (prevK l k < l[k].kind)) && evsB m (prevK l (k + 1)) (l.drop (k + 1))) := by
  rw [K, List.drop_eq_getElem_cons h, evsB, prevK_succ l k h]
def headR (r : Rec) : Bool := inB r.id 1 999 && inB r.series 1 99 && inB r.made 0 20000 && decide ((r.events.length : Int) ≤ 6)
/-- a record is valid -/
def recB (r : Rec) : Bool := evsB r.made 0 r.events && headR r
theorem evOk_pos {e : Event} (h : evOk e = true) : 0 < e.kind := by
  simp only [evOk, Bool.and_eq_true] at h
  have := inB_true h.1
  omega
theorem isId99_any (x : Int) (w : World) :
    Calls Try.prog 49 #[.int .i64 x] w fun e w' => e = .returned (.bool (inB x 1 99)) ∧ w = w' := isId_any x w

set_option maxHeartbeats 16000000 in
theorem l2Record_any (r : Rec) (A : Option Addr) (c : Nat) (hl : r.events.length ≤ 1048576) (w : World) (hr : Rd w 2 A r.events.length (cellsEvent r.events)) :
    Calls Try.prog 31 #[.agg #[.int .i64 r.id, .int .i64 r.series, .int .i64 r.made, .slice A r.events.length c]] w fun e w' => e = .returned (.bool (recB r)) ∧ Below w.heap.size w w' := by
  have HR := Lib.hid hr
  clear hr
  have BX0 := Lib.hid (Box.new w #[.int .i64 r.id, .int .i64 r.series, .int .i64 r.made, .slice A r.events.length c] 48)
  have B0 := Lib.hid (Below.alloc (Below.refl w.heap.size w) (Nat.le_refl _) (.cells #[.int .i64 r.id, .int .i64 r.series, .int .i64 r.made, .slice A r.events.length c] 48))
  go_enter Try.func31, Try.ntmps31
  go_wp2
  go_loopw [3] (fun v3 wr => ∃ k : Nat, k ≤ r.events.length ∧ v3 = .int .i64 k ∧ Below w.heap.size w wr ∧ Hid (Box wr w.heap.size [.int .i64 r.id, .int .i64 r.series, .int .i64 r.made, .slice A r.events.length c]) ∧ Hid (evsB r.made 0 r.events = evsB r.made (prevK r.events k) (r.events.drop k))) (fun v3 _ => r.events.length - (intOf v3).toNat)
  case atStart => exact ⟨0, Nat.zero_le _, rfl, B0.out, BX0, by show _ = _; rfl⟩
  case round =>
    clear B0 BX0
    obtain ⟨k, hk, rfl, hb, BX, K⟩ := hrel
    obtain ⟨x0, x1, x2, x3⟩ := BX.out.four
    have hrr := HR.out.below hb
    by_cases hlt : k < r.events.length
    · obtain ⟨gb, go, rfl, hgb, hcell⟩ := hrr.2 (by omega)
      obtain ⟨h0, h1⟩ := cellsEvent_at hcell hlt
      have HC := Lib.hid hcell
      have hlt' : ((k : Int) < (r.events.length : Int)) := by omega
      have K1 := Lib.hid (evsB_step hlt K.out)
      clear hrr hcell K
      have bx := Box.new wr #[.int .i64 r.events[k].kind, .int .i64 r.events[k].day] 66
      have hb1 : Below wr.heap.size wr (wr.alloc (.cells #[.int .i64 r.events[k].kind, .int .i64 r.events[k].day] 66)) := (Below.refl _ _).alloc (Nat.le_refl _) _
      have HB1 := Lib.hid hb1
      have HB := Lib.hid hb
      have b0 := bx.G 0 _ rfl
      have b1 := bx.G 1 _ rfl
      have BX1 := Lib.hid (BX.out.below hb1)
      have p2 := BX1.out.G 2 _ rfl
      have p3 := BX1.out.G 3 _ rfl
      clear bx hb1 hb
      have hE := l2Event_any r.events[k]
      unfold aggEvent at hE
      have HE := fun W => Lib.hid (hE W)
      clear hE
      by_cases q1 : evOk r.events[k] = true
      · have hpos := evOk_pos q1
        rw [q1] at HE
        by_cases q2 : r.made ≤ r.events[k].day
        · have d2 : decide (r.events[k].day < r.made) = false := by simp; omega
          by_cases hk0 : k = 0
          · have hp0 : prevK r.events k = 0 := by rw [hk0]; rfl
            have K2 : Hid (evsB r.made 0 r.events = evsB r.made (prevK r.events (k + 1)) (r.events.drop (k + 1))) := by
              show _ = _; rw [K1.out, q1, decide_eq_true q2, hp0, decide_eq_true hpos]; simp
            have hk1 : decide ((0 : Int) < (k : Int)) = false := by simp; omega
            have hk2 : decide (0 < k) = false := by simp; omega
            clear K1 HC q1 hp0 hk0
            go_wp2_with fail
            refine wp_region_grow (by kernel_rfl) (by kernel_rfl) ?_
            repeat (go_big_quiet_step (first | (go_at_call 46; exact quietG (HE _).out)))
            refine wpQuiet_endG ?_
            intro w2 hb2
            have HW := Lib.hid (Below.transB (Below.transB HB.out (Nat.le_refl _) HB1.out) (Nat.le_refl _) hb2)
            have BX2 := Lib.hid (BX1.out.below hb2)
            clear hb2
            go_wp2
            go_roundw
            case rel => exact ⟨k + 1, by omega, by go_num, HW.out, BX2, K2⟩
            case measure => simp [intOf]; omega
          · obtain ⟨m, rfl⟩ : ∃ m, k = m + 1 := ⟨k - 1, by omega⟩
            have hm : m < r.events.length := by omega
            obtain ⟨p1, _⟩ := cellsEvent_at HC.out hm
            have p4 := cellG (w := wr.alloc (.cells #[.int .i64 r.events[m + 1].kind, .int .i64 r.events[m + 1].day] 66)) (b := gb) (o := go + m * 2) (v := .int .i64 r.events[m].kind) (by simp; omega) ((HB1.out.cell (p := ⟨gb, go + m * 2, none⟩) hgb).trans p1)
            clear hk0 p1
            rw [prevK_succ r.events m hm] at K1
            by_cases q4 : r.events[m].kind < r.events[m + 1].kind
            · have K2 : Hid (evsB r.made 0 r.events = evsB r.made (prevK r.events (m + 1 + 1)) (r.events.drop (m + 1 + 1))) := by
                show _ = _; rw [K1.out, q1, decide_eq_true q2, decide_eq_true q4]; simp
              clear K1 HC q1
              go_wp2_with fail
              refine wp_region_grow (by kernel_rfl) (by kernel_rfl) ?_
              repeat (go_big_quiet_step (first | (go_at_call 46; exact quietG (HE _).out)))
              refine wpQuiet_endG ?_
              intro w2 hb2
              have HW := Lib.hid (Below.transB (Below.transB HB.out (Nat.le_refl _) HB1.out) (Nat.le_refl _) hb2)
              have BX2 := Lib.hid (BX1.out.below hb2)
              clear hb2
              go_wp2
              go_roundw
              case rel => exact ⟨m + 1 + 1, by omega, by go_num, HW.out, BX2, K2⟩
              case measure => simp [intOf]; omega
            · have K2 : Hid (recB r = false) := by show _ = _; rw [recB, K1.out, decide_eq_false q4]; simp
              clear K1 HC q1
              go_wp2_with fail
              refine wp_region_grow (by kernel_rfl) (by kernel_rfl) ?_
              repeat (go_big_quiet_step (first | (go_at_call 46; exact quietG (HE _).out)))
              refine wpQuiet_endG ?_
              intro w2 hb2
              have HW := Lib.hid (Below.transB (Below.transB HB.out (Nat.le_refl _) HB1.out) (Nat.le_refl _) hb2)
              have BX2 := Lib.hid (BX1.out.below hb2)
              clear hb2
              go_wp2
              go_ret
              exact ⟨by rw [K2.out]; rfl, HW.out⟩
        · have d2 : decide (r.events[k].day < r.made) = true := by simp; omega
          have K2 : Hid (recB r = false) := by show _ = _; rw [recB, K1.out, decide_eq_false q2]; simp
          clear K1 HC
          clear q1
          go_wp2_with fail
          refine wp_region_grow (by kernel_rfl) (by kernel_rfl) ?_
          repeat (go_big_quiet_step (first | (go_at_call 46; exact quietG (HE _).out)))
          refine wpQuiet_endG ?_
          intro w2 hb2
          have HW := Lib.hid (Below.transB (Below.transB HB.out (Nat.le_refl _) HB1.out) (Nat.le_refl _) hb2)
          have BX2 := Lib.hid (BX1.out.below hb2)
          clear hb2
          go_wp2
          go_ret
          exact ⟨by rw [K2.out]; rfl, HW.out⟩
      · have q1f : evOk r.events[k] = false := by simpa using q1
        rw [q1f] at HE
        have K2 : Hid (recB r = false) := by show _ = _; rw [recB, K1.out, q1f]; simp
        clear K1 HC
        go_wp2_with fail
        refine wp_region_grow (by kernel_rfl) (by kernel_rfl) ?_
        repeat (go_big_quiet_step (first | (go_at_call 46; exact quietG (HE _).out)))
        refine wpQuiet_endG ?_
        intro w2 hb2
        have HW := Lib.hid (Below.transB (Below.transB HB.out (Nat.le_refl _) HB1.out) (Nat.le_refl _) hb2)
        have BX2 := Lib.hid (BX1.out.below hb2)
        clear hb2
        go_wp2
        go_ret
        exact ⟨by rw [K2.out]; rfl, HW.out⟩
    · have K2 : Hid (recB r = headR r) := by
        show _ = _; rw [recB, K.out, List.drop_of_length_le (by omega), evsB]; simp
      have HH : Hid (headR r = (inB r.id 1 999 && inB r.series 1 99 && inB r.made 0 20000 && decide ((r.events.length : Int) ≤ 6))) := rfl
      have HB := Lib.hid hb
      clear K hrr hb
      by_cases q1 : inB r.id 1 999 = true
      · by_cases q2 : inB r.series 1 99 = true
        · by_cases q3 : inB r.made 0 20000 = true
          · go_wp2_with (first
              | (go_at_call 15; refine (l1In_any _ _ _ _).mono ?_; rintro e w' ⟨rfl, rfl⟩; first | rw [q1] | rw [q2])
              | (go_at_call 47; refine (l2Day_any _ _).mono ?_; rintro e w' ⟨rfl, rfl⟩; rw [q3]))
            go_ret
            exact ⟨by rw [K2.out, HH.out, q1, q2, q3]; rfl, HB.out⟩
          · have q3' : inB r.made 0 20000 = false := by simpa using q3
            go_wp2_with (first
              | (go_at_call 15; refine (l1In_any _ _ _ _).mono ?_; rintro e w' ⟨rfl, rfl⟩; first | rw [q1] | rw [q2])
              | (go_at_call 47; refine (l2Day_any _ _).mono ?_; rintro e w' ⟨rfl, rfl⟩; rw [q3']))
            go_ret
            exact ⟨by rw [K2.out, HH.out, q3']; simp, HB.out⟩
        · have q2' : inB r.series 1 99 = false := by simpa using q2
          go_wp2_with (go_at_call 15; refine (l1In_any _ _ _ _).mono ?_; rintro e w' ⟨rfl, rfl⟩; first | rw [q1] | rw [q2'])
          go_ret
          exact ⟨by rw [K2.out, HH.out, q2']; simp, HB.out⟩
      · have q1' : inB r.id 1 999 = false := by simpa using q1
        go_wp2_with (go_at_call 15; refine (l1In_any _ _ _ _).mono ?_; rintro e w' ⟨rfl, rfl⟩; rw [q1'])
        go_ret
        exact ⟨by rw [K2.out, HH.out, q1']; simp, HB.out⟩

set_option maxHeartbeats 16000000 in
theorem implIsRecord_any (r : Rec) (A : Option Addr) (c : Nat) (hl : r.events.length ≤ 1048576) (w : World) (hr : Rd w 2 A r.events.length (cellsEvent r.events)) :
    Calls Try.prog 38 #[.agg #[.int .i64 r.id, .int .i64 r.series, .int .i64 r.made, .slice A r.events.length c]] w fun e w' => e = .returned (.bool (recB r)) ∧ Below w.heap.size w w' := by
  have HR := Lib.hid hr
  clear hr
  have BX0 := Lib.hid (Box.new w #[.int .i64 r.id, .int .i64 r.series, .int .i64 r.made, .slice A r.events.length c] 48)
  have B0 := Lib.hid (Below.alloc (Below.refl w.heap.size w) (Nat.le_refl _) (.cells #[.int .i64 r.id, .int .i64 r.series, .int .i64 r.made, .slice A r.events.length c] 48))
  have HH : Hid (headR r = (inB r.id 1 999 && inB r.series 1 99 && inB r.made 0 20000 && decide ((r.events.length : Int) ≤ 6))) := rfl
  by_cases hh : headR r = true
  · have hh2 := hh
    rw [HH.out] at hh2
    simp only [Bool.and_eq_true, decide_eq_true_eq] at hh2
    obtain ⟨⟨⟨q1, q2⟩, q3⟩, q4⟩ := hh2
    have HF : Hid (recB r = evsB r.made 0 r.events) := by show _ = _; rw [recB, hh]; simp
    have HHH := Lib.hid hh
    clear hh
    go_enter Try.func38, Try.ntmps38
    go_wp2_with (first
      | (go_at_call 23; refine (within_any _ _ _ _).mono ?_; rintro e w' ⟨rfl, rfl⟩; rw [q1])
      | (go_at_call 49; refine (isId_any _ _).mono ?_; rintro e w' ⟨rfl, rfl⟩; rw [q2])
      | (go_at_call 50; refine (isDay_any _ _).mono ?_; rintro e w' ⟨rfl, rfl⟩; rw [q3]))
    go_loopw [3, 30] (fun v3 v30 wr => ∃ k : Nat, k ≤ r.events.length ∧ v30 = .int .i64 k ∧ Below w.heap.size w wr ∧ Hid (Box wr w.heap.size [.int .i64 r.id, .int .i64 r.series, .int .i64 r.made, .slice A r.events.length c]) ∧ Hid (evsB r.made 0 r.events = evsB r.made (prevK r.events k) (r.events.drop k))) (fun _ v30 _ => r.events.length - (intOf v30).toNat)
    case atStart => exact ⟨0, Nat.zero_le _, rfl, B0.out, BX0, by show _ = _; rfl⟩
    case round =>
      clear B0 BX0
      obtain ⟨k, hk, rfl, hb, BX, K⟩ := hrel
      obtain ⟨x0, x1, x2, x3⟩ := BX.out.four
      have hrr := HR.out.below hb
      by_cases hlt : k < r.events.length
      · obtain ⟨gb, go, rfl, hgb, hcell⟩ := hrr.2 (by omega)
        obtain ⟨h0, h1⟩ := cellsEvent_at hcell hlt
        have HC := Lib.hid hcell
        have hlt' : ((k : Int) < (r.events.length : Int)) := by omega
        have K1 := Lib.hid (evsB_step hlt K.out)
        clear hrr hcell K
        have bx := Box.new wr #[.int .i64 r.events[k].kind, .int .i64 r.events[k].day] 66
        have hb1 : Below wr.heap.size wr (wr.alloc (.cells #[.int .i64 r.events[k].kind, .int .i64 r.events[k].day] 66)) := (Below.refl _ _).alloc (Nat.le_refl _) _
        have HB1 := Lib.hid hb1
        have HB := Lib.hid hb
        have b0 := bx.G 0 _ rfl
        have b1 := bx.G 1 _ rfl
        have BX1 := Lib.hid (BX.out.below hb1)
        have p2 := BX1.out.G 2 _ rfl
        have p3 := BX1.out.G 3 _ rfl
        clear bx hb1 hb
        have hE := isEvent_any r.events[k]
        unfold aggEvent at hE
        have HE := fun W => Lib.hid (hE W)
        clear hE
        by_cases q1 : evOk r.events[k] = true
        · have hpos := evOk_pos q1
          rw [q1] at HE
          by_cases q2 : r.made ≤ r.events[k].day
          · have d2 : decide (r.events[k].day < r.made) = false := by simp; omega
            by_cases hk0 : k = 0
            · have hp0 : prevK r.events k = 0 := by rw [hk0]; rfl
              have K2 : Hid (evsB r.made 0 r.events = evsB r.made (prevK r.events (k + 1)) (r.events.drop (k + 1))) := by
                show _ = _; rw [K1.out, q1, decide_eq_true q2, hp0, decide_eq_true hpos]; simp
              have hk1 : decide ((0 : Int) < (k : Int)) = false := by simp; omega
              have hk2 : decide (0 < k) = false := by simp; omega
              clear K1 HC q1 hp0 hk0
              go_wp2_with fail
              refine wp_region_grow (by kernel_rfl) (by kernel_rfl) ?_
              repeat (go_big_quiet_step (first | (go_at_call 51; exact quietG (HE _).out)))
              refine wpQuiet_endG ?_
              intro w2 hb2
              have HW := Lib.hid (Below.transB (Below.transB HB.out (Nat.le_refl _) HB1.out) (Nat.le_refl _) hb2)
              have BX2 := Lib.hid (BX1.out.below hb2)
              clear hb2
              go_wp2
              go_roundw
              case rel => exact ⟨k + 1, by omega, by go_num, HW.out, BX2, K2⟩
              case measure => simp [intOf]; omega
            · obtain ⟨m, rfl⟩ : ∃ m, k = m + 1 := ⟨k - 1, by omega⟩
              have hm : m < r.events.length := by omega
              obtain ⟨p1, _⟩ := cellsEvent_at HC.out hm
              have p4 := cellG (w := wr.alloc (.cells #[.int .i64 r.events[m + 1].kind, .int .i64 r.events[m + 1].day] 66)) (b := gb) (o := go + m * 2) (v := .int .i64 r.events[m].kind) (by simp; omega) ((HB1.out.cell (p := ⟨gb, go + m * 2, none⟩) hgb).trans p1)
              clear hk0 p1
              rw [prevK_succ r.events m hm] at K1
              by_cases q4 : r.events[m].kind < r.events[m + 1].kind
              · have K2 : Hid (evsB r.made 0 r.events = evsB r.made (prevK r.events (m + 1 + 1)) (r.events.drop (m + 1 + 1))) := by
                  show _ = _; rw [K1.out, q1, decide_eq_true q2, decide_eq_true q4]; simp
                clear K1 HC q1
                go_wp2_with fail
                refine wp_region_grow (by kernel_rfl) (by kernel_rfl) ?_
                repeat (go_big_quiet_step (first | (go_at_call 51; exact quietG (HE _).out)))
                refine wpQuiet_endG ?_
                intro w2 hb2
                have HW := Lib.hid (Below.transB (Below.transB HB.out (Nat.le_refl _) HB1.out) (Nat.le_refl _) hb2)
                have BX2 := Lib.hid (BX1.out.below hb2)
                clear hb2
                go_wp2
                go_roundw
                case rel => exact ⟨m + 1 + 1, by omega, by go_num, HW.out, BX2, K2⟩
                case measure => simp [intOf]; omega
              · have K2 : Hid (recB r = false) := by show _ = _; rw [recB, K1.out, decide_eq_false q4]; simp
                clear K1 HC q1
                go_wp2_with fail
                refine wp_region_grow (by kernel_rfl) (by kernel_rfl) ?_
                repeat (go_big_quiet_step (first | (go_at_call 51; exact quietG (HE _).out)))
                refine wpQuiet_endG ?_
                intro w2 hb2
                have HW := Lib.hid (Below.transB (Below.transB HB.out (Nat.le_refl _) HB1.out) (Nat.le_refl _) hb2)
                have BX2 := Lib.hid (BX1.out.below hb2)
                clear hb2
                go_wp2
                go_ret
                exact ⟨by rw [K2.out]; rfl, HW.out⟩
          · have d2 : decide (r.events[k].day < r.made) = true := by simp; omega
            have K2 : Hid (recB r = false) := by show _ = _; rw [recB, K1.out, decide_eq_false q2]; simp
            clear K1 HC
            clear q1
            go_wp2_with fail
            refine wp_region_grow (by kernel_rfl) (by kernel_rfl) ?_
            repeat (go_big_quiet_step (first | (go_at_call 51; exact quietG (HE _).out)))
            refine wpQuiet_endG ?_
            intro w2 hb2
            have HW := Lib.hid (Below.transB (Below.transB HB.out (Nat.le_refl _) HB1.out) (Nat.le_refl _) hb2)
            have BX2 := Lib.hid (BX1.out.below hb2)
            clear hb2
            go_wp2
            go_ret
            exact ⟨by rw [K2.out]; rfl, HW.out⟩
        · have q1f : evOk r.events[k] = false := by simpa using q1
          rw [q1f] at HE
          have K2 : Hid (recB r = false) := by show _ = _; rw [recB, K1.out, q1f]; simp
          clear K1 HC
          go_wp2_with fail
          refine wp_region_grow (by kernel_rfl) (by kernel_rfl) ?_
          repeat (go_big_quiet_step (first | (go_at_call 51; exact quietG (HE _).out)))
          refine wpQuiet_endG ?_
          intro w2 hb2
          have HW := Lib.hid (Below.transB (Below.transB HB.out (Nat.le_refl _) HB1.out) (Nat.le_refl _) hb2)
          have BX2 := Lib.hid (BX1.out.below hb2)
          clear hb2
          go_wp2
          go_ret
          exact ⟨by rw [K2.out]; rfl, HW.out⟩
      · have K2 : Hid (recB r = true) := by
          show _ = _; rw [HF.out, K.out, List.drop_of_length_le (by omega), evsB]
        have HB := Lib.hid hb
        clear K hrr hb
        go_wp2
        go_ret
        exact ⟨by rw [K2.out]; rfl, HB.out⟩
  · have K2 : Hid (recB r = false) := by show _ = _; rw [recB, show headR r = false by simpa using hh]; simp
    by_cases q1 : inB r.id 1 999 = true
    · by_cases q2 : inB r.series 1 99 = true
      · by_cases q3 : inB r.made 0 20000 = true
        · have q4 : ¬ (r.events.length : Int) ≤ 6 := fun q4 => hh (by rw [HH.out, q1, q2, q3, decide_eq_true q4]; rfl)
          clear hh HH
          go_enter Try.func38, Try.ntmps38
          go_wp2_with (first
            | (go_at_call 23; refine (within_any _ _ _ _).mono ?_; rintro e w' ⟨rfl, rfl⟩; rw [q1])
            | (go_at_call 49; refine (isId_any _ _).mono ?_; rintro e w' ⟨rfl, rfl⟩; rw [q2])
            | (go_at_call 50; refine (isDay_any _ _).mono ?_; rintro e w' ⟨rfl, rfl⟩; rw [q3]))
          go_ret
          exact ⟨by rw [K2.out]; rfl, B0.out⟩
        · have q3' : inB r.made 0 20000 = false := by simpa using q3
          clear hh HH
          go_enter Try.func38, Try.ntmps38
          go_wp2_with (first
            | (go_at_call 23; refine (within_any _ _ _ _).mono ?_; rintro e w' ⟨rfl, rfl⟩; rw [q1])
            | (go_at_call 49; refine (isId_any _ _).mono ?_; rintro e w' ⟨rfl, rfl⟩; rw [q2])
            | (go_at_call 50; refine (isDay_any _ _).mono ?_; rintro e w' ⟨rfl, rfl⟩; rw [q3']))
          go_ret
          exact ⟨by rw [K2.out]; rfl, B0.out⟩
      · have q2' : inB r.series 1 99 = false := by simpa using q2
        clear hh HH
        go_enter Try.func38, Try.ntmps38
        go_wp2_with (first
          | (go_at_call 23; refine (within_any _ _ _ _).mono ?_; rintro e w' ⟨rfl, rfl⟩; rw [q1])
          | (go_at_call 49; refine (isId_any _ _).mono ?_; rintro e w' ⟨rfl, rfl⟩; rw [q2']))
        go_ret
        exact ⟨by rw [K2.out]; rfl, B0.out⟩
    · have q1' : inB r.id 1 999 = false := by simpa using q1
      clear hh HH
      go_enter Try.func38, Try.ntmps38
      go_wp2_with (go_at_call 23; refine (within_any _ _ _ _).mono ?_; rintro e w' ⟨rfl, rfl⟩; rw [q1'])
      go_ret
      exact ⟨by rw [K2.out]; rfl, B0.out⟩

end Go.Proofs.Ytfkpjfohkkilmaa
