/-
  Chapter 15: the spans of a text, by the reference and by the program. Written by mk15c.py.
  Conditions: those written at each theorem.
-/
import Derived.Test.YtllnnkiehckegaaDoorP15a
import Derived.Test.YtllnnkiehckegaaDoorShSpan
namespace Go.Proofs.YtllnnkiehckegaaDoor
open Go.RowKit Go.BigFrame
set_option maxRecDepth 100000

/-- a span is one of a text of n bytes, behind p -/
def spOk (n p : Int) (s : Span) : Bool := inB s.hi 1 n && inB s.lo 0 (s.hi - 1) && inB s.reason 1 9 && decide (p ≤ s.lo)
def spansB (n : Int) : Int → List Span → Bool
  | _, [] => true
  | p, s :: r => spOk n p s && spansB n s.hi r
/-- where the span ahead of the k-th ends -/
def prevH (l : List Span) : Nat → Int
  | 0 => 0
  | k + 1 => ((l[k]?).map (·.hi)).getD 0
theorem prevH_succ (l : List Span) (k : Nat) (h : k < l.length) : prevH l (k + 1) = l[k].hi := by simp [prevH, h]
def goodT (t : ByteArray) (l : List Span) : Bool := spansB t.size 0 l && (textB t && decide ((l.length : Int) ≤ 8))
theorem spOk_alt {n p : Int} {s : Span} (hp : 0 ≤ p) : spOk n p s = (decide (p ≤ s.lo) && decide (s.lo < s.hi) && decide (s.hi ≤ n) && inB s.reason 1 9) := by
  unfold spOk inB
  generalize (decide (1 ≤ s.reason) && decide (s.reason ≤ 9)) = q
  by_cases h1 : p ≤ s.lo <;> by_cases h2 : s.lo < s.hi <;> by_cases h3 : s.hi ≤ n <;> cases q <;> simp [h1, h2, h3] <;> omega
theorem inB_iff {x a b : Int} : inB x a b = true ↔ a ≤ x ∧ x ≤ b := by simp [inB]
theorem spansB_step {n : Int} {l : List Span} {k : Nat} (h : k < l.length) (K : spansB n 0 l = spansB n (prevH l k) (l.drop k)) : spansB n 0 l = (spOk n (prevH l k) l[k] && spansB n (prevH l (k + 1)) (l.drop (k + 1))) := by
  rw [K, List.drop_eq_getElem_cons h, spansB, prevH_succ l k h]
theorem prevH_mem (l : List Span) : ∀ k, prevH l k = 0 ∨ ∃ s ∈ l, prevH l k = s.hi
  | 0 => .inl rfl
  | k + 1 => by
    by_cases h : k < l.length
    · exact .inr ⟨l[k], List.getElem_mem h, prevH_succ l k h⟩
    · exact .inl (by simp [prevH, h])

set_option maxHeartbeats 16000000 in
theorem l15Good_any (t : ByteArray) (l : List Span) (A : Option Addr) (c : Nat) (ht : t.size ≤ 1048576) (hl : l.length ≤ 1048576) (w : World) (hr : Rd w 3 A l.length (cellsSpan l)) :
    Calls Tryd.prog 23 #[.string t, .slice A l.length c] w fun e w' => e = .returned (.bool (goodT t l)) ∧ Below w.heap.size w w' := by
  have HE : Hid (goodT t l = (spansB t.size 0 l && (textB t && decide ((l.length : Int) ≤ 8)))) := rfl
  have HR := Lib.hid hr
  clear hr
  go_enter Tryd.func23, Tryd.ntmps23
  go_wp2
  go_loopw [5] (fun v wr => ∃ k : Nat, k ≤ l.length ∧ v = .int .i64 k ∧ Below w.heap.size w wr ∧ Hid (spansB t.size 0 l = spansB t.size (prevH l k) (l.drop k))) (fun v _ => l.length - (intOf v).toNat)
  case atStart => exact ⟨0, Nat.zero_le _, rfl, Below.refl _ _, by show _ = _; rfl⟩
  case round =>
    obtain ⟨k, hk, rfl, hb, K⟩ := hrel
    have hrr := HR.out.below hb
    by_cases hlt : k < l.length
    · obtain ⟨gb, go, rfl, hgb, hcell⟩ := hrr.2 (by omega)
      obtain ⟨h0, h1, h2⟩ := cellsSpan_at hcell hlt
      have HC := Lib.hid hcell
      have hlt' : ((k : Int) < (l.length : Int)) := by omega
      have K1 := Lib.hid (spansB_step hlt K.out)
      clear hrr hcell K
      have bx := Box.new wr #[.int .i64 l[k].lo, .int .i64 l[k].hi, .int .i64 l[k].reason] 45
      have hb1 : Below wr.heap.size wr (wr.alloc (.cells #[.int .i64 l[k].lo, .int .i64 l[k].hi, .int .i64 l[k].reason] 45)) := (Below.refl _ _).alloc (Nat.le_refl _) _
      have HB1 := Lib.hid hb1
      have HB := Lib.hid hb
      have b0 := bx.G 0 _ rfl
      have b1 := bx.G 1 _ rfl
      have b2 := bx.G 2 _ rfl
      clear bx hb1 hb
      have H1 := fun W => Lib.hid (l1In_any l[k].hi 1 t.size W)
      have H2 := fun W => Lib.hid (l1In_any l[k].lo 0 (l[k].hi - 1) W)
      have H3 := fun W => Lib.hid (l1In_any l[k].reason 1 9 W)
      have HO : Hid (spOk t.size (prevH l k) l[k] = (inB l[k].hi 1 t.size && inB l[k].lo 0 (l[k].hi - 1) && inB l[k].reason 1 9 && decide (prevH l k ≤ l[k].lo))) := rfl
      by_cases q1 : inB l[k].hi 1 t.size = true
      · have r1 := inB_iff.1 q1
        rw [q1] at H1
        by_cases q2 : inB l[k].lo 0 (l[k].hi - 1) = true
        · have r2 := inB_iff.1 q2
          rw [q2] at H2
          by_cases q3 : inB l[k].reason 1 9 = true
          · rw [q3] at H3
            by_cases hk0 : k = 0
            · have hp0 : prevH l k = 0 := by rw [hk0]; rfl
              have K2 : Hid (spansB t.size 0 l = spansB t.size (prevH l (k + 1)) (l.drop (k + 1))) := by
                show _ = _; rw [K1.out, HO.out, q1, q2, q3, hp0, decide_eq_true r2.1]; simp
              have hk1 : decide ((0 : Int) < (k : Int)) = false := by simp; omega
              have hk2 : decide (0 < k) = false := by simp; omega
              clear K1 HO HC q1 q2 q3 hp0 hk0
              go_wp2_with fail
              refine wp_region_grow (by kernel_rfl) (by kernel_rfl) ?_
              repeat (go_big_quiet_step (first | (go_at_call 24; first | with_reducible exact quietGs (H1 _).out | with_reducible exact quietGs (H2 _).out | with_reducible exact quietGs (H3 _).out)))
              refine wpQuiet_endG ?_
              intro w2 hb2
              have HW := Lib.hid (Below.transB (Below.transB HB.out (Nat.le_refl _) HB1.out) (Nat.le_refl _) hb2)
              clear hb2
              go_wp2
              go_roundw
              case rel => exact ⟨k + 1, by omega, by go_num, HW.out, K2⟩
              case measure => simp [intOf]; omega
            · obtain ⟨m, rfl⟩ : ∃ m, k = m + 1 := ⟨k - 1, by omega⟩
              have hm : m < l.length := by omega
              obtain ⟨_, p1, _⟩ := cellsSpan_at HC.out hm
              have p3 := cellG (w := wr.alloc (.cells #[.int .i64 l[m + 1].lo, .int .i64 l[m + 1].hi, .int .i64 l[m + 1].reason] 45)) (b := gb) (o := go + m * 3 + 1) (v := .int .i64 l[m].hi) (by simp; omega) ((HB1.out.cell (p := ⟨gb, go + m * 3 + 1, none⟩) hgb).trans p1)
              clear hk0 p1
              rw [prevH_succ l m hm] at HO
              by_cases q4 : l[m].hi ≤ l[m + 1].lo
              · have K2 : Hid (spansB t.size 0 l = spansB t.size (prevH l (m + 1 + 1)) (l.drop (m + 1 + 1))) := by
                  show _ = _; rw [K1.out, prevH_succ l m hm, HO.out, q1, q2, q3, decide_eq_true q4]; simp
                clear K1 HO HC q1 q2 q3
                go_wp2_with fail
                refine wp_region_grow (by kernel_rfl) (by kernel_rfl) ?_
                repeat (go_big_quiet_step (first | (go_at_call 24; first | with_reducible exact quietGs (H1 _).out | with_reducible exact quietGs (H2 _).out | with_reducible exact quietGs (H3 _).out)))
                refine wpQuiet_endG ?_
                intro w2 hb2
                have HW := Lib.hid (Below.transB (Below.transB HB.out (Nat.le_refl _) HB1.out) (Nat.le_refl _) hb2)
                clear hb2
                go_wp2
                go_roundw
                case rel => exact ⟨m + 1 + 1, by omega, by go_num, HW.out, K2⟩
                case measure => simp [intOf]; omega
              · have K2 : Hid (goodT t l = false) := by show _ = _; rw [HE.out, K1.out, prevH_succ l m hm, HO.out, decide_eq_false q4]; simp
                clear K1 HO HC q1 q2 q3
                go_wp2_with fail
                refine wp_region_grow (by kernel_rfl) (by kernel_rfl) ?_
                repeat (go_big_quiet_step (first | (go_at_call 24; first | with_reducible exact quietGs (H1 _).out | with_reducible exact quietGs (H2 _).out | with_reducible exact quietGs (H3 _).out)))
                refine wpQuiet_endG ?_
                intro w2 hb2
                have HW := Lib.hid (Below.transB (Below.transB HB.out (Nat.le_refl _) HB1.out) (Nat.le_refl _) hb2)
                clear hb2
                go_wp2
                go_ret
                exact ⟨by rw [K2.out]; rfl, HW.out⟩
          · have q3f : inB l[k].reason 1 9 = false := by simpa using q3
            rw [q3f] at H3
            have K2 : Hid (goodT t l = false) := by show _ = _; rw [HE.out, K1.out, HO.out, q3f]; simp
            clear K1 HO HC
            go_wp2_with fail
            refine wp_region_grow (by kernel_rfl) (by kernel_rfl) ?_
            repeat (go_big_quiet_step (first | (go_at_call 24; first | with_reducible exact quietGs (H1 _).out | with_reducible exact quietGs (H2 _).out | with_reducible exact quietGs (H3 _).out)))
            refine wpQuiet_endG ?_
            intro w2 hb2
            have HW := Lib.hid (Below.transB (Below.transB HB.out (Nat.le_refl _) HB1.out) (Nat.le_refl _) hb2)
            clear hb2
            go_wp2
            go_ret
            exact ⟨by rw [K2.out]; rfl, HW.out⟩
        · have q2f : inB l[k].lo 0 (l[k].hi - 1) = false := by simpa using q2
          rw [q2f] at H2
          have K2 : Hid (goodT t l = false) := by show _ = _; rw [HE.out, K1.out, HO.out, q2f]; simp
          clear K1 HO HC
          go_wp2_with fail
          refine wp_region_grow (by kernel_rfl) (by kernel_rfl) ?_
          repeat (go_big_quiet_step (first | (go_at_call 24; first | with_reducible exact quietGs (H1 _).out | with_reducible exact quietGs (H2 _).out | with_reducible exact quietGs (H3 _).out)))
          refine wpQuiet_endG ?_
          intro w2 hb2
          have HW := Lib.hid (Below.transB (Below.transB HB.out (Nat.le_refl _) HB1.out) (Nat.le_refl _) hb2)
          clear hb2
          go_wp2
          go_ret
          exact ⟨by rw [K2.out]; rfl, HW.out⟩
      · have q1f : inB l[k].hi 1 t.size = false := by simpa using q1
        rw [q1f] at H1
        have K2 : Hid (goodT t l = false) := by show _ = _; rw [HE.out, K1.out, HO.out, q1f]; simp
        clear K1 HO HC
        go_wp2_with fail
        refine wp_region_grow (by kernel_rfl) (by kernel_rfl) ?_
        repeat (go_big_quiet_step (first | (go_at_call 24; first | with_reducible exact quietGs (H1 _).out | with_reducible exact quietGs (H2 _).out | with_reducible exact quietGs (H3 _).out)))
        refine wpQuiet_endG ?_
        intro w2 hb2
        have HW := Lib.hid (Below.transB (Below.transB HB.out (Nat.le_refl _) HB1.out) (Nat.le_refl _) hb2)
        clear hb2
        go_wp2
        go_ret
        exact ⟨by rw [K2.out]; rfl, HW.out⟩
    · have K2 : Hid (goodT t l = (textB t && decide ((l.length : Int) ≤ 8))) := by
        show _ = _; rw [HE.out, K.out, List.drop_of_length_le (by omega), spansB]; simp
      clear K hrr
      have HB := Lib.hid hb
      clear hb
      by_cases q : textB t = true
      · go_wp2_with (go_at_call 32; refine (l15Text_any t (by omega) _).mono ?_; rintro e w' ⟨rfl, rfl⟩; rw [q])
        go_ret
        exact ⟨by rw [K2.out, q]; rfl, HB.out⟩
      · have q' : textB t = false := by simpa using q
        go_wp2_with (go_at_call 32; refine (l15Text_any t (by omega) _).mono ?_; rintro e w' ⟨rfl, rfl⟩; rw [q'])
        go_ret
        exact ⟨by rw [K2.out, q']; rfl, HB.out⟩


theorem isReason_any (x : Int) (w : World) :
    Calls Tryd.prog 27 #[.int .i64 x] w fun e w' => e = .returned (.bool (inB x 1 9)) ∧ w = w' := by
  go_enter Tryd.func27, Tryd.ntmps27
  go_wp2_with (go_at_call 46; refine (within_any _ _ _ _).mono ?_; rintro e w' ⟨rfl, rfl⟩)
  go_ret
  exact ⟨rfl, rfl⟩

set_option maxHeartbeats 2000000 in
theorem implAreSpans_any (t : ByteArray) (l : List Span) (A : Option Addr) (c : Nat) (ht : t.size ≤ 1048576) (hl : l.length ≤ 1048576) (w : World) (hr : Rd w 3 A l.length (cellsSpan l)) :
    Calls Tryd.prog 26 #[.string t, .slice A l.length c] w fun e w' => e = .returned (.bool (goodT t l)) ∧ Below w.heap.size w w' := by
  have HE : Hid (goodT t l = (spansB t.size 0 l && (textB t && decide ((l.length : Int) ≤ 8)))) := rfl
  have HT := Lib.hid (implIsText_any t (by omega) w)
  have HR := Lib.hid hr
  clear hr
  by_cases q : textB t = true
  · rw [q] at HT
    by_cases h8 : (l.length : Int) ≤ 8
    · have HF : Hid (goodT t l = spansB t.size 0 l) := by show _ = _; rw [HE.out, q, decide_eq_true h8]; simp
      clear HE q
      go_enter Tryd.func26, Tryd.ntmps26
      go_wp2_with fail
      refine HT.out.mono ?_
      rintro e w1 ⟨rfl, hb1⟩
      have B1 := Lib.hid hb1
      clear hb1
      go_wp2
      go_loopw [5, 18] (fun v5 v18 wr => ∃ k : Nat, k ≤ l.length ∧ v18 = .int .i64 k ∧ v5 = .int .i64 (prevH l k) ∧ 0 ≤ prevH l k ∧ Below w.heap.size w wr ∧ Hid (spansB t.size 0 l = spansB t.size (prevH l k) (l.drop k))) (fun _ v18 _ => l.length - (intOf v18).toNat)
      case atStart => exact ⟨0, Nat.zero_le _, rfl, rfl, Int.le_refl 0, B1.out, by show _ = _; rfl⟩
      case round =>
        obtain ⟨k, hk, rfl, rfl, hp, hb, K⟩ := hrel
        by_cases hlt : k < l.length
        · obtain ⟨gb, go, rfl, hgb, hcell⟩ := (HR.out.below hb).2 (by omega)
          obtain ⟨h0, h1, h2⟩ := cellsSpan_at hcell hlt
          clear hcell
          have hlt' : ((k : Int) < (l.length : Int)) := by omega
          have K1 := Lib.hid (spansB_step hlt K.out)
          have hn := prevH_succ l k hlt
          have HO := Lib.hid (spOk_alt (n := (t.size : Int)) (s := l[k]) hp)
          have HB := Lib.hid (Below.alloc hb hb.size (.cells #[.int .i64 l[k].lo, .int .i64 l[k].hi, .int .i64 l[k].reason] 45))
          clear K hb
          generalize prevH l k = p at hp K1 HO
          by_cases q1 : p ≤ l[k].lo
          · by_cases q2 : l[k].lo < l[k].hi
            · by_cases q3 : l[k].hi ≤ (t.size : Int)
              · by_cases q4 : inB l[k].reason 1 9 = true
                · have K2 : Hid (spansB t.size 0 l = spansB t.size (prevH l (k + 1)) (l.drop (k + 1))) := by
                    show _ = _; rw [K1.out, HO.out, decide_eq_true q1, decide_eq_true q2, decide_eq_true q3, q4]; simp
                  have hp2 : Hid (0 ≤ prevH l (k + 1)) := Lib.hid (by rw [hn]; omega)
                  have HN := Lib.hid hn
                  clear K1 HO hn
                  go_wp2_with (go_at_call 27; refine (isReason_any _ _).mono ?_; rintro e w' ⟨rfl, rfl⟩; rw [q4])
                  go_roundw
                  case rel => exact ⟨k + 1, by omega, by go_num, by rw [HN.out], hp2.out, HB.out, K2⟩
                  case measure => simp [intOf]; omega
                · have q4' : inB l[k].reason 1 9 = false := by simpa using q4
                  have K2 : Hid (goodT t l = false) := by show _ = _; rw [HF.out, K1.out, HO.out, q4']; simp
                  clear K1 HO hn
                  go_wp2_with (go_at_call 27; refine (isReason_any _ _).mono ?_; rintro e w' ⟨rfl, rfl⟩; rw [q4'])
                  go_ret
                  exact ⟨by rw [K2.out]; rfl, HB.out⟩
              · have K2 : Hid (goodT t l = false) := by show _ = _; rw [HF.out, K1.out, HO.out, decide_eq_false q3]; simp
                clear K1 HO hn
                go_wp2
                go_ret
                exact ⟨by rw [K2.out]; rfl, HB.out⟩
            · have K2 : Hid (goodT t l = false) := by show _ = _; rw [HF.out, K1.out, HO.out, decide_eq_false q2]; simp
              clear K1 HO hn
              go_wp2
              go_ret
              exact ⟨by rw [K2.out]; rfl, HB.out⟩
          · have K2 : Hid (goodT t l = false) := by show _ = _; rw [HF.out, K1.out, HO.out, decide_eq_false q1]; simp
            clear K1 HO hn
            go_wp2
            go_ret
            exact ⟨by rw [K2.out]; rfl, HB.out⟩
        · have K2 : Hid (goodT t l = true) := by
            show _ = _; rw [HF.out, K.out, List.drop_of_length_le (by omega), spansB]
          clear K
          go_wp2
          go_ret
          exact ⟨by rw [K2.out]; rfl, hb⟩
    · have K2 : Hid (goodT t l = false) := by show _ = _; rw [HE.out, decide_eq_false h8]; simp
      clear HE q
      go_enter Tryd.func26, Tryd.ntmps26
      go_wp2_with fail
      refine HT.out.mono ?_
      rintro e w1 ⟨rfl, hb1⟩
      go_wp2
      go_ret
      exact ⟨by rw [K2.out]; rfl, hb1⟩
  · have q' : textB t = false := by simpa using q
    rw [q'] at HT
    have K2 : Hid (goodT t l = false) := by show _ = _; rw [HE.out, q']; simp
    clear HE q q'
    go_enter Tryd.func26, Tryd.ntmps26
    go_wp2_with fail
    refine HT.out.mono ?_
    rintro e w1 ⟨rfl, hb1⟩
    go_wp2
    go_ret
    exact ⟨by rw [K2.out]; rfl, hb1⟩

end Go.Proofs.YtllnnkiehckegaaDoor
