/-
  Chapter 15: spans that touch, merged, by the program and by the reference. Written by mk15k.py.
  Conditions: those written at each theorem.
-/
import Derived.Test.YtfbcdjggnoidbaaDoorP15d
import Derived.StillTailTactics
namespace Go.Proofs.YtfbcdjggnoidbaaDoor
open Go.RowKit Go.BigFrame
set_option maxRecDepth 100000

def mergeF : List Span → Option Span → List Span → List Span
  | a, none, [] => a
  | a, some x, [] => a ++ [x]
  | a, none, s :: r => mergeF a (some s) r
  | a, some x, s :: r => if x.hi = s.lo ∧ x.reason = s.reason then mergeF a (some ⟨x.lo, s.hi, s.reason⟩) r else mergeF (a ++ [x]) (some s) r
theorem len_merge : ∀ (r a : List Span) (ox : Option Span), (mergeF a ox r).length ≤ a.length + 1 + r.length
  | [], a, none => by simp [mergeF]
  | [], a, some x => by simp [mergeF]
  | s :: r, a, none => by rw [mergeF]; have := len_merge r a (some s); simp; omega
  | s :: r, a, some x => by
    rw [mergeF]; split
    · have := len_merge r a (some ⟨x.lo, s.hi, s.reason⟩); simp; omega
    · have := len_merge r (a ++ [x]) (some s); simp at this ⊢; omega
def msOut (t : ByteArray) (l : List Span) : List Span := if goodT t l = true then mergeF [] none l else []
theorem len_ms (t : ByteArray) (l : List Span) : (msOut t l).length ≤ 9 := by
  unfold msOut; split
  · rename_i h
    have := (goodT_true h).2.2
    have := len_merge l [] none
    simp at this
    omega
  · simp
theorem mset1 (a : List Span) (x : Span) (v : Int) : (cellsSpan (a ++ [x])).set (a.length * 3 + 1) (.int .i64 v) = cellsSpan (a ++ [⟨x.lo, v, x.reason⟩]) := by
  rw [cellsSpan_append, cellsSpan_append, List.set_append_right _ _ (by rw [len_cellsSpan]; omega), len_cellsSpan, show a.length * 3 + 1 - a.length * 3 = 1 by omega]; rfl
theorem mset3 (a : List Span) (x : Span) (u v z : Int) : (((cellsSpan (a ++ [x])).set (a.length * 3) (.int .i64 u)).set (a.length * 3 + 1) (.int .i64 v)).set (a.length * 3 + 2) (.int .i64 z) = cellsSpan (a ++ [⟨u, v, z⟩]) := by
  rw [cellsSpan_append, cellsSpan_append, List.set_append_right _ _ (by rw [len_cellsSpan]; omega), List.set_append_right _ _ (by rw [len_cellsSpan]; omega), List.set_append_right _ _ (by rw [len_cellsSpan]; omega), len_cellsSpan,
    show a.length * 3 - a.length * 3 = 0 by omega, show a.length * 3 + 1 - a.length * 3 = 1 by omega, show a.length * 3 + 2 - a.length * 3 = 2 by omega]; rfl
theorem last_at {w : World} {a : List Span} {x : Span} {g c base : Nat} {e : TypeId} (h : w.ownsRow base e 3 (.slice (some ⟨g, 0, none⟩) (a.length + 1) c) (a.length + 1) (cellsSpan (a ++ [x]))) :
    w.cell? ⟨g, a.length * 3, none⟩ = some (.int .i64 x.lo) ∧ w.cell? ⟨g, a.length * 3 + 1, none⟩ = some (.int .i64 x.hi) ∧ w.cell? ⟨g, a.length * 3 + 2, none⟩ = some (.int .i64 x.reason) := by
  obtain ⟨gb, go, he, hgb, hcell⟩ := (Rd.of_own h).2 (by omega)
  cases he
  obtain ⟨q0, q1, q2⟩ := cellsSpan_at hcell (k := a.length) (by simp)
  rw [Nat.zero_add] at q0 q1 q2
  have e : (a ++ [x])[a.length]'(by simp) = x := by simp
  rw [e] at q0 q1 q2
  exact ⟨q0, q1, q2⟩
theorem span_snoc (a : List Span) (x s : Span) : cellsSpan (a ++ [x]) ++ [.int .i64 s.lo, .int .i64 s.hi, .int .i64 s.reason] = cellsSpan (a ++ [x] ++ [s]) := by
  rw [cellsSpan_append (a ++ [x])]; rfl

set_option maxHeartbeats 16000000 in
theorem implMergeSpans_any (t : ByteArray) (l : List Span) (A : Option Addr) (c : Nat) (ht : t.size ≤ 1048576) (hl : l.length ≤ 1048576) (w : World) (hr : Rd w 3 A l.length (cellsSpan l)) :
    Calls Tryd.prog 23 #[.string t, .slice A l.length c] w fun e w' => ∃ v, e = .returned (.tuple #[v, .bool (goodT t l)]) ∧ SlSpan w.heap.size w' (msOut t l) v ∧ Below w.heap.size w w' := by
  obtain ⟨i0, hi, hz0, hz1, hz2⟩ := info_parts infoSpan
  have HI := fun W k => Lib.hid (implAreSpans_any t l A c ht hl W k)
  have HR := Lib.hid hr
  clear hr
  have B0 := Lib.hid (Below.refl w.heap.size w)
  by_cases h1 : goodT t l = true
  · have e1 : Hid (msOut t l = mergeF [] none l) := if_pos h1
    have G1 := Lib.hid h1
    have hl8 := (goodT_true h1).2.2
    rw [h1] at HI
    clear h1
    go_enter Tryd.func23, Tryd.ntmps23
    go_wp2_with fail
    refine (HI _ (HR.out.below B0.out)).out.mono ?_
    rintro e w1 ⟨rfl, hb1⟩
    have B1 := Lib.hid (Below.transB B0.out (Nat.le_refl _) hb1)
    have O1 : Hid (w1.ownsRow w.heap.size 53 3 (.slice none 0 0) 0 []) := Lib.hid (World.ownsRow_nil _ _ _ _)
    clear hb1
    go_wp2_with fail
    go_loopw [6, 9, 16] (fun v6 v9 v16 wr => ∃ k : Nat, k ≤ l.length ∧ v16 = .int .i64 k ∧ Below w.heap.size w wr ∧
      ((∃ A' c', v6 = .slice A' 0 c' ∧ wr.ownsRow w.heap.size 53 3 (.slice A' 0 c') 0 [] ∧ Hid (mergeF [] none l = mergeF [] none (l.drop k))) ∨
       (∃ (a : List Span) (x : Span) (g c' : Nat), v6 = .slice (some ⟨g, 0, none⟩) (a.length + 1) c' ∧ a.length < k ∧ wr.ownsRow w.heap.size 53 3 (.slice (some ⟨g, 0, none⟩) (a.length + 1) c') (a.length + 1) (cellsSpan (a ++ [x])) ∧ Hid (mergeF [] none l = mergeF a (some x) (l.drop k))))) (fun _ _ v16 _ => l.length - (intOf v16).toNat)
    case atStart => exact ⟨0, Nat.zero_le _, rfl, B1.out, .inl ⟨_, _, rfl, O1.out, by show _ = _; rfl⟩⟩
    case round =>
      clear B1 O1 HI
      obtain ⟨k, hk, rfl, hb, ⟨A', c', rfl, hown, K⟩ | ⟨a, x, g, c', rfl, hak, hown, K⟩⟩ := hrel
      · by_cases hlt : k < l.length
        · obtain ⟨gb, go, rfl, hgb, hcell⟩ := (HR.out.below hb).2 (by omega)
          obtain ⟨h0, h1, h2⟩ := cellsSpan_at hcell hlt
          clear hcell
          have hlt' : ((k : Int) < (l.length : Int)) := by omega
          have K1 := K.out
          rw [List.drop_eq_getElem_cons hlt, mergeF] at K1
          have HK := Lib.hid K1
          have hs0 := hb.size
          have hb1 := Below.alloc hb hs0 (.cells #[.int .i64 l[k].lo, .int .i64 l[k].hi, .int .i64 l[k].reason] 53)
          have HB1 := Lib.hid hb1
          have bx := Box.new wr #[.int .i64 l[k].lo, .int .i64 l[k].hi, .int .i64 l[k].reason] 53
          have hbx : Below wr.heap.size wr (wr.alloc (.cells #[.int .i64 l[k].lo, .int .i64 l[k].hi, .int .i64 l[k].reason] 53)) := (Below.refl _ _).alloc (Nat.le_refl _) _
          have HO1 := Lib.hid (own_below hown hbx)
          have p0 := bx.G 0 _ rfl
          have p1 := bx.G 1 _ rfl
          have p2 := bx.G 2 _ rfl
          clear hb hown K K1
          go_wp2_with fail
          refine wp_region_grow (by kernel_rfl) (by kernel_rfl) ?_
          repeat (go_big_quiet_step (fail))
          refine wpQuiet_endG ?_
          intro w2 hb2
          have HB2 := Lib.hid (Below.transB HB1.out (Nat.le_refl _) hb2)
          have hs2 := HB2.out.size
          have HO2 := Lib.hid (own_below HO1.out hb2)
          obtain ⟨m0, m1, m2⟩ := (bx.below hb2).three
          clear hb2 h0 h1 h2 p0 p1 p2 bx hbx hb1
          go_wp2_with (at_builtin; refine wpList_pushG rfl _ _ 26 rfl w.heap.size 53 i0 (.agg #[.int .i64 0, .int .i64 0, .int .i64 0]) 3 24 Tryd.underlying26 hi hz0 hz1 hz2 rfl (by decide) (by decide) _ _ _ _ rfl HO2.out #[.int .i64 l[k].lo, .int .i64 l[k].hi, .int .i64 l[k].reason] _ _ rfl (by simp) rfl (by simp [Value.oneCell']) (by omega) hs2 ?_; intro A5 c5 w5 hown5 hg5 hpl5)
          obtain ⟨g5, hg5'⟩ := own_some hown5 (by omega)
          subst hg5'
          go_roundw
          case rel => exact ⟨k + 1, by omega, by go_num, Below.row HB2.out HO2.out hg5 (Nat.le_refl _) hs2, .inr ⟨[], l[k], g5, c5, rfl, by simp, by simpa [cellsSpan, cellSpan] using hown5, HK⟩⟩
          case measure => simp [intOf]; omega
        · have K2 : Hid (mergeF [] none l = []) := by show _ = _; rw [K.out, List.drop_of_length_le (by omega), mergeF]
          have HO := Lib.hid hown
          have HB := Lib.hid hb
          clear K hown hb
          go_wp2
          go_ret2
          exact ⟨_, by rw [G1.out]; rfl, by rw [e1.out, K2.out]; exact ⟨A', c', rfl, HO.out⟩, HB.out⟩
      · by_cases hlt : k < l.length
        · obtain ⟨gb, go, rfl, hgb, hcell⟩ := (HR.out.below hb).2 (by omega)
          obtain ⟨h0, h1, h2⟩ := cellsSpan_at hcell hlt
          clear hcell
          have hlt' : ((k : Int) < (l.length : Int)) := by omega
          have K1 := K.out
          rw [List.drop_eq_getElem_cons hlt, mergeF] at K1
          have hs0 := hb.size
          have hgw : w.heap.size ≤ g := (hown.lt g rfl).1
          have hb1 := Below.alloc hb hs0 (.cells #[.int .i64 l[k].lo, .int .i64 l[k].hi, .int .i64 l[k].reason] 53)
          have HB1 := Lib.hid hb1
          have bx := Box.new wr #[.int .i64 l[k].lo, .int .i64 l[k].hi, .int .i64 l[k].reason] 53
          have hbx : Below wr.heap.size wr (wr.alloc (.cells #[.int .i64 l[k].lo, .int .i64 l[k].hi, .int .i64 l[k].reason] 53)) := (Below.refl _ _).alloc (Nat.le_refl _) _
          have HO1 := Lib.hid (own_below hown hbx)
          have p0 := bx.G 0 _ rfl
          have p1 := bx.G 1 _ rfl
          have p2 := bx.G 2 _ rfl
          obtain ⟨r0, r1, r2⟩ := last_at HO1.out
          have hg1 := (HO1.out.lt g rfl).2
          have z0 := cellG (b := g) (o := a.length * 3) (v := .int .i64 x.lo) hg1 r0
          have z1 := cellG (b := g) (o := a.length * 3 + 1) (v := .int .i64 x.hi) hg1 r1
          have z2 := cellG (b := g) (o := a.length * 3 + 2) (v := .int .i64 x.reason) hg1 r2
          clear hb hown K r0 r1 r2
          by_cases q1 : x.hi = l[k].lo
          · by_cases q2 : x.reason = l[k].reason
            · rw [if_pos ⟨q1, q2⟩] at K1
              rw [← q2] at K1
              have HK := Lib.hid K1
              have b1 : (x.hi == l[k].lo) = true := by simpa using q1
              have b2 : (x.reason == l[k].reason) = true := by simpa using q2
              clear K1 q1
              clear q2
              go_wp2_with fail
              refine wp_region_grow (by kernel_rfl) (by kernel_rfl) ?_
              repeat (go_big_quiet_step (fail))
              refine wpQuiet_endG ?_
              intro w2 hb2
              have HB2 := Lib.hid (Below.transB HB1.out (Nat.le_refl _) hb2)
              have hs2 := HB2.out.size
              have HO2 := Lib.hid (own_below HO1.out hb2)
              obtain ⟨m0, m1, m2⟩ := (bx.below hb2).three
              clear hb2 h0 h1 h2 p0 p1 p2 bx hbx hb1
              clear z0 z1 z2
              obtain ⟨_, f1⟩ := own_has HO2.out (a.length * 3 + 1) (by omega)
              obtain ⟨r0, r1, r2⟩ := last_at HO2.out
              have HS := (HO2.out.stored (a.length * 3 + 1) (.int .i64 l[k].hi)).1
              rw [mset1] at HS
              have HOf := Lib.hid HS
              have HBf := Lib.hid (HB2.out.setCell (p := ⟨g, a.length * 3 + 1, none⟩) hgw (.int .i64 l[k].hi))
              clear HS
              go_wp2
              go_roundw
              case rel => exact ⟨k + 1, by omega, by go_num, HBf.out, .inr ⟨a, _, g, c', rfl, by omega, HOf.out, HK⟩⟩
              case measure => simp [intOf]; omega
            · rw [if_neg fun h => q2 h.2] at K1
              have HK := Lib.hid K1
              have b1 : (x.hi == l[k].lo) = true := by simpa using q1
              have b2 : (x.reason == l[k].reason) = false := by simpa using q2
              clear K1 q1 q2
              go_wp2_with fail
              refine wp_region_grow (by kernel_rfl) (by kernel_rfl) ?_
              repeat (go_big_quiet_step (fail))
              refine wpQuiet_endG ?_
              intro w2 hb2
              have HB2 := Lib.hid (Below.transB HB1.out (Nat.le_refl _) hb2)
              have hs2 := HB2.out.size
              have HO2 := Lib.hid (own_below HO1.out hb2)
              obtain ⟨m0, m1, m2⟩ := (bx.below hb2).three
              clear hb2 h0 h1 h2 p0 p1 p2 bx hbx hb1
              clear z0 z1 z2
              go_wp2_with (at_builtin; refine wpList_pushG rfl _ _ 26 rfl w.heap.size 53 i0 (.agg #[.int .i64 0, .int .i64 0, .int .i64 0]) 3 24 Tryd.underlying26 hi hz0 hz1 hz2 rfl (by decide) (by decide) _ _ _ _ rfl HO2.out #[.int .i64 l[k].lo, .int .i64 l[k].hi, .int .i64 l[k].reason] _ _ rfl (by simp) rfl (by simp [Value.oneCell']) (by omega) hs2 ?_; intro A5 c5 w5 hown5 hg5 hpl5)
              obtain ⟨g5, hg5'⟩ := own_some hown5 (by omega)
              subst hg5'
              have hf : w5.ownsRow w.heap.size 53 3 (.slice (some ⟨g5, 0, none⟩) ((a ++ [x]).length + 1) c5) ((a ++ [x]).length + 1) (cellsSpan (a ++ [x] ++ [l[k]])) := by
                rw [← span_snoc]; simpa using hown5
              go_roundw
              case rel => exact ⟨k + 1, by omega, by go_num, Below.row HB2.out HO2.out hg5 (Nat.le_refl _) hs2, .inr ⟨a ++ [x], l[k], g5, c5, by simp, by simp; omega, hf, HK⟩⟩
              case measure => simp [intOf]; omega
          · rw [if_neg fun h => q1 h.1] at K1
            have HK := Lib.hid K1
            have b1 : (x.hi == l[k].lo) = false := by simpa using q1
            clear K1 q1
            go_wp2_with fail
            refine wp_region_grow (by kernel_rfl) (by kernel_rfl) ?_
            repeat (go_big_quiet_step (fail))
            refine wpQuiet_endG ?_
            intro w2 hb2
            have HB2 := Lib.hid (Below.transB HB1.out (Nat.le_refl _) hb2)
            have hs2 := HB2.out.size
            have HO2 := Lib.hid (own_below HO1.out hb2)
            obtain ⟨m0, m1, m2⟩ := (bx.below hb2).three
            clear hb2 h0 h1 h2 p0 p1 p2 bx hbx hb1
            clear z0 z1 z2
            go_wp2_with (at_builtin; refine wpList_pushG rfl _ _ 26 rfl w.heap.size 53 i0 (.agg #[.int .i64 0, .int .i64 0, .int .i64 0]) 3 24 Tryd.underlying26 hi hz0 hz1 hz2 rfl (by decide) (by decide) _ _ _ _ rfl HO2.out #[.int .i64 l[k].lo, .int .i64 l[k].hi, .int .i64 l[k].reason] _ _ rfl (by simp) rfl (by simp [Value.oneCell']) (by omega) hs2 ?_; intro A5 c5 w5 hown5 hg5 hpl5)
            obtain ⟨g5, hg5'⟩ := own_some hown5 (by omega)
            subst hg5'
            have hf : w5.ownsRow w.heap.size 53 3 (.slice (some ⟨g5, 0, none⟩) ((a ++ [x]).length + 1) c5) ((a ++ [x]).length + 1) (cellsSpan (a ++ [x] ++ [l[k]])) := by
              rw [← span_snoc]; simpa using hown5
            go_roundw
            case rel => exact ⟨k + 1, by omega, by go_num, Below.row HB2.out HO2.out hg5 (Nat.le_refl _) hs2, .inr ⟨a ++ [x], l[k], g5, c5, by simp, by simp; omega, hf, HK⟩⟩
            case measure => simp [intOf]; omega
        · have K2 : Hid (mergeF [] none l = a ++ [x]) := by show _ = _; rw [K.out, List.drop_of_length_le (by omega), mergeF]
          have HO := Lib.hid hown
          have HB := Lib.hid hb
          clear K hown hb
          go_wp2
          go_ret2
          exact ⟨_, by rw [G1.out]; rfl, by rw [e1.out, K2.out]; exact ⟨some ⟨g, 0, none⟩, c', by first | (simp; done) | (simp; rfl), by simpa using HO.out⟩, HB.out⟩
  · have e1 : Hid (msOut t l = []) := if_neg h1
    have h1' : goodT t l = false := by simpa using h1
    rw [h1'] at HI
    have G1 := Lib.hid h1'
    clear h1 h1'
    go_enter Tryd.func23, Tryd.ntmps23
    go_wp2_with fail
    refine (HI _ (HR.out.below B0.out)).out.mono ?_
    rintro e w1 ⟨rfl, hb1⟩
    have B1 := Lib.hid (Below.transB B0.out (Nat.le_refl _) hb1)
    have O1 : Hid (w1.ownsRow w.heap.size 53 3 (.slice none 0 0) 0 []) := Lib.hid (World.ownsRow_nil _ _ _ _)
    clear hb1
    go_wp2
    go_ret2
    exact ⟨_, by rw [G1.out]; rfl, by rw [e1.out]; exact ⟨_, _, rfl, O1.out⟩, B1.out⟩

end Go.Proofs.YtfbcdjggnoidbaaDoor
