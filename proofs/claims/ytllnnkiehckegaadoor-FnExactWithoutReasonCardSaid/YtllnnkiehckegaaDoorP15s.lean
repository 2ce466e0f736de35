/-
  Spans without a reason, by the program and by the reference.
  Conditions: those written at each theorem.
-/
import Derived.Test.YtllnnkiehckegaaDoorP15r
namespace Go.Proofs.YtllnnkiehckegaaDoor
open Go.RowKit Go.BigFrame
set_option maxRecDepth 100000

def woOk (t : ByteArray) (l : List Span) (r : Int) : Bool := goodT t l && inB r 1 9
def woOut (t : ByteArray) (l : List Span) (r : Int) : List Span := if woOk t l r = true then l.filter (fun s => !(s.reason == r)) else []
theorem len_wo (t : ByteArray) (l : List Span) (r : Int) (hl : l.length ≤ 1048576) : (woOut t l r).length ≤ 1048576 := by
  unfold woOut; split
  · exact Nat.le_trans (List.length_filter_le _ _) hl
  · simp

theorem deleteFuncSpan_nil (A : Option Addr) (c : Nat) (F : Nat) (caps : Array Value) (w : World) (hF : ∀ (args : Array Value) (w : World), (callFunc F args).run Tryd.prog w = .ok (Next.enter F args) w) :
    Calls Tryd.prog 28 #[.slice A 0 c, .func (.func F) #[] caps] w fun e w' => e = .returned (.slice A 0 c) ∧ Below w.heap.size w w' := by
  have HI := Lib.hid (indexFuncSpan_any [] A c F caps (fun _ => false) w ⟨by simp [cellsSpan], fun h => absurd h (by simp)⟩ (by simp) hF (Lib.hid (fun p w1 hp _ => by cases hp)))
  go_enter Tryd.func28, Tryd.ntmps28
  go_wp2_with (go_at_call 47; refine HI.out.mono ?_; rintro e w1 ⟨rfl, hb1⟩)
  go_ret
  exact ⟨rfl, hb1⟩

theorem wo1_any (x : Span) (r : Int) (b : Nat) (w : World) (hc : w.cell? ⟨b, 0, none⟩ = some (.int .i64 r)) :
    Calls Tryd.prog 30 (#[.agg #[.int .i64 x.lo, .int .i64 x.hi, .int .i64 x.reason]] ++ #[.pointer (some ⟨b, 0, none⟩)]) w fun e w' => e = .returned (.bool (x.reason == r)) ∧ Below w.heap.size w w' := by
  have hb : b < w.heap.size := by
    rcases Nat.lt_or_ge b w.heap.size with h | h
    · exact h
    · simp [World.cell?, Array.getElem?_eq_none h] at hc
  have hbx : Below w.heap.size w (w.alloc (.cells #[.int .i64 x.lo, .int .i64 x.hi, .int .i64 x.reason] 45)) := (Below.refl _ _).alloc (Nat.le_refl _) _
  have c1 := (hbx.cell (p := ⟨b, 0, none⟩) hb).trans hc
  have HB := Lib.hid hbx
  obtain ⟨b0, b1, b2⟩ := (Box.new w #[.int .i64 x.lo, .int .i64 x.hi, .int .i64 x.reason] 45).three
  clear hc hbx
  go_enter Tryd.func30, Tryd.ntmps30
  go_wp2
  go_ret
  exact ⟨rfl, HB.out⟩

set_option maxHeartbeats 4000000 in
theorem implWithoutReason_any (t : ByteArray) (l : List Span) (r : Int) (A : Option Addr) (c : Nat) (hA : A = none → c = 0) (ht : t.size ≤ 1048576) (hl : l.length ≤ 1048576) (w : World) (hr : Rd w 3 A l.length (cellsSpan l)) :
    Calls Tryd.prog 10 #[.string t, .slice A l.length c, .int .i64 r] w fun e w' => ∃ v, e = .returned (.tuple #[v, .bool (woOk t l r)]) ∧ SlSpan w.heap.size w' (woOut t l r) v ∧ Below w.heap.size w w' := by
  have HI := fun W k => Lib.hid (implAreSpans_any t l A c ht hl W k)
  have HR := Lib.hid hr
  clear hr
  have X0 := Lib.hid (BXT.new w #[.int .i64 r] 3)
  have B0 := Lib.hid (Below.alloc (Below.refl w.heap.size w) (Nat.le_refl _) (.cells #[.int .i64 r] 3))
  by_cases h1 : goodT t l = true
  · rw [h1] at HI
    by_cases h2 : inB r 1 9 = true
    · have e1 : Hid (woOk t l r = true) := by show _ = _; rw [woOk, h1, h2]; rfl
      have e2 : Hid (woOut t l r = l.filter (fun s => !(s.reason == r))) := if_pos e1.out
      clear h1
      go_enter Tryd.func10, Tryd.ntmps10
      go_wp2_with fail
      refine (HI _ (HR.out.below B0.out)).out.mono ?_
      rintro e w1 ⟨rfl, hb1⟩
      have B1 := Lib.hid (Below.transB B0.out (Nat.le_refl _) hb1)
      have X1 := Lib.hid (X0.out.below hb1)
      have x1 := X1.out.bx.cell 0 _ rfl
      clear hb1
      go_wp2_with (go_at_call 27; refine (isReason_any _ _).mono ?_; rintro e w' ⟨rfl, rfl⟩; rw [h2])
      refine (cloneSpan_any l A c _ (HR.out.below B1.out) hA hl).mono ?_
      rintro e w2 ⟨v, rfl, ⟨A2, c2, rfl, hown⟩, hb2⟩
      have hs1 := B1.out.size
      have B2 := Lib.hid (Below.transB B1.out (Nat.le_refl _) hb2)
      have X2 := Lib.hid (X1.out.below hb2)
      have hx1 := X1.out.bx.lt
      have HO := Lib.hid hown
      clear hb2 hown x1
      by_cases h0 : l = []
      · subst h0
        go_wp2_with fail
        refine (deleteFuncSpan_nil A2 c2 _ _ _ (fun args w => enters_of Tryd.func30 (by kernel_rfl) rfl args w)).mono ?_
        rintro e w3 ⟨rfl, hb3⟩
        go_wp2
        go_ret2
        exact ⟨_, by rw [e1.out]; rfl, by rw [e2.out]; exact ⟨A2, c2, rfl, own_base (own_below HO.out hb3) hs1⟩, Below.transB B2.out (Nat.le_refl _) hb3⟩
      · have hL : 0 < l.length := List.length_pos_iff.2 h0
        obtain ⟨g, rfl⟩ := own_some HO.out hL
        have hgw := (HO.out.lt g rfl).1
        have HD := Lib.hid (deleteFuncSpan_any w1.heap.size l g c2 30 #[.pointer (some ⟨w.heap.size, 0, none⟩)] (fun s => s.reason == r) w2 HO.out hl (by have := (HO.out.lt g rfl).2; omega)
          (fun args w => enters_of Tryd.func30 (by kernel_rfl) rfl args w)
          (Lib.hid (fun p w3 hg3 => wo1_any p r w.heap.size w3 ((X2.out.grown hg3 (by simp; omega)).bx.cell 0 _ rfl))))
        go_wp2_with fail
        refine HD.out.mono ?_
        rintro e w3 ⟨rfl, ho3, hg3⟩
        have B3 := Lib.hid (Below.row B2.out HO.out hg3 hs1 B2.out.size)
        have O3 := Lib.hid (own_base ho3 hs1)
        clear ho3 hg3
        go_wp2
        go_ret2
        exact ⟨_, by rw [e1.out]; rfl, by rw [e2.out]; exact ⟨some ⟨g, 0, none⟩, c2, rfl, O3.out⟩, B3.out⟩
    · have h2' : inB r 1 9 = false := by simpa using h2
      have e1 : Hid (woOk t l r = false) := by show _ = _; rw [woOk, h2']; simp
      have e2 : Hid (woOut t l r = []) := if_neg (by rw [e1.out]; simp)
      clear h1
      go_enter Tryd.func10, Tryd.ntmps10
      go_wp2_with fail
      refine (HI _ (HR.out.below B0.out)).out.mono ?_
      rintro e w1 ⟨rfl, hb1⟩
      have B1 := Lib.hid (Below.transB B0.out (Nat.le_refl _) hb1)
      have X1 := Lib.hid (X0.out.below hb1)
      have x1 := X1.out.bx.cell 0 _ rfl
      clear hb1
      go_wp2_with (go_at_call 27; refine (isReason_any _ _).mono ?_; rintro e w' ⟨rfl, rfl⟩; rw [h2'])
      go_ret2
      exact ⟨_, by rw [e1.out]; rfl, by rw [e2.out]; exact SlSpan.nil _ _, B1.out⟩
  · have h1' : goodT t l = false := by simpa using h1
    rw [h1'] at HI
    have e1 : Hid (woOk t l r = false) := by show _ = _; rw [woOk, h1']; rfl
    have e2 : Hid (woOut t l r = []) := if_neg (by rw [e1.out]; simp)
    clear h1 h1'
    go_enter Tryd.func10, Tryd.ntmps10
    go_wp2_with fail
    refine (HI _ (HR.out.below B0.out)).out.mono ?_
    rintro e w1 ⟨rfl, hb1⟩
    have B1 := Lib.hid (Below.transB B0.out (Nat.le_refl _) hb1)
    clear hb1
    go_wp2
    go_ret2
    exact ⟨_, by rw [e1.out]; rfl, by rw [e2.out]; exact SlSpan.nil _ _, B1.out⟩

set_option maxHeartbeats 4000000 in
theorem specWithoutReason_any (t : ByteArray) (l : List Span) (r : Int) (A : Option Addr) (c : Nat) (ht : t.size ≤ 1048576) (hl : l.length ≤ 1048576) (w : World) (hr : Rd w 3 A l.length (cellsSpan l)) :
    Calls Tryd.prog 8 #[.string t, .slice A l.length c, .int .i64 r] w fun e w' => ∃ v, e = .returned (.tuple #[v, .bool (woOk t l r)]) ∧ SlSpan w.heap.size w' (woOut t l r) v ∧ Below w.heap.size w w' := by
  obtain ⟨i0, hi, hz0, hz1, hz2⟩ := info_parts infoSpan
  have HI := fun W k => Lib.hid (l15Good_any t l A c ht hl W k)
  have HN := fun W => Lib.hid (l1In_any r 1 9 W)
  have HR := Lib.hid hr
  clear hr
  have E0 := Lib.hid (own_empty (B := w.heap.size) w 45 3 (Nat.le_refl _))
  have B0 := Lib.hid (Below.alloc (Below.refl w.heap.size w) (Nat.le_refl _) (.cells #[] 45))
  by_cases h1 : goodT t l = true
  · rw [h1] at HI
    by_cases h2 : inB r 1 9 = true
    · have e1 : Hid (woOk t l r = true) := by show _ = _; rw [woOk, h1, h2]; rfl
      have e2 : Hid (woOut t l r = l.filter (fun s => !(s.reason == r))) := if_pos e1.out
      rw [h2] at HN
      clear h1 h2
      go_enter Tryd.func8, Tryd.ntmps8
      go_wp2_with fail
      refine (HI _ (HR.out.below B0.out)).out.mono ?_
      rintro e w1 ⟨rfl, hb1⟩
      have B1 := Lib.hid (Below.transB B0.out (Nat.le_refl _) hb1)
      have O1 : Hid (w1.ownsRow w.heap.size 45 3 (.slice (some ⟨w.heap.size, 0, none⟩) 0 0) 0 []) := Lib.hid (own_below E0.out hb1)
      clear hb1
      go_wp2_with (go_at_call 24; refine (HN _).out.mono ?_; rintro e w' ⟨rfl, rfl⟩)
      go_loopw [8, 9] (fun v8 v9 wr => ∃ (k : Nat) (acc : List Span) (A' : Option Addr) (c' : Nat), k ≤ l.length ∧ acc.length ≤ k ∧ v9 = .int .i64 k ∧ v8 = .slice A' acc.length c' ∧ Below w.heap.size w wr ∧
        wr.ownsRow w.heap.size 45 3 (.slice A' acc.length c') acc.length (cellsSpan acc) ∧ Hid (l.filter (fun s => !(s.reason == r)) = acc ++ (l.drop k).filter (fun s => !(s.reason == r)))) (fun _ v9 _ => l.length - (intOf v9).toNat)
      case atStart => exact ⟨0, [], _, _, Nat.zero_le _, Nat.zero_le _, rfl, rfl, B1.out, O1.out, by show _ = _; rfl⟩
      case round =>
        clear B1 O1 HI E0 B0
        obtain ⟨k, acc, A', c', hk, hak, rfl, rfl, hb, hown, K⟩ := hrel
        by_cases hlt : k < l.length
        · obtain ⟨gb, go, rfl, hgb, hcell⟩ := (HR.out.below hb).2 (by omega)
          obtain ⟨h0, h1, h2⟩ := cellsSpan_at hcell hlt
          clear hcell
          have hlt' : ((k : Int) < (l.length : Int)) := by omega
          have K1 := K.out
          rw [List.drop_eq_getElem_cons hlt] at K1
          have hs0 := hb.size
          have HB := Lib.hid hb
          have HO := Lib.hid hown
          clear hb hown
          by_cases hq : l[k].reason = r
          · have hq1 : (l[k].reason == r) = true := by simpa using hq
            have HK : Hid (l.filter (fun s => !(s.reason == r)) = acc ++ (l.drop (k + 1)).filter (fun s => !(s.reason == r))) := by
              show _ = _; rw [K1, List.filter_cons_of_neg (by rw [hq1]; simp)]
            clear K K1
            go_wp2_with fail
            go_roundw
            case rel => exact ⟨k + 1, acc, A', c', by omega, by omega, by go_num, rfl, HB.out, HO.out, HK⟩
            case measure => simp [intOf]; omega
          · have hq1 : (l[k].reason == r) = false := by simpa using hq
            have HK : Hid (l.filter (fun s => !(s.reason == r)) = (acc ++ [l[k]]) ++ (l.drop (k + 1)).filter (fun s => !(s.reason == r))) := by
              show _ = _; rw [K1, List.filter_cons_of_pos (by rw [hq1]; rfl)]; simp
            clear K K1
            go_wp2_with (at_builtin; refine wpList_pushG rfl _ _ 24 rfl w.heap.size 45 i0 (.agg #[.int .i64 0, .int .i64 0, .int .i64 0]) 3 24 Tryd.underlying24 hi hz0 hz1 hz2 rfl (by decide) (by decide) _ _ _ _ rfl HO.out #[.int .i64 l[k].lo, .int .i64 l[k].hi, .int .i64 l[k].reason] _ _ rfl (by simp) rfl (by simp [Value.oneCell']) (by omega) hs0 ?_; intro A5 c5 w5 hown5 hg5 hpl5)
            have hf : w5.ownsRow w.heap.size 45 3 (.slice A5 (acc ++ [l[k]]).length c5) (acc ++ [l[k]]).length (cellsSpan (acc ++ [l[k]])) := by
              rw [cellsSpan_append]; simpa [cellsSpan, cellSpan] using hown5
            go_roundw
            case rel => exact ⟨k + 1, acc ++ [l[k]], A5, c5, by omega, by simp; omega, by go_num, by simp, Below.row HB.out HO.out hg5 (Nat.le_refl _) hs0, hf, HK⟩
            case measure => simp [intOf]; omega
        · have K2 : Hid (l.filter (fun s => !(s.reason == r)) = acc) := by show _ = _; rw [K.out, List.drop_of_length_le (by omega)]; simp
          have HB := Lib.hid hb
          have HO := Lib.hid hown
          clear K hb hown
          go_wp2
          go_ret2
          exact ⟨_, by rw [e1.out]; rfl, by rw [e2.out, K2.out]; exact ⟨A', c', rfl, HO.out⟩, HB.out⟩
    · have h2' : inB r 1 9 = false := by simpa using h2
      have e1 : Hid (woOk t l r = false) := by show _ = _; rw [woOk, h2']; simp
      have e2 : Hid (woOut t l r = []) := if_neg (by rw [e1.out]; simp)
      rw [h2'] at HN
      clear h1 h2 h2'
      go_enter Tryd.func8, Tryd.ntmps8
      go_wp2_with fail
      refine (HI _ (HR.out.below B0.out)).out.mono ?_
      rintro e w1 ⟨rfl, hb1⟩
      have B1 := Lib.hid (Below.transB B0.out (Nat.le_refl _) hb1)
      have O1 : Hid (w1.ownsRow w.heap.size 45 3 (.slice (some ⟨w.heap.size, 0, none⟩) 0 0) 0 []) := Lib.hid (own_below E0.out hb1)
      clear hb1
      go_wp2_with (go_at_call 24; refine (HN _).out.mono ?_; rintro e w' ⟨rfl, rfl⟩)
      go_ret2
      exact ⟨_, by rw [e1.out]; rfl, by rw [e2.out]; exact ⟨_, _, rfl, O1.out⟩, B1.out⟩
  · have h1' : goodT t l = false := by simpa using h1
    rw [h1'] at HI
    have e1 : Hid (woOk t l r = false) := by show _ = _; rw [woOk, h1']; rfl
    have e2 : Hid (woOut t l r = []) := if_neg (by rw [e1.out]; simp)
    clear h1 h1'
    go_enter Tryd.func8, Tryd.ntmps8
    go_wp2_with fail
    refine (HI _ (HR.out.below B0.out)).out.mono ?_
    rintro e w1 ⟨rfl, hb1⟩
    have B1 := Lib.hid (Below.transB B0.out (Nat.le_refl _) hb1)
    have O1 : Hid (w1.ownsRow w.heap.size 45 3 (.slice (some ⟨w.heap.size, 0, none⟩) 0 0) 0 []) := Lib.hid (own_below E0.out hb1)
    clear hb1
    go_wp2
    go_ret2
    exact ⟨_, by rw [e1.out]; rfl, by rw [e2.out]; exact ⟨_, _, rfl, O1.out⟩, B1.out⟩

end Go.Proofs.YtllnnkiehckegaaDoor
