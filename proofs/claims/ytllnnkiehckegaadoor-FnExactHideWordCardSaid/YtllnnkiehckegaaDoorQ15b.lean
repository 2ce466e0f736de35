/-
  IsHidden by the program and by the reference.
  Conditions: those written at each theorem.
-/
import Derived.Test.YtllnnkiehckegaaDoorQ15a
namespace Go.Proofs.YtllnnkiehckegaaDoor
open Go.RowKit Go.BigFrame W15
set_option maxRecDepth 100000

def ihOk (t : ByteArray) (l : List Span) (wd : ByteArray) : Bool := goodT t l && wordB wd
def ihAns (t : ByteArray) (l : List Span) (wd : ByteArray) : Value :=
  if ihOk t l wd = true then .tuple #[.bool ((placesF t wd).all fun p => tchB l p (p + (wd.size : Int))), .bool true] else .tuple #[.bool false, .bool false]
theorem ihAns_form (t : ByteArray) (l : List Span) (wd : ByteArray) : ∃ (x y : Bool), ihAns t l wd = .tuple #[.bool x, .bool y] := by
  unfold ihAns; split <;> exact ⟨_, _, rfl⟩
theorem goodT_text {t : ByteArray} {l : List Span} (h : goodT t l = true) : textB t = true := by
  simp only [goodT, Bool.and_eq_true] at h
  exact h.2.1

theorem ih1_any (l : List Span) (wd : ByteArray) (p : Int) (hp : 0 ≤ p ∧ p ≤ 1000) (hwd : wd.size ≤ 1000) (A : Option Addr) (c b1 b2 : Nat) (hl : l.length ≤ 1048576) (w : World) (hr : Rd w 3 A l.length (cellsSpan l))
    (c1 : w.cell? ⟨b1, 0, none⟩ = some (.slice A l.length c)) (c2 : w.cell? ⟨b2, 0, none⟩ = some (.string wd)) :
    Calls Tryd.prog 40 (#[.int .i64 p] ++ #[.pointer (some ⟨b1, 0, none⟩), .pointer (some ⟨b2, 0, none⟩)]) w fun e w' => e = .returned (.bool (!tchB l p (p + (wd.size : Int)))) ∧ Below w.heap.size w w' := by
  have HT := Lib.hid (isTouched_any l p (p + (wd.size : Int)) A c hl w hr)
  have hw : IntKind.i64.wrap (p + (wd.size : Int)) = p + (wd.size : Int) := IntWalk.i64_in _ (by omega)
  clear hr
  go_enter Tryd.func40, Tryd.ntmps40
  go_wp2_with (go_at_call 41; refine HT.out.mono ?_; rintro e w1 ⟨rfl, hb1⟩)
  go_ret
  exact ⟨rfl, hb1⟩

set_option maxHeartbeats 1000000 in
theorem implIsHidden_any (t : ByteArray) (l : List Span) (wd : ByteArray) (A : Option Addr) (c : Nat) (ht : t.size ≤ 1048576) (hwd : wd.size ≤ 1048576) (hl : l.length ≤ 1048576) (w : World) (hr : Rd w 3 A l.length (cellsSpan l)) :
    Calls Tryd.prog 20 #[.string t, .slice A l.length c, .string wd] w fun e w' => e = .returned (ihAns t l wd) ∧ Below w.heap.size w w' := by
  have H1 := fun W k => Lib.hid (implAreSpans_any t l A c ht hl W k)
  have H2 := fun W => Lib.hid (isWord_any wd (by omega) W)
  have H3 := fun W => Lib.hid (placesOf_any t wd ht W)
  have HR := Lib.hid hr
  have x1 := (BXT.new w #[.slice A l.length c] 24).alloc (.cells #[.string wd] 9)
  have x2 := BXT.new (w.alloc (.cells #[.slice A l.length c] 24)) #[.string wd] 9
  rw [World.size_alloc] at x2
  have X1 := Lib.hid x1
  have X2 := Lib.hid x2
  have hb0 : Below w.heap.size w ((w.alloc (.cells #[.slice A l.length c] 24)).alloc (.cells #[.string wd] 9)) := ((Below.refl _ w).alloc (Nat.le_refl _) _).alloc (by simp) _
  have B0 := Lib.hid hb0
  have y1 := x1.bx.cell 0 _ rfl
  have y2 := x2.bx.cell 0 _ rfl
  clear hr x1 x2 hb0
  by_cases h1 : goodT t l = true
  · rw [h1] at H1
    by_cases h2 : wordB wd = true
    · have HG : Hid (ihOk t l wd = true) := by show _ = _; rw [ihOk, h1, h2]; rfl
      have ht100 := (goodT_true h1).2.1
      have hw10 := (wordB_true h2).1.2
      rw [h2] at H2
      clear h1 h2
      go_enter Tryd.func20, Tryd.ntmps20
      go_wp2_with fail
      refine (H1 _ (HR.out.below B0.out)).out.mono ?_
      rintro e w1 ⟨rfl, hb1⟩
      have B1 := Lib.hid (Below.transB B0.out (Nat.le_refl _) hb1)
      have X1b := Lib.hid (X1.out.below hb1)
      have X2b := Lib.hid (X2.out.below hb1)
      clear hb1 y1 y2
      have y2 := X2b.out.bx.cell 0 _ rfl
      go_wp2_with fail
      refine (H2 _).out.mono ?_
      rintro e w2 ⟨rfl, hb2⟩
      have B2 := Lib.hid (Below.transB B1.out (Nat.le_refl _) hb2)
      have X1c := Lib.hid (X1b.out.below hb2)
      have X2c := Lib.hid (X2b.out.below hb2)
      clear hb2 y2
      have y2 := X2c.out.bx.cell 0 _ rfl
      go_wp2_with fail
      refine (H3 _).out.mono ?_
      rintro e w3 ⟨v, rfl, ⟨A3, c3, rfl, ho⟩, hb3⟩
      have B3 := Lib.hid (Below.transB B2.out (Nat.le_refl _) hb3)
      have X1d := Lib.hid (X1c.out.below hb3)
      have X2d := Lib.hid (X2c.out.below hb3)
      have O3 := Lib.hid ho
      clear hb3 ho y2
      have HC := Lib.hid (containsFuncI_any (placesF t wd) A3 c3 40 #[.pointer (some ⟨w.heap.size, 0, none⟩), .pointer (some ⟨w.heap.size + 1, 0, none⟩)] (fun p => !tchB l p (p + (wd.size : Int))) w3 (Rd.of_own O3.out) (Nat.le_trans (placesF_len t wd ht100) (by decide)) (fun _ _ => enters_of Tryd.func40 (by kernel_rfl) rfl _ _)
        (Lib.hid (fun p w4 hp hw4 => ih1_any l wd p (by have := placesF_mem hp; omega) (by omega) A c w.heap.size (w.heap.size + 1) hl w4 ((HR.out.below B3.out).below hw4) ((X1d.out.below hw4).bx.cell 0 _ rfl) ((X2d.out.below hw4).bx.cell 0 _ rfl))))
      have HX : Hid (((placesF t wd).all fun p => tchB l p (p + (wd.size : Int))) = !((placesF t wd).any fun p => !tchB l p (p + (wd.size : Int)))) := by show _ = _; rw [List.not_any_eq_all_not]; simp
      go_wp2_with fail
      refine HC.out.mono ?_
      rintro e w5 ⟨rfl, hb5⟩
      have B5 := Lib.hid (Below.transB B3.out (Nat.le_refl _) hb5)
      clear hb5
      go_wp2
      go_ret2
      exact ⟨by rw [ihAns, if_pos HG.out, HX.out]; rfl, B5.out⟩
    · have h2' : wordB wd = false := by simpa using h2
      have HG : Hid (ihOk t l wd = false) := by show _ = _; rw [ihOk, h2']; simp
      rw [h2'] at H2
      clear h1 h2 h2'
      go_enter Tryd.func20, Tryd.ntmps20
      go_wp2_with fail
      refine (H1 _ (HR.out.below B0.out)).out.mono ?_
      rintro e w1 ⟨rfl, hb1⟩
      have B1 := Lib.hid (Below.transB B0.out (Nat.le_refl _) hb1)
      have X2b := Lib.hid (X2.out.below hb1)
      clear hb1 y1 y2
      have y2 := X2b.out.bx.cell 0 _ rfl
      go_wp2_with fail
      refine (H2 _).out.mono ?_
      rintro e w2 ⟨rfl, hb2⟩
      have B2 := Lib.hid (Below.transB B1.out (Nat.le_refl _) hb2)
      clear hb2
      go_wp2
      go_ret2
      exact ⟨by rw [ihAns, HG.out]; rfl, B2.out⟩
  · have h1' : goodT t l = false := by simpa using h1
    rw [h1'] at H1
    have HG : Hid (ihOk t l wd = false) := by show _ = _; rw [ihOk, h1']; rfl
    clear h1 h1'
    go_enter Tryd.func20, Tryd.ntmps20
    go_wp2_with fail
    refine (H1 _ (HR.out.below B0.out)).out.mono ?_
    rintro e w1 ⟨rfl, hb1⟩
    have B1 := Lib.hid (Below.transB B0.out (Nat.le_refl _) hb1)
    clear hb1
    go_wp2
    go_ret2
    exact ⟨by rw [ihAns, HG.out]; rfl, B1.out⟩

set_option maxHeartbeats 1000000 in
theorem specIsHidden_any (t : ByteArray) (l : List Span) (wd : ByteArray) (A : Option Addr) (c : Nat) (ht : t.size ≤ 1048576) (hwd : wd.size ≤ 1048576) (hl : l.length ≤ 1048576) (w : World) (hr : Rd w 3 A l.length (cellsSpan l)) :
    Calls Tryd.prog 19 #[.string t, .slice A l.length c, .string wd] w fun e w' => e = .returned (ihAns t l wd) ∧ Below w.heap.size w w' := by
  have H1 := fun W k => Lib.hid (l15Good_any t l A c ht hl W k)
  have H2 := fun W => Lib.hid (l2Word_any wd (by omega) W)
  have HR := Lib.hid hr
  clear hr
  by_cases h1 : goodT t l = true
  · rw [h1] at H1
    by_cases h2 : wordB wd = true
    · have HG : Hid (ihOk t l wd = true) := by show _ = _; rw [ihOk, h1, h2]; rfl
      have ht100 := (goodT_true h1).2.1
      obtain ⟨⟨hw1, hw10⟩, _⟩ := wordB_true h2
      have H3 := fun W => Lib.hid (l15Places_any t wd ht hw1 hw10 W)
      rw [scan_places (goodT_text h1) h2] at H3
      have hmem : ∀ p ∈ placesF t wd, 0 ≤ p ∧ p + (wd.size : Int) ≤ (t.size : Int) := fun p hp => placesF_mem hp
      have hlen := placesF_len t wd ht100
      have HA : Hid (ihAns t l wd = .tuple #[.bool ((placesF t wd).all fun p => tchB l p (p + (wd.size : Int))), .bool true]) := if_pos HG.out
      rw [h2] at H2
      clear h1 h2 HG
      generalize placesF t wd = S at H3 hmem hlen HA
      go_enter Tryd.func19, Tryd.ntmps19
      go_wp2_with fail
      refine (H1 _ HR.out).out.mono ?_
      rintro e w1 ⟨rfl, hb1⟩
      have B1 := Lib.hid hb1
      clear hb1
      go_wp2_with (go_at_call 33; refine (H2 _).out.mono ?_; rintro e w' ⟨rfl, rfl⟩)
      refine (H3 _).out.mono ?_
      rintro e w3 ⟨v, rfl, ⟨A3, c3, rfl, ho⟩, hb3⟩
      have B3 := Lib.hid (Below.transB B1.out (Nat.le_refl _) hb3)
      have O3 := Lib.hid (Rd.of_own ho)
      clear hb3 ho
      go_wp2_with fail
      go_loopw [9] (fun v wr => ∃ k : Nat, k ≤ S.length ∧ v = .int .i64 k ∧ Below w3.heap.size w3 wr ∧ Hid ((S.all fun p => tchB l p (p + (wd.size : Int))) = ((S.drop k).all fun p => tchB l p (p + (wd.size : Int))))) (fun v _ => S.length - (intOf v).toNat)
      case atStart => exact ⟨0, Nat.zero_le _, rfl, Below.refl _ _, by show _ = _; rfl⟩
      case round =>
        obtain ⟨k, hk, rfl, hb, K⟩ := hrel
        have HB := Lib.hid hb
        by_cases hlt : k < S.length
        · obtain ⟨gb, go, rfl, hgb, hcell⟩ := (O3.out.below hb).2 (by omega)
          have c0 := cellG hgb (cellsI_at hcell hlt)
          have hp := hmem _ (List.getElem_mem hlt)
          have hlt' : (k : Int) < (S.length : Int) := by omega
          have hw : IntKind.i64.wrap (S[k] + (wd.size : Int)) = S[k] + (wd.size : Int) := IntWalk.i64_in _ (by omega)
          have HT := fun s : GW wr => Lib.hid (l15Touched_any l S[k] (S[k] + (wd.size : Int)) A c hl s.w (((HR.out.below B3.out).below hb).below s.below))
          have K1 := K.out
          rw [List.drop_eq_getElem_cons hlt, List.all_cons] at K1
          have HK := Lib.hid K1
          clear K K1 hcell hb
          by_cases q : tchB l S[k] (S[k] + (wd.size : Int)) = true
          · have K2 : Hid ((S.all fun p => tchB l p (p + (wd.size : Int))) = ((S.drop (k + 1)).all fun p => tchB l p (p + (wd.size : Int)))) := by show _ = _; rw [HK.out, q]; rfl
            rw [q] at HT
            clear HK q
            go_wp2_with fail
            refine wp_region_grow (by kernel_rfl) (by kernel_rfl) ?_
            repeat (go_big_quiet_step (first | (go_at_call 38; exact quietGs (HT _).out)))
            refine wpQuiet_endG ?_
            intro w4 hb4
            have B4 := Lib.hid (Below.transB HB.out (Nat.le_refl _) hb4)
            clear hb4
            go_wp2
            go_roundw
            case rel => exact ⟨k + 1, by omega, by go_num, B4.out, K2⟩
            case measure => simp [intOf]; omega
          · have q' : tchB l S[k] (S[k] + (wd.size : Int)) = false := by simpa using q
            have K2 : Hid ((S.all fun p => tchB l p (p + (wd.size : Int))) = false) := by show _ = _; rw [HK.out, q']; rfl
            rw [q'] at HT
            clear HK q q'
            go_wp2_with fail
            refine wp_region_grow (by kernel_rfl) (by kernel_rfl) ?_
            repeat (go_big_quiet_step (first | (go_at_call 38; exact quietGs (HT _).out)))
            refine wpQuiet_endG ?_
            intro w4 hb4
            have B4 := Lib.hid (Below.transB B3.out (Nat.le_refl _) (Below.transB HB.out (Nat.le_refl _) hb4))
            clear hb4
            go_wp2
            go_ret2
            exact ⟨by rw [HA.out, K2.out]; rfl, B4.out⟩
        · have K2 : Hid ((S.all fun p => tchB l p (p + (wd.size : Int))) = true) := by show _ = _; rw [K.out, List.drop_of_length_le (by omega)]; rfl
          have B4 := Lib.hid (Below.transB B3.out (Nat.le_refl _) hb)
          clear K hb
          go_wp2
          go_ret2
          exact ⟨by rw [HA.out, K2.out]; rfl, B4.out⟩
    · have h2' : wordB wd = false := by simpa using h2
      have HG : Hid (ihOk t l wd = false) := by show _ = _; rw [ihOk, h2']; simp
      rw [h2'] at H2
      clear h1 h2 h2'
      go_enter Tryd.func19, Tryd.ntmps19
      go_wp2_with fail
      refine (H1 _ HR.out).out.mono ?_
      rintro e w1 ⟨rfl, hb1⟩
      have B1 := Lib.hid hb1
      clear hb1
      go_wp2_with (go_at_call 33; refine (H2 _).out.mono ?_; rintro e w' ⟨rfl, rfl⟩)
      go_ret2
      exact ⟨by rw [ihAns, HG.out]; rfl, B1.out⟩
  · have h1' : goodT t l = false := by simpa using h1
    rw [h1'] at H1
    have HG : Hid (ihOk t l wd = false) := by show _ = _; rw [ihOk, h1']; rfl
    clear h1 h1'
    go_enter Tryd.func19, Tryd.ntmps19
    go_wp2_with fail
    refine (H1 _ HR.out).out.mono ?_
    rintro e w1 ⟨rfl, hb1⟩
    have B1 := Lib.hid hb1
    clear hb1
    go_wp2
    go_ret2
    exact ⟨by rw [ihAns, HG.out]; rfl, B1.out⟩

end Go.Proofs.YtllnnkiehckegaaDoor
