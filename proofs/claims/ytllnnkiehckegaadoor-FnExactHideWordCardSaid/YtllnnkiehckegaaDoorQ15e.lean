/-
  A span put in its place, by the reference. Written by mkQ15e.py.
  Conditions: those written at each theorem.
-/
import Derived.Test.YtllnnkiehckegaaDoorQ15a
import Derived.Test.YtllnnkiehckegaaDoorH15
import Derived.Deep.RegionHeld3
namespace Go.Proofs.YtllnnkiehckegaaDoor
open Go.RowKit Go.BigFrame H15
set_option maxRecDepth 100000

theorem rdS_prefix {w : World} {g n i : Nat} {l : List Span} (h : Rd w 3 (some ⟨g, 0, none⟩) n (cellsSpan l)) (hi : i ≤ n) : Rd w 3 (some ⟨g, 0, none⟩) i (cellsSpan (l.take i)) := by
  have hn : l.length = n := by have := h.1; rw [len_cellsSpan] at this; omega
  refine ⟨by rw [len_cellsSpan, List.length_take]; congr 1; omega, fun hp => ?_⟩
  obtain ⟨b, o, hbo, hlt, hc⟩ := h.2 (by omega)
  refine ⟨b, o, hbo, hlt, fun j u hu => hc j u ?_⟩
  rw [← List.take_append_drop i l, cellsSpan_append, List.getElem?_append_left (List.getElem?_eq_some_iff.1 hu).1]
  exact hu
theorem rdS_suffix {w : World} {g n i : Nat} {l : List Span} (h : Rd w 3 (some ⟨g, 0, none⟩) n (cellsSpan l)) (hi : i ≤ n) : Rd w 3 (some ⟨g, i * 3, none⟩) (n - i) (cellsSpan (l.drop i)) := by
  have hn : l.length = n := by have := h.1; rw [len_cellsSpan] at this; omega
  refine ⟨by rw [len_cellsSpan, List.length_drop, hn], fun hp => ?_⟩
  obtain ⟨b, o, hbo, hlt, hc⟩ := h.2 (by omega)
  cases hbo
  refine ⟨g, i * 3, rfl, hlt, fun j u hu => ?_⟩
  have := hc (i * 3 + j) u (by
    rw [← List.take_append_drop i l, cellsSpan_append, List.getElem?_append_right (by rw [len_cellsSpan, List.length_take]; omega), len_cellsSpan, List.length_take, show i * 3 + j - min i l.length * 3 = j by rw [Nat.min_eq_left (by omega)]; omega]
    exact hu)
  rwa [Nat.zero_add] at this
theorem rdS_zero {w : World} {A : Option Addr} {n : Nat} {l : List Span} (h : l.length = n) : Rd w 3 A 0 (cellsSpan (l.drop n)) := ⟨by rw [List.drop_of_length_le (by omega)]; rfl, fun h => absurd h (by omega)⟩
theorem rdS_bx {w : World} {g : Nat} {a b c : Value} (h : BX w g [a, b, c]) : Rd w 3 (some ⟨g, 0, none⟩) 1 [a, b, c] :=
  ⟨rfl, fun _ => ⟨g, 0, rfl, h.lt, fun j u hu => by rw [Nat.zero_add]; exact h.cell j u hu⟩⟩

set_option maxHeartbeats 4000000 in
theorem l15Insert_any (l : List Span) (s : Span) (n g c : Nat) (hn : l.length = n) (hl : n ≤ 1000000) (hc : n ≤ c ∧ c ≤ 9223372036854775807) (wx : World) (hr : Rd wx 3 (some ⟨g, 0, none⟩) n (cellsSpan l)) (hgx : g < wx.heap.size) :
    Calls Tryd.prog 42 #[.slice (some ⟨g, 0, none⟩) n c, .agg #[.int .i64 s.lo, .int .i64 s.hi, .int .i64 s.reason]] wx fun e w' => ∃ g' c', e = .returned (.slice (some ⟨g', 0, none⟩) (n + 1) c') ∧ w'.ownsRow wx.heap.size 45 3 (.slice (some ⟨g', 0, none⟩) (n + 1) c') (n + 1) (cellsSpan (insS s l)) ∧ Below wx.heap.size wx w' := by
  obtain ⟨i0, hi, hz0, hz1, hz2⟩ := info_parts infoSpan
  have hX0 : Below wx.heap.size wx (wx.alloc (.cells #[.int .i64 s.lo, .int .i64 s.hi, .int .i64 s.reason] 45)) := (Below.refl _ _).alloc (Nat.le_refl _) _
  have HR := Lib.hid (hr.below hX0)
  have HB0 := Lib.hid (Box.new wx #[.int .i64 s.lo, .int .i64 s.hi, .int .i64 s.reason] 45)
  have HX0 := Lib.hid hX0
  have HN := Lib.hid hn
  clear hr hn hX0
  go_enter Tryd.func42, Tryd.ntmps42
  go_wp2_with fail
  generalize hB : wx.heap.size = B at *
  generalize wx.alloc (.cells #[.int .i64 s.lo, .int .i64 s.hi, .int .i64 s.reason] 45) = W0 at HR HB0 HX0 ⊢
  go_loopw [5] (fun v w => ∃ k : Nat, k ≤ n ∧ v = .int .i64 k ∧ Below W0.heap.size W0 w ∧ Hid (insS s l = l.take k ++ insS s (l.drop k))) (fun v _ => n - (intOf v).toNat)
  case atStart => exact ⟨0, Nat.zero_le _, rfl, Below.refl _ _, by show _ = _; rfl⟩
  case round =>
    obtain ⟨k, hk, rfl, hb, K⟩ := hrel
    have hgW : g < W0.heap.size := Nat.lt_of_lt_of_le (by omega) HX0.out.size
    have hBW : B < W0.heap.size := HB0.out.1
    have HR1 := Lib.hid (HR.out.below hb)
    have HX1 := Lib.hid (Below.transB HX0.out (by omega) hb)
    have HB1 := Lib.hid (HB0.out.below hb)
    have hg1 : g < wr.heap.size := Nat.lt_of_lt_of_le hgW hb.size
    have hB1 : B < wr.heap.size := HB1.out.1
    have HW := Lib.hid hb
    have b0 := HB1.out.G 0 _ rfl
    have hk0 : (0 : Int) ≤ (k : Int) := by omega
    have hkn : (k : Int) ≤ (n : Int) := by omega
    have hkc : (k : Int) ≤ (c : Int) := by omega
    have hnc : (n : Int) ≤ (c : Int) := by omega
    have hln := HN.out
    clear hb
    by_cases hlt : k < n
    · have hkl : k < l.length := by omega
      have hlt' : ((k : Int) < (n : Int)) := by omega
      obtain ⟨gb, go, hbo, hgb, hcell⟩ := HR1.out.2 (by omega)
      cases hbo
      obtain ⟨q0, _, _⟩ := cellsSpan_at hcell hkl
      rw [Nat.zero_add] at q0
      have p0 := cellG hgb q0
      clear hcell q0
      have K1 : Hid (insS s l = l.take k ++ (if l[k].lo < s.lo then l[k] :: insS s (l.drop (k + 1)) else s :: l.drop k)) := by
        show _ = _; rw [K.out, List.drop_eq_getElem_cons hkl]; rfl
      clear K
      by_cases hp : l[k].lo < s.lo
      · have K2 : Hid (insS s l = l.take (k + 1) ++ insS s (l.drop (k + 1))) := by
          show _ = _; rw [K1.out, if_pos hp, List.take_succ_eq_append_getElem hkl, List.append_assoc]; rfl
        clear K1
        go_wp2_with fail
        refine wp_region_grow (by kernel_rfl) (by kernel_rfl) ?_
        repeat (go_big_quiet_step (fail))
        refine wpQuiet_endG ?_
        intro w2 hb2
        have HW2 := Lib.hid (Below.transB HW.out (Nat.le_refl _) hb2)
        clear hb2 b0 p0
        go_wp2
        go_roundw
        case rel => exact ⟨k + 1, by omega, by go_num, HW2.out, K2⟩
        case measure => simp [intOf]; omega
      · have F : Hid (cellsSpan (insS s l) = cellsSpan (l.take k) ++ [.int .i64 s.lo, .int .i64 s.hi, .int .i64 s.reason] ++ cellsSpan (l.drop k)) := by
          show _ = _; rw [K1.out, if_neg hp, cellsSpan_append]; simp [cellsSpan, cellSpan]
        clear K1
        go_wp2_with fail
        refine wp_region_grow (by kernel_rfl) (by kernel_rfl) ?_
        repeat (go_big_quiet_step (fail))
        refine wpQuiet_endG ?_
        intro w hb2
        have HX := Lib.hid (Below.transB HX1.out (by omega) hb2)
        have HRw := Lib.hid (HR1.out.below hb2)
        obtain ⟨c0, c1, c2⟩ := (HB1.out.below hb2).three
        have hBw : B < w.heap.size := (HB1.out.below hb2).1
        have hgw : g < w.heap.size := Nat.lt_of_lt_of_le hg1 hb2.size
        have hwx : B ≤ w.heap.size := by omega
        clear hb2 b0 p0 HR HB0 HX0 HB1 HX1 HR1 HW
        have HR := HRw
        clear HRw
        have hck : ¬ c = k := by omega
        go_wp2_with fail
        have HP := Lib.hid (rdS_prefix HR.out hk)
        have ee := own_empty (B := w.heap.size) (w.drew.alloc (.cells #[.int .i64 s.lo, .int .i64 s.hi, .int .i64 s.reason] 45)) 45 3 (by simp only [World.size_alloc, drew_size]; omega)
        have na := BX.new (w.drew.alloc (.cells #[] 45)) #[.int .i64 s.lo, .int .i64 s.hi, .int .i64 s.reason] 45
        simp only [World.size_alloc, drew_size] at ee na
        have nb : BX ((w.drew.alloc (.cells #[.int .i64 s.lo, .int .i64 s.hi, .int .i64 s.reason] 45)).alloc (.cells #[] 45)) w.heap.size [.int .i64 s.lo, .int .i64 s.hi, .int .i64 s.reason] := (BX.new w.drew #[.int .i64 s.lo, .int .i64 s.hi, .int .i64 s.reason] 45).alloc (.cells #[] 45)
        have EE := Lib.hid ee
        have NA := Lib.hid na
        have NB := Lib.hid nb
        clear ee na nb
        go_region_held3 (fun w' => w.heap.size ≤ w'.heap.size ∧ w'.cell? ⟨B, 0, none⟩ = some (.int .i64 s.lo) ∧ w'.cell? ⟨B, 1, none⟩ = some (.int .i64 s.hi) ∧ w'.cell? ⟨B, 2, none⟩ = some (.int .i64 s.reason)) ((refine ⟨?_, ?_, ?_, ?_⟩ <;> first | assumption | (simp only [World.size_alloc, drew_size]; omega) | (exact (World.cell?_alloc_lt _ _ _ (by first | exact hBw | (simp only [World.size_alloc, drew_size]; omega))).trans (by assumption)) | (refine (World.cell?_alloc_lt _ _ _ (by simp only [World.size_alloc, drew_size]; omega)).trans ((World.cell?_alloc_lt _ _ _ (by first | exact hBw | (simp only [drew_size]; omega))).trans (by assumption)))))
          (first
            | (refine step_appendT rfl _ _ 24 rfl w.heap.size 45 i0 (.agg #[.int .i64 0, .int .i64 0, .int .i64 0]) 3 24 Tryd.underlying24 hi hz0 hz1 hz2 rfl (by decide) (by decide) _ 0 0 [] rfl _ k _ (cellsSpan (l.take k)) rfl k (Nat.zero_add k) ?_ ?_ ?_ (fun h => by cases h) (one_cellsSpan _) (by omega) ?_
               · first
                 | exact own_empty w.drew _ _ (Nat.le_refl _)
                 | exact (own_empty w.drew _ _ (Nat.le_refl _)).alloc _
                 | exact EE.out
               · refine Rd.below HP.out ?_
                 go_grown
               · (first | assumption | omega | (simp only [World.size_alloc, drew_size]; omega))
               intro A3 c3 w3 hown3 hg3 hpl3
               rw [List.nil_append] at hown3
               have hs3 : w.heap.size ≤ w3.heap.size := Nat.le_trans (by (first | assumption | omega | (simp only [World.size_alloc, drew_size]; omega))) hg3.size
               have hf3 := own_far (g := g) hown3 hgw
               have HR3 := Lib.hid (Rd.grown (Rd.below HR.out (show Below w.heap.size w _ by go_grown)) hg3 (by simp [Value.ownBlock]; omega))
               have HB3 : Hid (Below w.heap.size w w3) := Lib.hid (Below.grown (show Below w.heap.size w _ by go_grown) hg3 (by (first | assumption | omega | (simp only [World.size_alloc, drew_size]; omega))) (fun j hj => by simp [Value.ownBlock] at hj; omega))
               have d0 := (HB3.out.cell (p := ⟨B, 0, none⟩) hBw).trans c0
               have d1 := (HB3.out.cell (p := ⟨B, 1, none⟩) hBw).trans c1
               have d2 := (HB3.out.cell (p := ⟨B, 2, none⟩) hBw).trans c2)
            | (refine step_appendT rfl _ _ 24 rfl w.heap.size 45 i0 (.agg #[.int .i64 0, .int .i64 0, .int .i64 0]) 3 24 Tryd.underlying24 hi hz0 hz1 hz2 rfl (by decide) (by decide) A3 k c3 (cellsSpan (l.take k)) rfl _ 1 _ [.int .i64 s.lo, .int .i64 s.hi, .int .i64 s.reason] rfl (k + 1) rfl ?_ ?_ ?_ (fun h => by cases h) (by simp [Value.oneCell']) (by omega) ?_
               · first
                 | exact hown3
                 | exact hown3.alloc _
               · first
                 | exact rdS_bx (NA.out.grown hg3 (by simp [Value.ownBlock]))
                 | exact rdS_bx (NB.out.grown hg3 (by simp [Value.ownBlock]))
                 | exact rdS_bx (BX.new w3 #[.int .i64 s.lo, .int .i64 s.hi, .int .i64 s.reason] 45)
               · (first | assumption | omega | (simp only [World.size_alloc, drew_size]; omega))
               intro A4 c4 w4 hown4 hg4 hpl4
               have hs4 : w.heap.size ≤ w4.heap.size := Nat.le_trans (by (first | assumption | omega | (simp only [World.size_alloc, drew_size]; omega))) hg4.size
               have HR4 : Hid (Rd w4 3 (some ⟨g, 0, none⟩) n (cellsSpan l)) := by
                 first
                 | exact Lib.hid (HR3.out.grown hg4 hf3)
                 | exact Lib.hid ((HR3.out.below ((Below.refl _ _).alloc (Nat.le_refl _) (.cells #[.int .i64 s.lo, .int .i64 s.hi, .int .i64 s.reason] 45))).grown hg4 hf3)
               have HB4 : Hid (Below w.heap.size w w4) := by
                 first
                 | exact Lib.hid (Below.row HB3.out hown3 hg4 (Nat.le_refl _) hs3)
                 | exact Lib.hid (Below.row (Below.alloc HB3.out hs3 (.cells #[.int .i64 s.lo, .int .i64 s.hi, .int .i64 s.reason] 45)) (hown3.alloc (.cells #[.int .i64 s.lo, .int .i64 s.hi, .int .i64 s.reason] 45)) hg4 (Nat.le_refl _) (by (first | assumption | omega | (simp only [World.size_alloc, drew_size]; omega))))
               have d0 := (HB4.out.cell (p := ⟨B, 0, none⟩) hBw).trans c0
               have d1 := (HB4.out.cell (p := ⟨B, 1, none⟩) hBw).trans c1
               have d2 := (HB4.out.cell (p := ⟨B, 2, none⟩) hBw).trans c2)
            | (refine step_appendT rfl _ _ 24 rfl w.heap.size 45 i0 (.agg #[.int .i64 0, .int .i64 0, .int .i64 0]) 3 24 Tryd.underlying24 hi hz0 hz1 hz2 rfl (by decide) (by decide) A4 (k + 1) c4 (cellsSpan (l.take k) ++ [.int .i64 s.lo, .int .i64 s.hi, .int .i64 s.reason]) rfl _ (n - k) _ (cellsSpan (l.drop k)) rfl (n + 1) (by omega) hown4 ?_ hs4 (fun h => by cases h) (one_cellsSpan _) (by omega) ?_
               · exact rdS_suffix HR4.out hk
               intro A5 c5 w5 hown5 hg5 hpl5
               have hs5 : w.heap.size ≤ w5.heap.size := Nat.le_trans hs4 hg5.size
               have HB5 := Lib.hid (Below.row HB4.out hown4 hg5 (Nat.le_refl _) hs4)
               have HO5 := Lib.hid hown5
               have d0 := (HB5.out.cell (p := ⟨B, 0, none⟩) hBw).trans c0
               have d1 := (HB5.out.cell (p := ⟨B, 1, none⟩) hBw).trans c1
               have d2 := (HB5.out.cell (p := ⟨B, 2, none⟩) hBw).trans c2))
        all_goals
          obtain ⟨g5, rfl⟩ := own_some HO5.out (by omega)
          clear hown5 hown4 hown3 hg3 hg4 hg5 hpl3 hpl4 hpl5 EE NA NB hf3
          go_wp2
          go_ret
          subst hB
          exact ⟨g5, c5, rfl, by rw [F.out]; exact own_base HO5.out hwx, Below.transB HX.out (Nat.le_refl _) HB5.out⟩
    · have hge : ¬ ((k : Int) < (n : Int)) := by omega
      obtain rfl : k = n := by omega
      have F : Hid (cellsSpan (insS s l) = cellsSpan (l.take k) ++ [.int .i64 s.lo, .int .i64 s.hi, .int .i64 s.reason] ++ cellsSpan (l.drop k)) := by
        show _ = _; rw [K.out, List.drop_of_length_le (by omega), cellsSpan_append]; simp [insS, cellsSpan, cellSpan]
      have hz : k - k = 0 := Nat.sub_self k
      clear K
      go_wp2_with fail
      refine wp_region_grow (by kernel_rfl) (by kernel_rfl) ?_
      repeat (go_big_quiet_step (fail))
      refine wpQuiet_endG ?_
      intro w hb2
      have HX := Lib.hid (Below.transB HX1.out (by omega) hb2)
      have HRw := Lib.hid (HR1.out.below hb2)
      obtain ⟨c0, c1, c2⟩ := (HB1.out.below hb2).three
      have hBw : B < w.heap.size := (HB1.out.below hb2).1
      have hgw : g < w.heap.size := Nat.lt_of_lt_of_le hg1 hb2.size
      have hwx : B ≤ w.heap.size := by omega
      clear hb2 b0 HR HB0 HX0 HB1 HX1 HR1 HW
      have HR := HRw
      clear HRw
      by_cases hck : c = k
      · subst hck
        go_wp2_with fail
        have HP := Lib.hid (rdS_prefix HR.out hk)
        have ee := own_empty (B := w.heap.size) (w.drew.alloc (.cells #[.int .i64 s.lo, .int .i64 s.hi, .int .i64 s.reason] 45)) 45 3 (by simp only [World.size_alloc, drew_size]; omega)
        have na := BX.new (w.drew.alloc (.cells #[] 45)) #[.int .i64 s.lo, .int .i64 s.hi, .int .i64 s.reason] 45
        simp only [World.size_alloc, drew_size] at ee na
        have nb : BX ((w.drew.alloc (.cells #[.int .i64 s.lo, .int .i64 s.hi, .int .i64 s.reason] 45)).alloc (.cells #[] 45)) w.heap.size [.int .i64 s.lo, .int .i64 s.hi, .int .i64 s.reason] := (BX.new w.drew #[.int .i64 s.lo, .int .i64 s.hi, .int .i64 s.reason] 45).alloc (.cells #[] 45)
        have EE := Lib.hid ee
        have NA := Lib.hid na
        have NB := Lib.hid nb
        clear ee na nb
        go_region_held3 (fun w' => w.heap.size ≤ w'.heap.size ∧ w'.cell? ⟨B, 0, none⟩ = some (.int .i64 s.lo) ∧ w'.cell? ⟨B, 1, none⟩ = some (.int .i64 s.hi) ∧ w'.cell? ⟨B, 2, none⟩ = some (.int .i64 s.reason)) ((refine ⟨?_, ?_, ?_, ?_⟩ <;> first | assumption | (simp only [World.size_alloc, drew_size]; omega) | (exact (World.cell?_alloc_lt _ _ _ (by first | exact hBw | (simp only [World.size_alloc, drew_size]; omega))).trans (by assumption)) | (refine (World.cell?_alloc_lt _ _ _ (by simp only [World.size_alloc, drew_size]; omega)).trans ((World.cell?_alloc_lt _ _ _ (by first | exact hBw | (simp only [drew_size]; omega))).trans (by assumption)))))
          (first
            | (refine step_appendT rfl _ _ 24 rfl w.heap.size 45 i0 (.agg #[.int .i64 0, .int .i64 0, .int .i64 0]) 3 24 Tryd.underlying24 hi hz0 hz1 hz2 rfl (by decide) (by decide) _ 0 0 [] rfl _ c _ (cellsSpan (l.take c)) rfl c (Nat.zero_add c) ?_ ?_ ?_ (fun h => by cases h) (one_cellsSpan _) (by omega) ?_
               · first
                 | exact own_empty w.drew _ _ (Nat.le_refl _)
                 | exact (own_empty w.drew _ _ (Nat.le_refl _)).alloc _
                 | exact EE.out
               · refine Rd.below HP.out ?_
                 go_grown
               · (first | assumption | omega | (simp only [World.size_alloc, drew_size]; omega))
               intro A3 c3 w3 hown3 hg3 hpl3
               rw [List.nil_append] at hown3
               have hs3 : w.heap.size ≤ w3.heap.size := Nat.le_trans (by (first | assumption | omega | (simp only [World.size_alloc, drew_size]; omega))) hg3.size
               have hf3 := own_far (g := g) hown3 hgw
               have HR3 := Lib.hid (Rd.grown (Rd.below HR.out (show Below w.heap.size w _ by go_grown)) hg3 (by simp [Value.ownBlock]; omega))
               have HB3 : Hid (Below w.heap.size w w3) := Lib.hid (Below.grown (show Below w.heap.size w _ by go_grown) hg3 (by (first | assumption | omega | (simp only [World.size_alloc, drew_size]; omega))) (fun j hj => by simp [Value.ownBlock] at hj; omega))
               have d0 := (HB3.out.cell (p := ⟨B, 0, none⟩) hBw).trans c0
               have d1 := (HB3.out.cell (p := ⟨B, 1, none⟩) hBw).trans c1
               have d2 := (HB3.out.cell (p := ⟨B, 2, none⟩) hBw).trans c2)
            | (refine step_appendT rfl _ _ 24 rfl w.heap.size 45 i0 (.agg #[.int .i64 0, .int .i64 0, .int .i64 0]) 3 24 Tryd.underlying24 hi hz0 hz1 hz2 rfl (by decide) (by decide) A3 c c3 (cellsSpan (l.take c)) rfl _ 1 _ [.int .i64 s.lo, .int .i64 s.hi, .int .i64 s.reason] rfl (c + 1) rfl ?_ ?_ ?_ (fun h => by cases h) (by simp [Value.oneCell']) (by omega) ?_
               · first
                 | exact hown3
                 | exact hown3.alloc _
               · first
                 | exact rdS_bx (NA.out.grown hg3 (by simp [Value.ownBlock]))
                 | exact rdS_bx (NB.out.grown hg3 (by simp [Value.ownBlock]))
                 | exact rdS_bx (BX.new w3 #[.int .i64 s.lo, .int .i64 s.hi, .int .i64 s.reason] 45)
               · (first | assumption | omega | (simp only [World.size_alloc, drew_size]; omega))
               intro A4 c4 w4 hown4 hg4 hpl4
               have hs4 : w.heap.size ≤ w4.heap.size := Nat.le_trans (by (first | assumption | omega | (simp only [World.size_alloc, drew_size]; omega))) hg4.size
               have HR4 : Hid (Rd w4 3 (some ⟨g, 0, none⟩) c (cellsSpan l)) := by
                 first
                 | exact Lib.hid (HR3.out.grown hg4 hf3)
                 | exact Lib.hid ((HR3.out.below ((Below.refl _ _).alloc (Nat.le_refl _) (.cells #[.int .i64 s.lo, .int .i64 s.hi, .int .i64 s.reason] 45))).grown hg4 hf3)
               have HB4 : Hid (Below w.heap.size w w4) := by
                 first
                 | exact Lib.hid (Below.row HB3.out hown3 hg4 (Nat.le_refl _) hs3)
                 | exact Lib.hid (Below.row (Below.alloc HB3.out hs3 (.cells #[.int .i64 s.lo, .int .i64 s.hi, .int .i64 s.reason] 45)) (hown3.alloc (.cells #[.int .i64 s.lo, .int .i64 s.hi, .int .i64 s.reason] 45)) hg4 (Nat.le_refl _) (by (first | assumption | omega | (simp only [World.size_alloc, drew_size]; omega))))
               have d0 := (HB4.out.cell (p := ⟨B, 0, none⟩) hBw).trans c0
               have d1 := (HB4.out.cell (p := ⟨B, 1, none⟩) hBw).trans c1
               have d2 := (HB4.out.cell (p := ⟨B, 2, none⟩) hBw).trans c2)
            | (refine step_appendT rfl _ _ 24 rfl w.heap.size 45 i0 (.agg #[.int .i64 0, .int .i64 0, .int .i64 0]) 3 24 Tryd.underlying24 hi hz0 hz1 hz2 rfl (by decide) (by decide) A4 (c + 1) c4 (cellsSpan (l.take c) ++ [.int .i64 s.lo, .int .i64 s.hi, .int .i64 s.reason]) rfl _ (0) _ (cellsSpan (l.drop c)) rfl (c + 1) (by omega) hown4 ?_ hs4 (fun h => by cases h) (one_cellsSpan _) (by omega) ?_
               · exact rdS_zero hln
               intro A5 c5 w5 hown5 hg5 hpl5
               have hs5 : w.heap.size ≤ w5.heap.size := Nat.le_trans hs4 hg5.size
               have HB5 := Lib.hid (Below.row HB4.out hown4 hg5 (Nat.le_refl _) hs4)
               have HO5 := Lib.hid hown5
               have d0 := (HB5.out.cell (p := ⟨B, 0, none⟩) hBw).trans c0
               have d1 := (HB5.out.cell (p := ⟨B, 1, none⟩) hBw).trans c1
               have d2 := (HB5.out.cell (p := ⟨B, 2, none⟩) hBw).trans c2))
        all_goals
          obtain ⟨g5, rfl⟩ := own_some HO5.out (by omega)
          clear hown5 hown4 hown3 hg3 hg4 hg5 hpl3 hpl4 hpl5 EE NA NB hf3
          go_wp2
          go_ret
          subst hB
          exact ⟨g5, c5, rfl, by rw [F.out]; exact own_base HO5.out hwx, Below.transB HX.out (Nat.le_refl _) HB5.out⟩
      · go_wp2_with fail
        have HP := Lib.hid (rdS_prefix HR.out hk)
        have ee := own_empty (B := w.heap.size) (w.drew.alloc (.cells #[.int .i64 s.lo, .int .i64 s.hi, .int .i64 s.reason] 45)) 45 3 (by simp only [World.size_alloc, drew_size]; omega)
        have na := BX.new (w.drew.alloc (.cells #[] 45)) #[.int .i64 s.lo, .int .i64 s.hi, .int .i64 s.reason] 45
        simp only [World.size_alloc, drew_size] at ee na
        have nb : BX ((w.drew.alloc (.cells #[.int .i64 s.lo, .int .i64 s.hi, .int .i64 s.reason] 45)).alloc (.cells #[] 45)) w.heap.size [.int .i64 s.lo, .int .i64 s.hi, .int .i64 s.reason] := (BX.new w.drew #[.int .i64 s.lo, .int .i64 s.hi, .int .i64 s.reason] 45).alloc (.cells #[] 45)
        have EE := Lib.hid ee
        have NA := Lib.hid na
        have NB := Lib.hid nb
        clear ee na nb
        go_region_held3 (fun w' => w.heap.size ≤ w'.heap.size ∧ w'.cell? ⟨B, 0, none⟩ = some (.int .i64 s.lo) ∧ w'.cell? ⟨B, 1, none⟩ = some (.int .i64 s.hi) ∧ w'.cell? ⟨B, 2, none⟩ = some (.int .i64 s.reason)) ((refine ⟨?_, ?_, ?_, ?_⟩ <;> first | assumption | (simp only [World.size_alloc, drew_size]; omega) | (exact (World.cell?_alloc_lt _ _ _ (by first | exact hBw | (simp only [World.size_alloc, drew_size]; omega))).trans (by assumption)) | (refine (World.cell?_alloc_lt _ _ _ (by simp only [World.size_alloc, drew_size]; omega)).trans ((World.cell?_alloc_lt _ _ _ (by first | exact hBw | (simp only [drew_size]; omega))).trans (by assumption)))))
          (first
            | (refine step_appendT rfl _ _ 24 rfl w.heap.size 45 i0 (.agg #[.int .i64 0, .int .i64 0, .int .i64 0]) 3 24 Tryd.underlying24 hi hz0 hz1 hz2 rfl (by decide) (by decide) _ 0 0 [] rfl _ k _ (cellsSpan (l.take k)) rfl k (Nat.zero_add k) ?_ ?_ ?_ (fun h => by cases h) (one_cellsSpan _) (by omega) ?_
               · first
                 | exact own_empty w.drew _ _ (Nat.le_refl _)
                 | exact (own_empty w.drew _ _ (Nat.le_refl _)).alloc _
                 | exact EE.out
               · refine Rd.below HP.out ?_
                 go_grown
               · (first | assumption | omega | (simp only [World.size_alloc, drew_size]; omega))
               intro A3 c3 w3 hown3 hg3 hpl3
               rw [List.nil_append] at hown3
               have hs3 : w.heap.size ≤ w3.heap.size := Nat.le_trans (by (first | assumption | omega | (simp only [World.size_alloc, drew_size]; omega))) hg3.size
               have hf3 := own_far (g := g) hown3 hgw
               have HR3 := Lib.hid (Rd.grown (Rd.below HR.out (show Below w.heap.size w _ by go_grown)) hg3 (by simp [Value.ownBlock]; omega))
               have HB3 : Hid (Below w.heap.size w w3) := Lib.hid (Below.grown (show Below w.heap.size w _ by go_grown) hg3 (by (first | assumption | omega | (simp only [World.size_alloc, drew_size]; omega))) (fun j hj => by simp [Value.ownBlock] at hj; omega))
               have d0 := (HB3.out.cell (p := ⟨B, 0, none⟩) hBw).trans c0
               have d1 := (HB3.out.cell (p := ⟨B, 1, none⟩) hBw).trans c1
               have d2 := (HB3.out.cell (p := ⟨B, 2, none⟩) hBw).trans c2)
            | (refine step_appendT rfl _ _ 24 rfl w.heap.size 45 i0 (.agg #[.int .i64 0, .int .i64 0, .int .i64 0]) 3 24 Tryd.underlying24 hi hz0 hz1 hz2 rfl (by decide) (by decide) A3 k c3 (cellsSpan (l.take k)) rfl _ 1 _ [.int .i64 s.lo, .int .i64 s.hi, .int .i64 s.reason] rfl (k + 1) rfl ?_ ?_ ?_ (fun h => by cases h) (by simp [Value.oneCell']) (by omega) ?_
               · first
                 | exact hown3
                 | exact hown3.alloc _
               · first
                 | exact rdS_bx (NA.out.grown hg3 (by simp [Value.ownBlock]))
                 | exact rdS_bx (NB.out.grown hg3 (by simp [Value.ownBlock]))
                 | exact rdS_bx (BX.new w3 #[.int .i64 s.lo, .int .i64 s.hi, .int .i64 s.reason] 45)
               · (first | assumption | omega | (simp only [World.size_alloc, drew_size]; omega))
               intro A4 c4 w4 hown4 hg4 hpl4
               have hs4 : w.heap.size ≤ w4.heap.size := Nat.le_trans (by (first | assumption | omega | (simp only [World.size_alloc, drew_size]; omega))) hg4.size
               have HR4 : Hid (Rd w4 3 (some ⟨g, 0, none⟩) k (cellsSpan l)) := by
                 first
                 | exact Lib.hid (HR3.out.grown hg4 hf3)
                 | exact Lib.hid ((HR3.out.below ((Below.refl _ _).alloc (Nat.le_refl _) (.cells #[.int .i64 s.lo, .int .i64 s.hi, .int .i64 s.reason] 45))).grown hg4 hf3)
               have HB4 : Hid (Below w.heap.size w w4) := by
                 first
                 | exact Lib.hid (Below.row HB3.out hown3 hg4 (Nat.le_refl _) hs3)
                 | exact Lib.hid (Below.row (Below.alloc HB3.out hs3 (.cells #[.int .i64 s.lo, .int .i64 s.hi, .int .i64 s.reason] 45)) (hown3.alloc (.cells #[.int .i64 s.lo, .int .i64 s.hi, .int .i64 s.reason] 45)) hg4 (Nat.le_refl _) (by (first | assumption | omega | (simp only [World.size_alloc, drew_size]; omega))))
               have d0 := (HB4.out.cell (p := ⟨B, 0, none⟩) hBw).trans c0
               have d1 := (HB4.out.cell (p := ⟨B, 1, none⟩) hBw).trans c1
               have d2 := (HB4.out.cell (p := ⟨B, 2, none⟩) hBw).trans c2)
            | (refine step_appendT rfl _ _ 24 rfl w.heap.size 45 i0 (.agg #[.int .i64 0, .int .i64 0, .int .i64 0]) 3 24 Tryd.underlying24 hi hz0 hz1 hz2 rfl (by decide) (by decide) A4 (k + 1) c4 (cellsSpan (l.take k) ++ [.int .i64 s.lo, .int .i64 s.hi, .int .i64 s.reason]) rfl _ (0) _ (cellsSpan (l.drop k)) rfl (k + 1) (by omega) hown4 ?_ hs4 (fun h => by cases h) (one_cellsSpan _) (by omega) ?_
               · exact rdS_zero hln
               intro A5 c5 w5 hown5 hg5 hpl5
               have hs5 : w.heap.size ≤ w5.heap.size := Nat.le_trans hs4 hg5.size
               have HB5 := Lib.hid (Below.row HB4.out hown4 hg5 (Nat.le_refl _) hs4)
               have HO5 := Lib.hid hown5
               have d0 := (HB5.out.cell (p := ⟨B, 0, none⟩) hBw).trans c0
               have d1 := (HB5.out.cell (p := ⟨B, 1, none⟩) hBw).trans c1
               have d2 := (HB5.out.cell (p := ⟨B, 2, none⟩) hBw).trans c2))
        all_goals
          obtain ⟨g5, rfl⟩ := own_some HO5.out (by omega)
          clear hown5 hown4 hown3 hg3 hg4 hg5 hpl3 hpl4 hpl5 EE NA NB hf3
          go_wp2
          go_ret
          subst hB
          exact ⟨g5, c5, rfl, by rw [F.out]; exact own_base HO5.out hwx, Below.transB HX.out (Nat.le_refl _) HB5.out⟩

end Go.Proofs.YtllnnkiehckegaaDoor
