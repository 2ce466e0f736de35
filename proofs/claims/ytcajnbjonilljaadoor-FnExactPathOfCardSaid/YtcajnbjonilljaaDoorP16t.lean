/-
  The hashes after a round, by the program: a range over slices.Chunk.
  Conditions: those written at each theorem; the program's way asks the library's table.
-/
import Derived.Test.YtcajnbjonilljaaDoorP16s
import Derived.Test.YtcajnbjonilljaaDoorRfReg
import Derived.Test.YtcajnbjonilljaaDoorRfBox
namespace Go.Proofs.YtcajnbjonilljaaDoor
open Go.RowKit Go.Shelf
attribute [local go_sem] Oper.semAt_some

/-- the hashes after a round -/
def roundF : List Int → List Int
  | [] => []
  | [a] => [a]
  | a :: b :: r => pairF a b :: roundF r
/-- what the k-th piece gives -/
def pieceF (l : List Int) (k : Nat) : Int := if h : 2 * k + 1 < l.length then pairF l[2 * k] l[2 * k + 1] else (l[2 * k]?).getD 0
theorem pieceF_two (l : List Int) (k : Nat) (h : 2 * k + 1 < l.length) : pieceF l k = pairF (l[2 * k]'(by omega)) l[2 * k + 1] := dif_pos h
theorem pieceF_one (l : List Int) (k : Nat) (h : ¬ 2 * k + 1 < l.length) (h2 : 2 * k < l.length) : pieceF l k = l[2 * k] := by
  rw [pieceF, dif_neg h]; simp [h2]
theorem pieces_cons (a b : Int) (r : List Int) (k : Nat) : pieceF (a :: b :: r) (k + 1) = pieceF r k := by
  unfold pieceF
  have e : ∀ j, (a :: b :: r)[2 * (k + 1) + j]? = r[2 * k + j]? := fun j => by rw [show 2 * (k + 1) + j = 2 * k + j + 1 + 1 by omega]; rfl
  have e0 := e 0
  simp only [Nat.add_zero] at e0
  by_cases h : 2 * k + 1 < r.length
  · have h' : 2 * (k + 1) + 1 < (a :: b :: r).length := by simp; omega
    rw [dif_pos h, dif_pos h']
    have e1 := e 1
    rw [List.getElem?_eq_getElem h', List.getElem?_eq_getElem h] at e1
    rw [List.getElem?_eq_getElem (by omega), List.getElem?_eq_getElem (by omega)] at e0
    rw [Option.some.inj e0, Option.some.inj e1]
  · have h' : ¬ 2 * (k + 1) + 1 < (a :: b :: r).length := by simp; omega
    rw [dif_neg h, dif_neg h', e0]
theorem round_pieces : ∀ l : List Int, roundF l = (List.range ((l.length + 1) / 2)).map (pieceF l)
  | [] => by simp [roundF]
  | [a] => by simp [roundF, pieceF, List.range_succ]
  | a :: b :: r => by
    rw [roundF, round_pieces r]
    have e : ((a :: b :: r).length + 1) / 2 = (r.length + 1) / 2 + 1 := by simp; omega
    rw [e, List.range_succ_eq_map, List.map_cons, List.map_map]
    congr 1
    apply List.map_congr_left
    intro k _
    exact (pieces_cons a b r k).symm
theorem ups_map (l : List Int) : ∀ k, 2 * k ≤ l.length + 1 → (ups l.length k).map (fun x => pieceF l x.1) = (List.range k).map (pieceF l)
  | 0, _ => rfl
  | k + 1, h => by
    rw [ups_succ _ _ (by omega), List.map_append, ups_map l k (by omega), List.range_succ, List.map_append]
    rfl
theorem len_round : ∀ l : List Int, (roundF l).length = (l.length + 1) / 2 := fun l => by rw [round_pieces]; simp
theorem bd_round : ∀ l : List Int, (∀ x ∈ l, 0 ≤ x ∧ x ≤ 999999) → ∀ x ∈ roundF l, 0 ≤ x ∧ x ≤ 999999
  | [], _ => by simp [roundF]
  | [a], h => by simpa [roundF] using h
  | a :: b :: r, h => by
    intro x hx
    rw [roundF] at hx
    rcases List.mem_cons.1 hx with rfl | hx
    · exact pairF_bd a b
    · exact bd_round r (fun y hy => h y (by simp [hy])) x hx

set_option maxRecDepth 100000 in
set_option maxHeartbeats 4000000 in
theorem round_any (l : List Int) (g o c : Nat) (hl0 : 1 ≤ l.length) (hl : l.length ≤ 8) (hlc : l.length ≤ c) (hbd : ∀ x ∈ l, 0 ≤ x ∧ x ≤ 999999) (w : World) (hT : TabP w) (hr : Rd w 1 (some ⟨g, o, none⟩) l.length (cellsI l)) :
    Calls Tryd.prog 20 #[.slice (some ⟨g, o, none⟩) l.length c] w fun e w' => ∃ v, e = .returned v ∧ SlI w.heap.size w' (roundF l) v ∧ Below w.heap.size w w' := by
  obtain ⟨i0, hi, hz0, hz1, hz2⟩ := info_parts infoI
  have hmix : Tryd.prog.follows .mixedOrders = true := by kernel_rfl
  refine (callsIn_wide (n := 3)).1 ?_
  have hCh := fun W => Lib.hid (callsIn_wide (n := 2).2 (chunk_any l.length c (some ⟨g, o, none⟩) W))
  refine callsIn_of_wp_marks Tryd.func20 rfl trivial ?_ rfl
  simp only [Tryd.ntmps20, List.size_toArray, List.length_cons, List.length_nil, Nat.reduceAdd, Nat.reduceSub, Array.replicate_succ, Array.replicate_zero, List.push_toArray, List.append_toArray, List.nil_append, List.cons_append]
  gi_wp2_with (refine ⟨trivial, ?_⟩; gi_at_call 32; refine (hCh _).out.mono ?_; rintro e w' ⟨rfl, rfl⟩)
  have bO := Boxed.new w 36 (.slice none 0 0)
  have hsz : ∀ X : World, (X.alloc (.cells #[.slice none 0 0] 36)).heap.size = X.heap.size + 1 := fun X => World.size_alloc _ _
  obtain ⟨W0, hW0⟩ : ∃ W0, w.alloc (.cells #[.slice none 0 0] 36) = W0 := ⟨_, rfl⟩
  have hs0 : W0.heap.size = w.heap.size + 1 := by rw [← hW0]; exact hsz w
  have hB0 : Below w.heap.size w W0 := by rw [← hW0]; exact (Below.refl _ w).alloc (Nat.le_refl _) _
  rw [hW0] at bO ⊢
  have bN := Boxed.new W0 36 (.slice (some ⟨g, o, none⟩) l.length c)
  have bM := Boxed.new (W0.alloc (.cells #[.slice (some ⟨g, o, none⟩) l.length c] 36)) 3 (.int .i64 2)
  rw [World.size_alloc, hs0] at bM
  rw [hs0] at bN
  have hB2 : Below w.heap.size w ((W0.alloc (.cells #[.slice (some ⟨g, o, none⟩) l.length c] 36)).alloc (.cells #[.int .i64 2] 3)) := ((hB0.alloc hB0.size _).alloc (by simp; omega) _)
  have hsw : ((W0.alloc (.cells #[.slice (some ⟨g, o, none⟩) l.length c] 36)).alloc (.cells #[.int .i64 2] 3)).heap.size = w.heap.size + 3 := by simp; omega
  refine wpIn_rangeFunc_ownG rfl (by omega) (gf := 40) (lb := #[.pointer (some ⟨w.heap.size + 1, 0, none⟩), .pointer (some ⟨w.heap.size + 1 + 1, 0, none⟩)]) rfl trivial (enters_of Tryd.func40 (by kernel_rfl) rfl)
    (chunk_stops 2 (by omega) (w.heap.size + 1) (w.heap.size + 1 + 1) g o l.length c (by omega) hlc _ ((bN.alloc _).cell) bM.cell (by simp; omega) (by simp; omega))
    (fun h k => ⟨k.1.trans h.1, k.2.trans h.2⟩)
    (fun W lx ob ob' hl1 hl2 hl3 hl4 => ⟨World.putObj_heap_other (by simp at hl1; omega), World.putObj_heap_other (by simp at hl1; omega)⟩)
    (Below.refl _ _) (fun _ => rfl)
    (fun pre W => (∃ v, Boxed W w.heap.size 36 v ∧ W.ownsRow (w.heap.size + 3) 3 1 v pre.length (cellsI (pre.map fun x => pieceF l x.1))) ∧ Below w.heap.size w W ∧ w.heap.size + 3 ≤ W.heap.size)
    (fun _ _ _ => False)
    (OwnFrom.and (Own.from (fun s X Y row hs hg hrow => by
      obtain ⟨v, hv, hr⟩ := hs
      obtain ⟨v2, h1, h2, _⟩ := holdsRow_own (w.heap.size + 3) w.heap.size 36 3 1 (fun s : List (Pc l.length) => s.length) (fun s => cellsI (s.map fun x => pieceF l x.1)) (fun _ _ => True) s X Y row ⟨v, hv, hr, trivial⟩ hg hrow
      exact ⟨v2, h1, h2⟩) _) (OwnFrom.and (ownFrom_below (Nat.le_refl _) (by simp; omega)) (fun s X Y row hs hg hrow => Nat.le_trans hs hg.size)))
    (fun _ _ _ _ _ hs _ _ => hs)
    ⟨⟨_, (bO.alloc _).alloc _, World.ownsRow_nil _ _ _ _⟩, hB2, by simp; omega⟩
    (fun x => { tmps := #[.slice (some ⟨g, o, none⟩) l.length c, undef, .slice none 0 0, .pointer (some ⟨w.heap.size, 0, none⟩), chunkV g o l.length x.1, .slice (some ⟨g, o, none⟩) l.length c, .func (.func 40) #[] #[.pointer (some ⟨w.heap.size + 1, 0, none⟩), .pointer (some ⟨w.heap.size + 1 + 1, 0, none⟩)], chunkV g o l.length x.1, undef, undef, undef, undef, undef, undef, undef, undef, undef, undef, undef, undef, undef, undef, undef, undef, undef, undef, undef, undef], defers := [] }) ?assign ?body ?done ?stop
  case assign =>
    intro lx x W K hK
    gi_wp2
    exact hK
  case body =>
    rintro lx pre ⟨k, hk⟩ W ⟨⟨v, hv, hrow⟩, hB, hu⟩ hlt
    dsimp only
    have hc := hv.cell
    obtain ⟨gb, go, he, hgb, hcell⟩ := (hr.below hB).2 (by omega)
    obtain ⟨gb', go', he', hgw, _⟩ := hr.2 (by omega)
    cases he
    cases he'
    have hci : ∀ j (hj : j < l.length), W.cell? ⟨g, o + j, none⟩ = some (.int .i64 l[j]) := fun j hj => hcell j _ (by simp [cellsI, hj])
    have hpl : pre.length ≤ 8 := by omega
    obtain ⟨A2, cp2, rfl⟩ := own_form hrow
    by_cases hq : 2 * k + 1 < l.length
    · have hTW := hT.below hB.drew
      have c0 := hci (2 * k) (by omega)
      have c1 : W.cell? ⟨g, o + 2 * k + 1, none⟩ = some (.int .i64 l[2 * k + 1]) := hci (2 * k + 1) hq
      have e1 : min 2 (l.length - 2 * k) = 2 := by omega
      have hp := pieceF_two l k hq
      have hP := fun X hX => Lib.hid (pairHash_any (l[2 * k]'(by omega)) l[2 * k + 1] (hbd _ (List.getElem_mem _)) (hbd _ (List.getElem_mem _)) X hX)
      unfold chunkV
      rw [e1]
      gi_wp2
      refine wpIn_region_held (S := fun X => X.cell? ⟨g, o + 2 * k, none⟩ = some (.int .i64 (l[2 * k]'(by omega))) ∧ X.cell? ⟨g, o + 2 * k + 1, none⟩ = some (.int .i64 l[2 * k + 1])) hmix (by kernel_rfl) ?_ ⟨c0, c1⟩ (fun hS => ?_)
      · rintro ⟨a9, w9, h9⟩
        exact h9
      refine wpAnyH_take (i := 1) (v := ?_) rfl (by kernel_rfl) (by kernel_rfl) (by kernel_rfl) (fun _ _ _ h => h) (Or.inl ⟨by rfl, ?_⟩) (by assumption) ?_
      rotate_left
      · intro X hSX; (try dsimp only at hSX); go_simp; rfl
      try simp only [Act.put, List.setIfInBounds_toArray, List.set_cons_zero, List.set_cons_succ]
      refine wpAnyH_take (i := 2) (v := ?_) rfl (by kernel_rfl) (by kernel_rfl) (by kernel_rfl) (fun _ _ _ h => h) (Or.inl ⟨by rfl, ?_⟩) (by assumption) ?_
      rotate_left
      · intro X hSX; (try dsimp only at hSX); go_simp; rfl
      try simp only [Act.put, List.setIfInBounds_toArray, List.set_cons_zero, List.set_cons_succ]
      refine wpAnyH_take (i := 3) (v := ?_) rfl (by kernel_rfl) (by kernel_rfl) (by kernel_rfl) (fun _ _ _ h => h) (Or.inl ⟨by rfl, ?_⟩) (by assumption) ?_
      rotate_left
      · intro X hSX; (try dsimp only at hSX); go_simp; rfl
      try simp only [Act.put, List.setIfInBounds_toArray, List.set_cons_zero, List.set_cons_succ]
      refine wpAnyH_take (i := 4) (v := ?_) rfl (by kernel_rfl) (by kernel_rfl) (by kernel_rfl) (fun _ _ _ h => h) (Or.inl ⟨by rfl, ?_⟩) (by assumption) ?_
      rotate_left
      · intro X hSX; (try dsimp only at hSX); go_simp; rfl
      try simp only [Act.put, List.setIfInBounds_toArray, List.set_cons_zero, List.set_cons_succ]
      refine wpAnyH_take (i := 5) (v := ?_) rfl (by kernel_rfl) (by kernel_rfl) (by kernel_rfl) (fun _ _ _ h => h) (Or.inl ⟨by rfl, ?_⟩) (by assumption) ?_
      rotate_left
      · intro X hSX; (try dsimp only at hSX); go_simp; rfl
      try simp only [Act.put, List.setIfInBounds_toArray, List.set_cons_zero, List.set_cons_succ]
      refine wpAnyH_take (i := 6) (v := ?_) rfl (by kernel_rfl) (by kernel_rfl) (by kernel_rfl) (fun _ _ _ h => h) (Or.inl ⟨by rfl, ?_⟩) (by assumption) ?_
      rotate_left
      · intro X hSX; (try dsimp only at hSX); go_simp; rfl
      try simp only [Act.put, List.setIfInBounds_toArray, List.set_cons_zero, List.set_cons_succ]
      refine wpAnyH_ready (rs := [0, 7]) (by kernel_rfl) (by simp) ?_
      refine AllReadyH.cons rfl (fun K hK => ?_) (AllReadyH.cons rfl (fun K hK => ?_) AllReadyH.nil)
      · go_simp
        refine hK.out _ _ hS (fun _ => ?_)
        clear hK K
        try simp only [Act.put, List.setIfInBounds_toArray, List.set_cons_zero, List.set_cons_succ]
        refine wpAnyH_ready (rs := [7]) (by kernel_rfl) (by simp) ?_
        refine AllReadyH.cons rfl (fun K hK => ?_) AllReadyH.nil
        go_simp
        refine (hP _ hTW).out.mono ?_
        rintro e w3 ⟨rfl, hb3⟩
        replace hb3 := below_ofDrew (a := W) hb3
        have hB3 := Below.transB hB (Nat.le_refl _) hb3
        have hv3 : Boxed w3 w.heap.size 36 (.slice A2 pre.length cp2) := (hb3.block _ hv.lt).trans hv
        have hc3 := hv3.cell
        have hrow3 := own_below hrow hb3
        have hS3 : w3.cell? ⟨g, o + 2 * k, none⟩ = some (.int .i64 (l[2 * k]'(by omega))) ∧ w3.cell? ⟨g, o + 2 * k + 1, none⟩ = some (.int .i64 l[2 * k + 1]) := ⟨(hb3.cell (p := ⟨g, o + 2 * k, none⟩) hgb).trans c0, (hb3.cell (p := ⟨g, o + 2 * k + 1, none⟩) hgb).trans c1⟩
        have hs3 := hB3.size
        have hu3 : w.heap.size + 3 ≤ w3.heap.size := Nat.le_trans hu hb3.size
        dsimp only
        refine hK.out _ _ hS3 (fun _ => ?_)
        clear hK K
        try simp only [Act.put, List.setIfInBounds_toArray, List.set_cons_zero, List.set_cons_succ]
        refine wpAnyH_ready (rs := [8]) (by kernel_rfl) (by simp) ?_
        refine AllReadyH.cons rfl (fun K hK => ?_) AllReadyH.nil
        go_simp
        refine hK.out _ _ ⟨(World.cell?_alloc_lt _ _ _ (by show g < _; omega)).trans hS3.1, (World.cell?_alloc_lt _ _ _ (by show g < _; omega)).trans hS3.2⟩ (fun _ => ?_)
        clear hK K
        try simp only [Act.put, List.setIfInBounds_toArray, List.set_cons_zero, List.set_cons_succ]
        refine wpAnyH_ready (rs := [9]) (by kernel_rfl) (by simp) ?_
        refine AllReadyH.cons rfl (fun K hK => ?_) AllReadyH.nil
        have HAO := hrow3.alloc (.cells #[.int .i64 (pairF (l[2 * k]'(by omega)) l[2 * k + 1])] 3)
        refine step_appendMany' rfl _ _ 36 rfl (w.heap.size + 3) 3 i0 (.int .i64 0) 1 8 Tryd.underlying36 hi hz0 hz1 hz2 rfl (by decide) (by decide) A2 pre.length cp2 _ rfl HAO _ 1 _ [.int .i64 (pairF (l[2 * k]'(by omega)) l[2 * k + 1])] rfl (BX.rd1 (BX.new w3 #[.int .i64 (pairF (l[2 * k]'(by omega)) l[2 * k + 1])] 3)) (fun h => by cases h) (by simp [Value.oneCell']) (by omega) (by simp; omega) ?_
        intro A' c' w4 hown4 hg4 hpl4
        obtain ⟨hv4, hv5, hr5⟩ := box_push hv3 hrow3 (by omega) hown4 hg4
        have hc4 := hv4.cell
        have hf4 := hv4.frozen
        have hS4 : w4.cell? ⟨g, o + 2 * k, none⟩ = some (.int .i64 (l[2 * k]'(by omega))) ∧ w4.cell? ⟨g, o + 2 * k + 1, none⟩ = some (.int .i64 l[2 * k + 1]) := ⟨cell_push hg4 (by omega) (own_far hrow3 (by omega)) hS3.1, cell_push hg4 (by omega) (own_far hrow3 (by omega)) hS3.2⟩
        have hS5 : (w4.setCell ⟨w.heap.size, 0, none⟩ (.slice A' (pre.length + 1) c')).cell? ⟨g, o + 2 * k, none⟩ = some (.int .i64 (l[2 * k]'(by omega))) ∧ (w4.setCell ⟨w.heap.size, 0, none⟩ (.slice A' (pre.length + 1) c')).cell? ⟨g, o + 2 * k + 1, none⟩ = some (.int .i64 l[2 * k + 1]) := ⟨(World.cell?_setCell_far _ _ _ _ (by show w.heap.size ≠ g; omega)).trans hS4.1, (World.cell?_setCell_far _ _ _ _ (by show w.heap.size ≠ g; omega)).trans hS4.2⟩
        refine hK.out _ _ hS4 (fun _ => ?_)
        clear hK K
        try simp only [Act.put, List.setIfInBounds_toArray, List.set_cons_zero, List.set_cons_succ]
        refine wpAnyH_ready (rs := [10]) (by kernel_rfl) (by simp) ?_
        refine AllReadyH.cons rfl (fun K hK => ?_) AllReadyH.nil
        go_simp
        refine hK.out _ _ hS5 (fun _ => ?_)
        clear hK K
        try simp only [Act.put, List.setIfInBounds_toArray, List.set_cons_zero, List.set_cons_succ]
        refine wpAnyH_done (by kernel_rfl) ?_ _
        have hkeep := body_keeps (v' := .slice A' (pre.length + 1) c') hB3 hs3 hu3 hrow3 hg4 hv4
        gi_wp2
        exact ⟨by rw [hsw]; exact KeepsFrom.trans (below_keeps hb3 ) hkeep.1, ⟨(hkeep.2.1 _ (by omega) (by omega)).trans (hb3.block _ (by omega)), (hkeep.2.1 _ (by omega) (by omega)).trans (hb3.block _ (by omega))⟩, ⟨⟨_, hv5, by rw [List.map_append]; simpa [cellsI, hp] using hr5⟩, hkeep.2.2, Nat.le_trans hu3 hkeep.1.size⟩⟩
      · go_simp
        refine (hP _ hTW).out.mono ?_
        rintro e w3 ⟨rfl, hb3⟩
        replace hb3 := below_ofDrew (a := W) hb3
        have hB3 := Below.transB hB (Nat.le_refl _) hb3
        have hv3 : Boxed w3 w.heap.size 36 (.slice A2 pre.length cp2) := (hb3.block _ hv.lt).trans hv
        have hc3 := hv3.cell
        have hrow3 := own_below hrow hb3
        have hS3 : w3.cell? ⟨g, o + 2 * k, none⟩ = some (.int .i64 (l[2 * k]'(by omega))) ∧ w3.cell? ⟨g, o + 2 * k + 1, none⟩ = some (.int .i64 l[2 * k + 1]) := ⟨(hb3.cell (p := ⟨g, o + 2 * k, none⟩) hgb).trans c0, (hb3.cell (p := ⟨g, o + 2 * k + 1, none⟩) hgb).trans c1⟩
        have hs3 := hB3.size
        have hu3 : w.heap.size + 3 ≤ w3.heap.size := Nat.le_trans hu hb3.size
        dsimp only
        refine hK.out _ _ hS3 (fun _ => ?_)
        clear hK K
        try simp only [Act.put, List.setIfInBounds_toArray, List.set_cons_zero, List.set_cons_succ]
        refine wpAnyH_ready (rs := [0, 8]) (by kernel_rfl) (by simp) ?_
        refine AllReadyH.cons rfl (fun K hK => ?_) (AllReadyH.cons rfl (fun K hK => ?_) AllReadyH.nil)
        · go_simp
          refine hK.out _ _ hS3 (fun _ => ?_)
          clear hK K
          try simp only [Act.put, List.setIfInBounds_toArray, List.set_cons_zero, List.set_cons_succ]
          refine wpAnyH_ready (rs := [8]) (by kernel_rfl) (by simp) ?_
          refine AllReadyH.cons rfl (fun K hK => ?_) AllReadyH.nil
          go_simp
          refine hK.out _ _ ⟨(World.cell?_alloc_lt _ _ _ (by show g < _; omega)).trans hS3.1, (World.cell?_alloc_lt _ _ _ (by show g < _; omega)).trans hS3.2⟩ (fun _ => ?_)
          clear hK K
          try simp only [Act.put, List.setIfInBounds_toArray, List.set_cons_zero, List.set_cons_succ]
          refine wpAnyH_ready (rs := [9]) (by kernel_rfl) (by simp) ?_
          refine AllReadyH.cons rfl (fun K hK => ?_) AllReadyH.nil
          have HAO := hrow3.alloc (.cells #[.int .i64 (pairF (l[2 * k]'(by omega)) l[2 * k + 1])] 3)
          refine step_appendMany' rfl _ _ 36 rfl (w.heap.size + 3) 3 i0 (.int .i64 0) 1 8 Tryd.underlying36 hi hz0 hz1 hz2 rfl (by decide) (by decide) A2 pre.length cp2 _ rfl HAO _ 1 _ [.int .i64 (pairF (l[2 * k]'(by omega)) l[2 * k + 1])] rfl (BX.rd1 (BX.new w3 #[.int .i64 (pairF (l[2 * k]'(by omega)) l[2 * k + 1])] 3)) (fun h => by cases h) (by simp [Value.oneCell']) (by omega) (by simp; omega) ?_
          intro A' c' w4 hown4 hg4 hpl4
          obtain ⟨hv4, hv5, hr5⟩ := box_push hv3 hrow3 (by omega) hown4 hg4
          have hc4 := hv4.cell
          have hf4 := hv4.frozen
          have hS4 : w4.cell? ⟨g, o + 2 * k, none⟩ = some (.int .i64 (l[2 * k]'(by omega))) ∧ w4.cell? ⟨g, o + 2 * k + 1, none⟩ = some (.int .i64 l[2 * k + 1]) := ⟨cell_push hg4 (by omega) (own_far hrow3 (by omega)) hS3.1, cell_push hg4 (by omega) (own_far hrow3 (by omega)) hS3.2⟩
          have hS5 : (w4.setCell ⟨w.heap.size, 0, none⟩ (.slice A' (pre.length + 1) c')).cell? ⟨g, o + 2 * k, none⟩ = some (.int .i64 (l[2 * k]'(by omega))) ∧ (w4.setCell ⟨w.heap.size, 0, none⟩ (.slice A' (pre.length + 1) c')).cell? ⟨g, o + 2 * k + 1, none⟩ = some (.int .i64 l[2 * k + 1]) := ⟨(World.cell?_setCell_far _ _ _ _ (by show w.heap.size ≠ g; omega)).trans hS4.1, (World.cell?_setCell_far _ _ _ _ (by show w.heap.size ≠ g; omega)).trans hS4.2⟩
          refine hK.out _ _ hS4 (fun _ => ?_)
          clear hK K
          try simp only [Act.put, List.setIfInBounds_toArray, List.set_cons_zero, List.set_cons_succ]
          refine wpAnyH_ready (rs := [10]) (by kernel_rfl) (by simp) ?_
          refine AllReadyH.cons rfl (fun K hK => ?_) AllReadyH.nil
          go_simp
          refine hK.out _ _ hS5 (fun _ => ?_)
          clear hK K
          try simp only [Act.put, List.setIfInBounds_toArray, List.set_cons_zero, List.set_cons_succ]
          refine wpAnyH_done (by kernel_rfl) ?_ _
          have hkeep := body_keeps (v' := .slice A' (pre.length + 1) c') hB3 hs3 hu3 hrow3 hg4 hv4
          gi_wp2
          exact ⟨by rw [hsw]; exact KeepsFrom.trans (below_keeps hb3 ) hkeep.1, ⟨(hkeep.2.1 _ (by omega) (by omega)).trans (hb3.block _ (by omega)), (hkeep.2.1 _ (by omega) (by omega)).trans (hb3.block _ (by omega))⟩, ⟨⟨_, hv5, by rw [List.map_append]; simpa [cellsI, hp] using hr5⟩, hkeep.2.2, Nat.le_trans hu3 hkeep.1.size⟩⟩
        · go_simp
          refine hK.out _ _ ⟨(World.cell?_alloc_lt _ _ _ (by show g < _; omega)).trans hS3.1, (World.cell?_alloc_lt _ _ _ (by show g < _; omega)).trans hS3.2⟩ (fun _ => ?_)
          clear hK K
          try simp only [Act.put, List.setIfInBounds_toArray, List.set_cons_zero, List.set_cons_succ]
          refine wpAnyH_ready (rs := [0]) (by kernel_rfl) (by simp) ?_
          refine AllReadyH.cons rfl (fun K hK => ?_) AllReadyH.nil
          have hc3a := (hv3.alloc (.cells #[.int .i64 (pairF (l[2 * k]'(by omega)) l[2 * k + 1])] 3)).cell
          go_simp
          refine hK.out _ _ ⟨(World.cell?_alloc_lt _ _ _ (by show g < _; omega)).trans hS3.1, (World.cell?_alloc_lt _ _ _ (by show g < _; omega)).trans hS3.2⟩ (fun _ => ?_)
          clear hK K
          try simp only [Act.put, List.setIfInBounds_toArray, List.set_cons_zero, List.set_cons_succ]
          refine wpAnyH_ready (rs := [9]) (by kernel_rfl) (by simp) ?_
          refine AllReadyH.cons rfl (fun K hK => ?_) AllReadyH.nil
          have HAO := hrow3.alloc (.cells #[.int .i64 (pairF (l[2 * k]'(by omega)) l[2 * k + 1])] 3)
          refine step_appendMany' rfl _ _ 36 rfl (w.heap.size + 3) 3 i0 (.int .i64 0) 1 8 Tryd.underlying36 hi hz0 hz1 hz2 rfl (by decide) (by decide) A2 pre.length cp2 _ rfl HAO _ 1 _ [.int .i64 (pairF (l[2 * k]'(by omega)) l[2 * k + 1])] rfl (BX.rd1 (BX.new w3 #[.int .i64 (pairF (l[2 * k]'(by omega)) l[2 * k + 1])] 3)) (fun h => by cases h) (by simp [Value.oneCell']) (by omega) (by simp; omega) ?_
          intro A' c' w4 hown4 hg4 hpl4
          obtain ⟨hv4, hv5, hr5⟩ := box_push hv3 hrow3 (by omega) hown4 hg4
          have hc4 := hv4.cell
          have hf4 := hv4.frozen
          have hS4 : w4.cell? ⟨g, o + 2 * k, none⟩ = some (.int .i64 (l[2 * k]'(by omega))) ∧ w4.cell? ⟨g, o + 2 * k + 1, none⟩ = some (.int .i64 l[2 * k + 1]) := ⟨cell_push hg4 (by omega) (own_far hrow3 (by omega)) hS3.1, cell_push hg4 (by omega) (own_far hrow3 (by omega)) hS3.2⟩
          have hS5 : (w4.setCell ⟨w.heap.size, 0, none⟩ (.slice A' (pre.length + 1) c')).cell? ⟨g, o + 2 * k, none⟩ = some (.int .i64 (l[2 * k]'(by omega))) ∧ (w4.setCell ⟨w.heap.size, 0, none⟩ (.slice A' (pre.length + 1) c')).cell? ⟨g, o + 2 * k + 1, none⟩ = some (.int .i64 l[2 * k + 1]) := ⟨(World.cell?_setCell_far _ _ _ _ (by show w.heap.size ≠ g; omega)).trans hS4.1, (World.cell?_setCell_far _ _ _ _ (by show w.heap.size ≠ g; omega)).trans hS4.2⟩
          refine hK.out _ _ hS4 (fun _ => ?_)
          clear hK K
          try simp only [Act.put, List.setIfInBounds_toArray, List.set_cons_zero, List.set_cons_succ]
          refine wpAnyH_ready (rs := [10]) (by kernel_rfl) (by simp) ?_
          refine AllReadyH.cons rfl (fun K hK => ?_) AllReadyH.nil
          go_simp
          refine hK.out _ _ hS5 (fun _ => ?_)
          clear hK K
          try simp only [Act.put, List.setIfInBounds_toArray, List.set_cons_zero, List.set_cons_succ]
          refine wpAnyH_done (by kernel_rfl) ?_ _
          have hkeep := body_keeps (v' := .slice A' (pre.length + 1) c') hB3 hs3 hu3 hrow3 hg4 hv4
          gi_wp2
          exact ⟨by rw [hsw]; exact KeepsFrom.trans (below_keeps hb3 ) hkeep.1, ⟨(hkeep.2.1 _ (by omega) (by omega)).trans (hb3.block _ (by omega)), (hkeep.2.1 _ (by omega) (by omega)).trans (hb3.block _ (by omega))⟩, ⟨⟨_, hv5, by rw [List.map_append]; simpa [cellsI, hp] using hr5⟩, hkeep.2.2, Nat.le_trans hu3 hkeep.1.size⟩⟩

    · have c0 := hci (2 * k) (by omega)
      have e1 : min 2 (l.length - 2 * k) = 1 := by omega
      have hp := pieceF_one l k hq (by omega)
      have hbd := (Below.refl W.heap.size W).drew
      have hB3 := hB.drew
      have hs3 : w.heap.size ≤ W.drew.heap.size := hB.size
      have hv3 : Boxed W.drew w.heap.size 36 (.slice A2 pre.length cp2) := hv
      have hrow3 := own_below hrow hbd
      have hc3 := hv3.cell
      have hu3 : w.heap.size + 3 ≤ W.drew.heap.size := hu
      have hS3 : W.drew.cell? ⟨g, o + 2 * k, none⟩ = some (.int .i64 (l[2 * k]'(by omega))) := c0
      unfold chunkV
      rw [e1]
      gi_wp2
      refine wpIn_region_held (S := fun X => X.cell? ⟨g, o + 2 * k, none⟩ = some (.int .i64 (l[2 * k]'(by omega)))) hmix (by kernel_rfl) ?_ c0 (fun hS => ?_)
      · rintro ⟨a9, w9, h9⟩
        exact h9
      generalize W.drew = w3 at hbd hB3 hs3 hv3 hrow3 hc3 hu3 hS3 hS ⊢
      refine wpAnyH_take (i := 1) (v := ?_) rfl (by kernel_rfl) (by kernel_rfl) (by kernel_rfl) (fun _ _ _ h => h) (Or.inl ⟨by rfl, ?_⟩) (by assumption) ?_
      rotate_left
      · intro X hSX; (try dsimp only at hSX); go_simp; rfl
      try simp only [Act.put, List.setIfInBounds_toArray, List.set_cons_zero, List.set_cons_succ]
      refine wpAnyH_take (i := 2) (v := ?_) rfl (by kernel_rfl) (by kernel_rfl) (by kernel_rfl) (fun _ _ _ h => h) (Or.inl ⟨by rfl, ?_⟩) (by assumption) ?_
      rotate_left
      · intro X hSX; (try dsimp only at hSX); go_simp; rfl
      try simp only [Act.put, List.setIfInBounds_toArray, List.set_cons_zero, List.set_cons_succ]
      refine wpAnyH_take (i := 3) (v := ?_) rfl (by kernel_rfl) (by kernel_rfl) (by kernel_rfl) (fun _ _ _ h => h) (Or.inl ⟨by rfl, ?_⟩) (by assumption) ?_
      rotate_left
      · intro X hSX; (try dsimp only at hSX); go_simp; rfl
      try simp only [Act.put, List.setIfInBounds_toArray, List.set_cons_zero, List.set_cons_succ]
      refine wpAnyH_ready (rs := [0, 4]) (by kernel_rfl) (by simp) ?_
      refine AllReadyH.cons rfl (fun K hK => ?_) (AllReadyH.cons rfl (fun K hK => ?_) AllReadyH.nil)
      · go_simp
        refine hK.out _ _ hS3 (fun _ => ?_)
        clear hK K
        try simp only [Act.put, List.setIfInBounds_toArray, List.set_cons_zero, List.set_cons_succ]
        refine wpAnyH_ready (rs := [4]) (by kernel_rfl) (by simp) ?_
        refine AllReadyH.cons rfl (fun K hK => ?_) AllReadyH.nil
        go_simp
        refine hK.out _ _ ((World.cell?_alloc_lt _ _ _ (by show g < _; omega)).trans hS3) (fun _ => ?_)
        clear hK K
        try simp only [Act.put, List.setIfInBounds_toArray, List.set_cons_zero, List.set_cons_succ]
        refine wpAnyH_ready (rs := [5]) (by kernel_rfl) (by simp) ?_
        refine AllReadyH.cons rfl (fun K hK => ?_) AllReadyH.nil
        have HAO := hrow3.alloc (.cells #[.int .i64 (l[2 * k]'(by omega))] 3)
        refine step_appendMany' rfl _ _ 36 rfl (w.heap.size + 3) 3 i0 (.int .i64 0) 1 8 Tryd.underlying36 hi hz0 hz1 hz2 rfl (by decide) (by decide) A2 pre.length cp2 _ rfl HAO _ 1 _ [.int .i64 (l[2 * k]'(by omega))] rfl (BX.rd1 (BX.new w3 #[.int .i64 (l[2 * k]'(by omega))] 3)) (fun h => by cases h) (by simp [Value.oneCell']) (by omega) (by simp; omega) ?_
        intro A' c' w4 hown4 hg4 hpl4
        obtain ⟨hv4, hv5, hr5⟩ := box_push hv3 hrow3 (by omega) hown4 hg4
        have hc4 := hv4.cell
        have hf4 := hv4.frozen
        have hS4 : w4.cell? ⟨g, o + 2 * k, none⟩ = some (.int .i64 (l[2 * k]'(by omega))) := cell_push hg4 (by omega) (own_far hrow3 (by omega)) hS3
        have hS5 : (w4.setCell ⟨w.heap.size, 0, none⟩ (.slice A' (pre.length + 1) c')).cell? ⟨g, o + 2 * k, none⟩ = some (.int .i64 (l[2 * k]'(by omega))) := (World.cell?_setCell_far _ _ _ _ (by show w.heap.size ≠ g; omega)).trans hS4
        refine hK.out _ _ hS4 (fun _ => ?_)
        clear hK K
        try simp only [Act.put, List.setIfInBounds_toArray, List.set_cons_zero, List.set_cons_succ]
        refine wpAnyH_ready (rs := [6]) (by kernel_rfl) (by simp) ?_
        refine AllReadyH.cons rfl (fun K hK => ?_) AllReadyH.nil
        go_simp
        refine hK.out _ _ hS5 (fun _ => ?_)
        clear hK K
        try simp only [Act.put, List.setIfInBounds_toArray, List.set_cons_zero, List.set_cons_succ]
        refine wpAnyH_done (by kernel_rfl) ?_ _
        have hkeep := body_keeps (v' := .slice A' (pre.length + 1) c') hB3 hs3 hu3 hrow3 hg4 hv4
        gi_wp2
        exact ⟨by rw [hsw]; exact KeepsFrom.trans (below_keeps hbd ) hkeep.1, ⟨(hkeep.2.1 _ (by omega) (by omega)).trans (hbd.block _ (by omega)), (hkeep.2.1 _ (by omega) (by omega)).trans (hbd.block _ (by omega))⟩, ⟨⟨_, hv5, by rw [List.map_append]; simpa [cellsI, hp] using hr5⟩, hkeep.2.2, Nat.le_trans hu3 hkeep.1.size⟩⟩
      · go_simp
        refine hK.out _ _ ((World.cell?_alloc_lt _ _ _ (by show g < _; omega)).trans hS3) (fun _ => ?_)
        clear hK K
        try simp only [Act.put, List.setIfInBounds_toArray, List.set_cons_zero, List.set_cons_succ]
        refine wpAnyH_ready (rs := [0]) (by kernel_rfl) (by simp) ?_
        refine AllReadyH.cons rfl (fun K hK => ?_) AllReadyH.nil
        have hc3a := (hv3.alloc (.cells #[.int .i64 (l[2 * k]'(by omega))] 3)).cell
        go_simp
        refine hK.out _ _ ((World.cell?_alloc_lt _ _ _ (by show g < _; omega)).trans hS3) (fun _ => ?_)
        clear hK K
        try simp only [Act.put, List.setIfInBounds_toArray, List.set_cons_zero, List.set_cons_succ]
        refine wpAnyH_ready (rs := [5]) (by kernel_rfl) (by simp) ?_
        refine AllReadyH.cons rfl (fun K hK => ?_) AllReadyH.nil
        have HAO := hrow3.alloc (.cells #[.int .i64 (l[2 * k]'(by omega))] 3)
        refine step_appendMany' rfl _ _ 36 rfl (w.heap.size + 3) 3 i0 (.int .i64 0) 1 8 Tryd.underlying36 hi hz0 hz1 hz2 rfl (by decide) (by decide) A2 pre.length cp2 _ rfl HAO _ 1 _ [.int .i64 (l[2 * k]'(by omega))] rfl (BX.rd1 (BX.new w3 #[.int .i64 (l[2 * k]'(by omega))] 3)) (fun h => by cases h) (by simp [Value.oneCell']) (by omega) (by simp; omega) ?_
        intro A' c' w4 hown4 hg4 hpl4
        obtain ⟨hv4, hv5, hr5⟩ := box_push hv3 hrow3 (by omega) hown4 hg4
        have hc4 := hv4.cell
        have hf4 := hv4.frozen
        have hS4 : w4.cell? ⟨g, o + 2 * k, none⟩ = some (.int .i64 (l[2 * k]'(by omega))) := cell_push hg4 (by omega) (own_far hrow3 (by omega)) hS3
        have hS5 : (w4.setCell ⟨w.heap.size, 0, none⟩ (.slice A' (pre.length + 1) c')).cell? ⟨g, o + 2 * k, none⟩ = some (.int .i64 (l[2 * k]'(by omega))) := (World.cell?_setCell_far _ _ _ _ (by show w.heap.size ≠ g; omega)).trans hS4
        refine hK.out _ _ hS4 (fun _ => ?_)
        clear hK K
        try simp only [Act.put, List.setIfInBounds_toArray, List.set_cons_zero, List.set_cons_succ]
        refine wpAnyH_ready (rs := [6]) (by kernel_rfl) (by simp) ?_
        refine AllReadyH.cons rfl (fun K hK => ?_) AllReadyH.nil
        go_simp
        refine hK.out _ _ hS5 (fun _ => ?_)
        clear hK K
        try simp only [Act.put, List.setIfInBounds_toArray, List.set_cons_zero, List.set_cons_succ]
        refine wpAnyH_done (by kernel_rfl) ?_ _
        have hkeep := body_keeps (v' := .slice A' (pre.length + 1) c') hB3 hs3 hu3 hrow3 hg4 hv4
        gi_wp2
        exact ⟨by rw [hsw]; exact KeepsFrom.trans (below_keeps hbd ) hkeep.1, ⟨(hkeep.2.1 _ (by omega) (by omega)).trans (hbd.block _ (by omega)), (hkeep.2.1 _ (by omega) (by omega)).trans (hbd.block _ (by omega))⟩, ⟨⟨_, hv5, by rw [List.map_append]; simpa [cellsI, hp] using hr5⟩, hkeep.2.2, Nat.le_trans hu3 hkeep.1.size⟩⟩

  case done =>
    rintro D ys W hD rfl ⟨⟨v, hv, hrow⟩, hB, hu⟩ hK
    have hc := hv.cell
    have hmap : (ups l.length ((l.length + 1) / 2)).map (fun x => pieceF l x.1) = roundF l := by rw [ups_map l _ (by omega), round_pieces]
    have hlen : (ups l.length ((l.length + 1) / 2)).length = (roundF l).length := by rw [← hmap]; simp
    rw [hmap, hlen] at hrow
    obtain ⟨A2, cp2, rfl⟩ := own_form hrow
    gi_wp2
    refine ⟨by simp, .inl ⟨_, _, rfl, run_takeDeferred hK, ?_⟩⟩
    exact ⟨_, results_tmp rfl _ _ _, _, rfl, ⟨A2, cp2, rfl, own_base (ownsRow_putObj hrow _ hK rfl) (by omega)⟩, hB.trans (belowK_b (w := w) (Nat.le_refl _) W D _ _ (by simp at hD; omega) hK rfl rfl)⟩
  case stop =>
    rintro D c pre W _ _ h _
    exact h.elim

end Go.Proofs.YtcajnbjonilljaaDoor
