/-
  The places of a word in a text, by the program: a range over strings.SplitSeq.
  Conditions: those written at each theorem.
-/
import Derived.Test.YtllnnkiehckegaaDoorP15u
import Derived.Test.YtllnnkiehckegaaDoorRfBox
namespace Go.Proofs.YtllnnkiehckegaaDoor
open Go.RowKit Go.Shelf W15
attribute [local go_sem] Oper.semAt_some

set_option maxRecDepth 100000 in
theorem splitMk_any (t : ByteArray) (w : World) :
    Calls Tryd.prog 50 #[.string t, .string ⟨#[32]⟩] w fun e w' => e = .returned (.func (.func 79) #[] #[.pointer (some ⟨w.heap.size + 1, 0, none⟩), .pointer (some ⟨w.heap.size, 0, none⟩), .pointer (some ⟨w.heap.size + 1 + 1, 0, none⟩)])
      ∧ w' = ((w.alloc (.cells #[.string t] 9)).alloc (.cells #[.string ⟨#[32]⟩] 9)).alloc (.cells #[.int .i64 0] 3) := by
  have HS : ∀ W, Hid (Calls Tryd.prog 64 #[.string t, .string ⟨#[32]⟩, .int .i64 0] W fun e w' => e = .returned (.func (.func 79) #[] #[.pointer (some ⟨W.heap.size + 1, 0, none⟩), .pointer (some ⟨W.heap.size, 0, none⟩), .pointer (some ⟨W.heap.size + 1 + 1, 0, none⟩)])
      ∧ w' = ((W.alloc (.cells #[.string t] 9)).alloc (.cells #[.string ⟨#[32]⟩] 9)).alloc (.cells #[.int .i64 0] 3)) := by
    intro W
    refine Lib.hid ?_
    go_enter Tryd.func64, Tryd.ntmps64
    go_wp2
    go_ret
    exact ⟨rfl, rfl⟩
  go_enter Tryd.func50, Tryd.ntmps50
  go_wp2_with (go_at_call 64; refine (HS _).out.mono ?_; rintro e w' ⟨rfl, rfl⟩)
  go_ret
  exact ⟨rfl, rfl⟩

theorem split_stops (m : Nat) (hm : 1 ≤ m) (B1 Bs B3 : Nat) (t : ByteArray) (ht : t.size ≤ 1048576) (h13 : B1 ≠ Bs) (h33 : B3 ≠ Bs) (w : World)
    (h1 : Boxed w B1 9 (.string ⟨#[32]⟩)) (h2 : Boxed w Bs 9 (.string t)) (h3 : Boxed w B3 3 (.int .i64 0)) :
    SeqSt Fence.wide m Tryd.prog 79 #[.pointer (some ⟨B1, 0, none⟩), .pointer (some ⟨Bs, 0, none⟩), .pointer (some ⟨B3, 0, none⟩)] (fun x : ByteArray => #[.string x]) (Kp3 B1 Bs B3) (fun A B => A.grownBy B (some Bs)) (fun ys => ys = pieces t) (t.size + 1) w :=
  fun l J W hW hJ hY h0 => split1_in m hm l B1 Bs B3 t ht h13 h33 J hJ hY W ((hW.block B1 h1.lt).trans h1) ((hW.block Bs h2.lt).trans h2) ((hW.block B3 h3.lt).trans h3) h0

/-- what a piece more makes of the places and of the place at hand -/
def stepP (wd : ByteArray) (s : List Int × Int) (x : ByteArray) : List Int × Int :=
  (if x = wd then s.1 ++ [s.2] else s.1, wrap64 (s.2 + wrap64 ((x.size : Int) + 1)))
def foldP (wd : ByteArray) (l : List ByteArray) : List Int × Int := l.foldl (stepP wd) ([], 0)
theorem foldP_snoc (wd : ByteArray) (l : List ByteArray) (x : ByteArray) : foldP wd (l ++ [x]) = stepP wd (foldP wd l) x := by simp [foldP]
theorem foldP_len (wd : ByteArray) (l : List ByteArray) : (foldP wd l).1.length ≤ l.length := by
  suffices h : ∀ (l : List ByteArray) (s : List Int × Int), (l.foldl (stepP wd) s).1.length ≤ s.1.length + l.length by simpa [foldP] using h l ([], 0)
  intro l
  induction l with
  | nil => intro s; simp
  | cons x r ih =>
    intro s
    rw [List.foldl_cons]
    have := ih (stepP wd s x)
    have h2 : (stepP wd s x).1.length ≤ s.1.length + 1 := by unfold stepP; split <;> simp
    simp; omega

/-- the places of a word -/
def placesF (t wd : ByteArray) : List Int := (placeP (bytesOf wd) 0 (splitL (bytesOf t))).map fun k : Nat => (k : Int)
def totL : List (List UInt8) → Nat
  | [] => 0
  | p :: r => p.length + 1 + totL r
theorem tot_split : ∀ l : List UInt8, totL (splitL l) = l.length + 1
  | [] => rfl
  | c :: r => by
    have ih := tot_split r
    rw [splitL]
    split
    · rw [totL, ih]; simp; omega
    · cases h : splitL r with
      | nil => exact absurd h (splitL_ne r)
      | cons p q => rw [h, totL] at ih; simp only [totL, List.length_cons]; omega
theorem bytes_ext {a b : ByteArray} (h : bytesOf a = bytesOf b) : a = b := by rw [← ofBytes a, ← ofBytes b, h]
theorem bytes_of (p : List UInt8) : bytesOf ⟨p.toArray⟩ = p := by simp [bytesOf]
theorem fold_places (wd : ByteArray) : ∀ (l : List (List UInt8)) (acc : List Int) (k : Nat), k + totL l ≤ 1048577 →
    ((l.map fun p => (⟨p.toArray⟩ : ByteArray)).foldl (stepP wd) (acc, (k : Int))).1 = acc ++ (placeP (bytesOf wd) k l).map fun k : Nat => (k : Int)
  | [], acc, k, _ => by simp [placeP]
  | p :: r, acc, k, h => by
    rw [totL] at h
    have hsz : (⟨p.toArray⟩ : ByteArray).size = p.length := by rw [← len_bytesOf, bytes_of]
    have hw : wrap64 ((k : Int) + wrap64 (((⟨p.toArray⟩ : ByteArray).size : Int) + 1)) = ((k + p.length + 1 : Nat) : Int) := by
      rw [hsz, IntWalk.wrap64_in ((p.length : Int) + 1) (by omega), IntWalk.wrap64_in _ (by omega)]; omega
    rw [List.map_cons, List.foldl_cons, stepP, hw]
    have hiff : ((⟨p.toArray⟩ : ByteArray) = wd) ↔ p = bytesOf wd := ⟨fun e => by rw [← e, bytes_of], fun e => bytes_ext (by rw [bytes_of, e])⟩
    dsimp only
    rw [fold_places wd r _ (k + p.length + 1) (by omega), placeP]
    by_cases e : p = bytesOf wd
    · rw [if_pos (hiff.2 e), if_pos e]; simp
    · rw [if_neg (fun h => e (hiff.1 h)), if_neg e]; simp
theorem foldP_pieces (t wd : ByteArray) (ht : t.size ≤ 1048576) : (foldP wd (pieces t)).1 = placesF t wd := by
  have h := fold_places wd (splitL (bytesOf t)) [] 0 (by rw [tot_split, len_bytesOf]; omega)
  simpa [foldP, pieces, placesF] using h

set_option maxRecDepth 100000 in
set_option maxHeartbeats 4000000 in
theorem placesOf_any (t wd : ByteArray) (ht : t.size ≤ 1048576) (w : World) :
    Calls Tryd.prog 37 #[.string t, .string wd] w fun e w' => ∃ v, e = .returned v ∧ SlI w.heap.size w' (placesF t wd) v ∧ Below w.heap.size w w' := by
  obtain ⟨i0, hi, hz0, hz1, hz2⟩ := info_parts infoI
  refine (callsIn_wide (n := 3)).1 ?_
  have hCh := fun W => Lib.hid (callsIn_wide (n := 2).2 (splitMk_any t W))
  refine callsIn_of_wp_marks Tryd.func37 rfl trivial ?_ rfl
  simp only [Tryd.ntmps37, List.size_toArray, List.length_cons, List.length_nil, Nat.reduceAdd, Nat.reduceSub, Array.replicate_succ, Array.replicate_zero, List.push_toArray, List.append_toArray, List.nil_append, List.cons_append]
  gi_wp2_with (refine ⟨trivial, ?_⟩; gi_at_call 50; refine (hCh _).out.mono ?_; rintro e w' ⟨rfl, rfl⟩)
  have b0 := ((((((Boxed.new w 9 (.string wd)).alloc (.cells #[.slice none 0 0] 31)).alloc (.cells #[.int .i64 0] 3)).alloc (.cells #[.string t] 9)).alloc (.cells #[.string ⟨#[32]⟩] 9)).alloc (.cells #[.int .i64 0] 3))
  have b1 := (((((Boxed.new (w.alloc (.cells #[.string wd] 9)) 31 (.slice none 0 0)).alloc (.cells #[.int .i64 0] 3)).alloc (.cells #[.string t] 9)).alloc (.cells #[.string ⟨#[32]⟩] 9)).alloc (.cells #[.int .i64 0] 3))
  have b2 := ((((Boxed.new ((w.alloc (.cells #[.string wd] 9)).alloc (.cells #[.slice none 0 0] 31)) 3 (.int .i64 0)).alloc (.cells #[.string t] 9)).alloc (.cells #[.string ⟨#[32]⟩] 9)).alloc (.cells #[.int .i64 0] 3))
  have b3 := (((Boxed.new (((w.alloc (.cells #[.string wd] 9)).alloc (.cells #[.slice none 0 0] 31)).alloc (.cells #[.int .i64 0] 3)) 9 (.string t)).alloc (.cells #[.string ⟨#[32]⟩] 9)).alloc (.cells #[.int .i64 0] 3))
  have b4 := ((Boxed.new ((((w.alloc (.cells #[.string wd] 9)).alloc (.cells #[.slice none 0 0] 31)).alloc (.cells #[.int .i64 0] 3)).alloc (.cells #[.string t] 9)) 9 (.string ⟨#[32]⟩)).alloc (.cells #[.int .i64 0] 3))
  have b5 := (Boxed.new (((((w.alloc (.cells #[.string wd] 9)).alloc (.cells #[.slice none 0 0] 31)).alloc (.cells #[.int .i64 0] 3)).alloc (.cells #[.string t] 9)).alloc (.cells #[.string ⟨#[32]⟩] 9)) 3 (.int .i64 0))
  simp only [World.size_alloc] at b1 b2 b3 b4 b5
  have hB0 : Below w.heap.size w ((((((w.alloc (.cells #[.string wd] 9)).alloc (.cells #[.slice none 0 0] 31)).alloc (.cells #[.int .i64 0] 3)).alloc (.cells #[.string t] 9)).alloc (.cells #[.string ⟨#[32]⟩] 9)).alloc (.cells #[.int .i64 0] 3)) := by
    refine Below.alloc ?_ (by simp only [World.size_alloc]; omega) _
    refine Below.alloc ?_ (by simp only [World.size_alloc]; omega) _
    refine Below.alloc ?_ (by simp only [World.size_alloc]; omega) _
    refine Below.alloc ?_ (by simp only [World.size_alloc]; omega) _
    refine Below.alloc ?_ (by simp only [World.size_alloc]; omega) _
    exact Below.alloc (Below.refl _ _) (Nat.le_refl _) _
  have hs6 : ((((((w.alloc (.cells #[.string wd] 9)).alloc (.cells #[.slice none 0 0] 31)).alloc (.cells #[.int .i64 0] 3)).alloc (.cells #[.string t] 9)).alloc (.cells #[.string ⟨#[32]⟩] 9)).alloc (.cells #[.int .i64 0] 3)).heap.size = w.heap.size + 6 := by simp only [World.size_alloc]
  generalize ((((((w.alloc (.cells #[.string wd] 9)).alloc (.cells #[.slice none 0 0] 31)).alloc (.cells #[.int .i64 0] 3)).alloc (.cells #[.string t] 9)).alloc (.cells #[.string ⟨#[32]⟩] 9)).alloc (.cells #[.int .i64 0] 3)) = W6 at b0 b1 b2 b3 b4 b5 hB0 hs6 ⊢
  refine wpIn_rangeFunc_st rfl (by omega) (gf := 79) (lb := #[.pointer (some ⟨w.heap.size + 1 + 1 + 1 + 1, 0, none⟩), .pointer (some ⟨w.heap.size + 1 + 1 + 1, 0, none⟩), .pointer (some ⟨w.heap.size + 1 + 1 + 1 + 1 + 1, 0, none⟩)]) rfl trivial (enters_of Tryd.func79 (by kernel_rfl) rfl)
    (split_stops 2 (by omega) (w.heap.size + 1 + 1 + 1 + 1) (w.heap.size + 1 + 1 + 1) (w.heap.size + 1 + 1 + 1 + 1 + 1) t ht (by omega) (by omega) W6 b4 b3 b5)
    (fun h k => ⟨k.1.trans h.1, k.2.1.trans h.2.1, k.2.2.trans h.2.2⟩)
    (fun W lx ob ob' hl1 hl2 hl3 => ⟨World.putObj_heap_other (by omega), World.putObj_heap_other (by omega), World.putObj_heap_other (by omega)⟩)
    (Below.refl _ _) (fun _ => rfl)
    (fun pre W => (∃ v, Boxed W (w.heap.size + 1) 31 v ∧ W.ownsRow (w.heap.size + 6) 3 1 v (foldP wd pre).1.length (cellsI (foldP wd pre).1)) ∧ (Boxed W (w.heap.size + 1 + 1) 3 (.int .i64 (foldP wd pre).2) ∧ Boxed W w.heap.size 9 (.string wd)) ∧ Below w.heap.size w W ∧ w.heap.size + 6 ≤ W.heap.size)
    (OwnFrom.and (Own.from (fun s X Y row hs hg hrow => by
      obtain ⟨v, hv, hr⟩ := hs
      obtain ⟨v2, h1, h2, _⟩ := holdsRow_own (w.heap.size + 6) (w.heap.size + 1) 31 3 1 (fun s : List ByteArray => (foldP wd s).1.length) (fun s => cellsI (foldP wd s).1) (fun _ _ => True) s X Y row ⟨v, hv, hr, trivial⟩ hg hrow
      exact ⟨v2, h1, h2⟩) _) (OwnFrom.and (OwnFrom.and (Own.from (boxed_own _ _ _) _) (Own.from (boxed_own _ _ _) _)) (OwnFrom.and (ownFrom_below (Nat.le_refl _) (by omega)) (fun s X Y row hs hg hrow => Nat.le_trans hs hg.size))))
    (fun s X Y hs hg => by
      obtain ⟨⟨v, hv, hr⟩, ⟨h2, h0⟩, hB, hu⟩ := hs
      refine ⟨⟨v, hv.kept hg (by simp), hr.kept hg ?_⟩, ⟨h2.kept hg (by simp), h0.kept hg (by simp; omega)⟩, hB.grown hg hB.size (fun k e => by cases e; omega), Nat.le_trans hu hg.size⟩
      cases ho : v.ownBlock with
      | none => exact .inl rfl
      | some k => exact .inr (fun e => by cases e; have := (hr.lt _ ho).1; omega))
    (fun X Y k o hg hk h => (hg.block k (Array.getElem?_eq_some_iff.1 h).1 (fun e => by cases e; omega)).trans h)
    ⟨⟨_, b1, World.ownsRow_nil _ _ _ _⟩, ⟨b2, b0⟩, hB0, by omega⟩
    (fun x => { tmps := #[.string t, .string wd, undef, .pointer (some ⟨w.heap.size, 0, none⟩), .slice none 0 0, .pointer (some ⟨w.heap.size + 1, 0, none⟩), .pointer (some ⟨w.heap.size + 1 + 1, 0, none⟩), .string x, .string t, .func (.func 79) #[] #[.pointer (some ⟨w.heap.size + 1 + 1 + 1 + 1, 0, none⟩), .pointer (some ⟨w.heap.size + 1 + 1 + 1, 0, none⟩), .pointer (some ⟨w.heap.size + 1 + 1 + 1 + 1 + 1, 0, none⟩)], .string x, undef, undef, undef, undef, undef, undef, undef, undef, undef, undef, undef, undef, undef], defers := [] }) ?assign ?body ?done
  case assign =>
    intro lx x W K hK
    gi_wp2
    exact hK
  case body =>
    rintro lx pre x W hw6 ⟨⟨v, hv, hrow⟩, ⟨h2, h0⟩, hB, hu⟩ hlt
    have hpl := foldP_len wd pre
    have c1 := hv.cell
    have c2 := h2.cell
    have f2 := h2.frozen
    have c0 := h0.cell
    obtain ⟨A2, cp2, rfl⟩ := own_form hrow
    have hsn := Lib.hid (foldP_snoc wd pre x)
    by_cases hx : x = wd
    · subst hx
      gi_wp2_with (gi_at_builtin; refine wpListIn_append_own _ rfl _ _ 31 rfl (w.heap.size + 6) 3 i0 (.int .i64 0) 1 8 Tryd.underlying31 hi hz0 hz1 hz2 rfl (by decide) _ _ _ rfl (hrow.alloc _) ⟨W.heap.size, 0, none⟩ 1 1 [.int .i64 (foldP x pre).2] rfl rfl (cell_one_new _ _ _) (by simp [Value.oneCell']) (by unfold maxLen; omega) (by omega) (by simp; omega) ?_; intro v' w1 hown' hgrow _; obtain ⟨g', cap', rfl⟩ := ownsRow_succ hown'; obtain ⟨hv1, hv2, hr2⟩ := box_push hv hrow (by omega) hown' hgrow; have hc1 := hv1.cell; have hf1 := hv1.frozen; have hA1 : Boxed w1 (w.heap.size + 1 + 1) 3 (.int .i64 (foldP x pre).2) := (h2.alloc _).kept hgrow (own_far hrow (by omega)); have hA2 := hA1.other (B' := w.heap.size + 1) (by omega) (.slice (some ⟨g', 0, none⟩) ((foldP x pre).1.length + 1) cap'); have hc2 := hA2.cell; have hf2 := hA2.frozen)
      have hkeep := body_keeps (v' := .slice (some ⟨g', 0, none⟩) ((foldP x pre).1.length + 1) cap') hB hB.size hu hrow hgrow hv1 (B0 := W6.heap.size)
      have e1 : foldP x (pre ++ [x]) = ((foldP x pre).1 ++ [(foldP x pre).2], wrap64 ((foldP x pre).2 + wrap64 ((x.size : Int) + 1))) := by rw [hsn.out, stepP, if_pos rfl]
      have h01 := ((h0.alloc (.cells #[.int .i64 (foldP x pre).2] 3)).kept hgrow (own_far hrow (by omega))).other (B' := w.heap.size + 1) (by omega) (.slice (some ⟨g', 0, none⟩) ((foldP x pre).1.length + 1) cap')
      have same : ∀ j, j < w.heap.size + 6 → j ≠ w.heap.size + 1 → j ≠ w.heap.size + 1 + 1 → ((w1.setCell ⟨w.heap.size + 1, 0, none⟩ (.slice (some ⟨g', 0, none⟩) ((foldP x pre).1.length + 1) cap')).setCell ⟨w.heap.size + 1 + 1, 0, none⟩ (.int .i64 (wrap64 ((foldP x pre).2 + wrap64 ((x.size : Int) + 1))))).heap[j]? = W.heap[j]? := fun j q1 q2 q3 => (heap_setCell_other _ ⟨w.heap.size + 1 + 1, 0, none⟩ j _ q3).trans (hkeep.2.1 j q1 q2)
      refine ⟨hkeep.1.trans ((KeepsOthers.setCell _ _ _).from _), ⟨same (w.heap.size + 1 + 1 + 1 + 1) (by omega) (by omega) (by omega), same (w.heap.size + 1 + 1 + 1) (by omega) (by omega) (by omega), same (w.heap.size + 1 + 1 + 1 + 1 + 1) (by omega) (by omega) (by omega)⟩, ?_⟩
      dsimp only
      rw [e1]
      exact ⟨⟨_, hv2.other (by omega) _, by simpa [cellsI] using hr2.kept (grownBy_setCell' _ (w.heap.size + 1 + 1) (.int .i64 (wrap64 ((foldP x pre).2 + wrap64 ((x.size : Int) + 1))))) (.inr (own_far hr2 (show w.heap.size + 1 + 1 < w.heap.size + 6 by omega)).symm)⟩, ⟨hA2.set _, h01.other (by omega) _⟩,
        hkeep.2.2.setCell (p := ⟨w.heap.size + 1 + 1, 0, none⟩) (by show w.heap.size ≤ w.heap.size + 1 + 1; omega) _, Nat.le_trans hu (Nat.le_trans hkeep.1.size ((KeepsOthers.setCell _ _ _).from W6.heap.size).size)⟩
    · have hx' : (x.toList == wd.toList) = false := Bool.eq_false_iff.2 (fun h => hx (by have e := eq_of_beq h; rw [ByteArray.toList_eq, ByteArray.toList_eq] at e; exact bytes_ext e))
      gi_wp2
      have e1 : foldP wd (pre ++ [x]) = ((foldP wd pre).1, wrap64 ((foldP wd pre).2 + wrap64 ((x.size : Int) + 1))) := by rw [hsn.out, stepP, if_neg hx]
      have same : ∀ j, j ≠ w.heap.size + 1 + 1 → (W.setCell ⟨w.heap.size + 1 + 1, 0, none⟩ (.int .i64 (wrap64 ((foldP wd pre).2 + wrap64 ((x.size : Int) + 1))))).heap[j]? = W.heap[j]? := fun j q3 => heap_setCell_other _ ⟨w.heap.size + 1 + 1, 0, none⟩ j _ q3
      refine ⟨(KeepsOthers.setCell _ _ _).from _, ⟨same (w.heap.size + 1 + 1 + 1 + 1) (by omega), same (w.heap.size + 1 + 1 + 1) (by omega), same (w.heap.size + 1 + 1 + 1 + 1 + 1) (by omega)⟩, ?_⟩
      dsimp only
      rw [e1]
      exact ⟨⟨_, hv.other (by omega) _, hrow.kept (grownBy_setCell' _ (w.heap.size + 1 + 1) (.int .i64 (wrap64 ((foldP wd pre).2 + wrap64 ((x.size : Int) + 1))))) (.inr (own_far hrow (show w.heap.size + 1 + 1 < w.heap.size + 6 by omega)).symm)⟩, ⟨h2.set _, h0.other (by omega) _⟩,
        hB.setCell (p := ⟨w.heap.size + 1 + 1, 0, none⟩) (by show w.heap.size ≤ w.heap.size + 1 + 1; omega) _, Nat.le_trans hu ((KeepsOthers.setCell _ _ _).from W6.heap.size).size⟩
  case done =>
    rintro D ys W hD rfl ⟨⟨v, hv, hrow⟩, _, hB, hu⟩ hK
    have hc := hv.cell
    rw [foldP_pieces t wd ht] at hrow
    obtain ⟨A2, cp2, rfl⟩ := own_form hrow
    gi_wp2
    refine ⟨by simp, .inl ⟨_, _, rfl, run_takeDeferred hK, ?_⟩⟩
    exact ⟨_, results_tmp rfl _ _ _, _, rfl, ⟨A2, cp2, rfl, own_base (ownsRow_putObj hrow _ hK rfl) (by omega)⟩, hB.trans (belowK_b (w := w) (Nat.le_refl _) W D _ _ (by omega) hK rfl rfl)⟩

end Go.Proofs.YtllnnkiehckegaaDoor
