/-
  slices.SortFunc on a slice of spans of the call's own, by where they begin.
  Conditions: those written at each theorem.
-/
import Derived.Test.YtllnnkiehckegaaDoorLaySort
import Derived.Test.YtllnnkiehckegaaDoorQ15a
import Derived.Sort.OwnSortedInts
namespace Go.Proofs.YtllnnkiehckegaaDoor
open Go.Shelf Go.RowKit Go.Sort
set_option maxRecDepth 100000

theorem flat_span (l : List Span) : flatK cellSpan 3 l.toArray = (cellsSpan l).toArray := by
  refine ext_get! (by simp [len_cellsSpan]) fun t ht => ?_
  have ht' : t < l.length * 3 := by simpa using ht
  rw [get_flatK _ _ _ _ (by simpa using ht')]
  have hk : t / 3 < l.length := by omega
  have h := getElem?_flat cellSpan 3 (fun _ => rfl) l (t / 3) (t % 3) hk (by omega)
  rw [show t / 3 * 3 + t % 3 = t by omega] at h
  have h2 : (cellsSpan l)[t]? = (cellSpan l[t / 3])[t % 3]? := h
  have h3 : t % 3 < (cellSpan l[t / 3]).length := by show t % 3 < 3; omega
  rw [List.getElem?_eq_getElem h3, List.getElem?_eq_getElem (by rw [len_cellsSpan]; exact ht')] at h2
  rw [getElem!_pos l.toArray (t / 3) (by simpa using hk), getElem!_pos (cellsSpan l).toArray t (by simpa [len_cellsSpan] using ht')]
  simp only [List.getElem_toArray]
  rw [getElem!_pos (cellSpan l[t / 3]) (t % 3) h3]
  exact (Option.some.inj h2).symm
theorem take_putId (cur : Array Value) (F : List Value) (h : F.length ≤ cur.size) : (putCells id 0 F.toArray cur).toList.take F.length = F := by
  apply List.ext_getElem?
  intro j
  by_cases hj : j < F.length
  · rw [List.getElem?_take_of_lt hj, Array.getElem?_toList]
    simp [putCells, hj, show j < cur.size by omega]
  · rw [List.getElem?_take_eq_none (by omega), List.getElem?_eq_none (by omega)]
theorem putId_heap {w : World} {g n : Nat} {cur : Array Value} {e : TypeId} {fr : Nat × Nat} (F : Array Value) (hb : w.heap[g]? = some (.cells cur e fr)) :
    (putRow id (Sort.ahead w n) g 0 F).heap[g]? = some (.cells (putCells id 0 F cur) e fr) := by
  simp [putRow, mapBlock, Sort.ahead, Array.getElem?_modify, hb, onCells]
theorem putId_other {w : World} {g n k : Nat} (F : Array Value) (h : g ≠ k) : (putRow id (Sort.ahead w n) g 0 F).heap[k]? = w.heap[k]? := by
  simp [putRow, mapBlock, Sort.ahead, Array.getElem?_modify, h]
theorem putId_size {w : World} {g n : Nat} (F : Array Value) : (putRow id (Sort.ahead w n) g 0 F).heap.size = w.heap.size := by
  simp [putRow, mapBlock, Sort.ahead]

def cmpS (x y : Span) : Int := Lib.compareInt x.lo y.lo
theorem ltOf_cmpS (x y : Span) : ltOf cmpS x y = decide (x.lo < y.lo) := by
  unfold ltOf cmpS Lib.compareInt
  by_cases h1 : x.lo < y.lo
  · simp [h1]
  · by_cases h2 : y.lo < x.lo <;> simp [h1, h2]
theorem swo_cmpS : SWO (ltOf cmpS) where
  irrefl x := by rw [ltOf_cmpS]; simp
  trans x y z h1 h2 := by rw [ltOf_cmpS] at *; simp at *; omega
  ntrans x y z h1 h2 := by rw [ltOf_cmpS] at *; simp at *; omega

theorem isNaN_any (a : Int) (w : World) : Calls Tryd.prog 56 #[.int .i64 a] w fun e w' => e = .returned (.bool false) ∧ w' = w := by
  go_enter Tryd.func56, Tryd.ntmps56
  go_wp2
  go_ret
  exact ⟨rfl, rfl⟩
theorem compare_any (a b : Int) (w : World) : Calls Tryd.prog 45 #[.int .i64 a, .int .i64 b] w fun e w' => e = .returned (.int .i64 (Lib.compareInt a b)) ∧ w' = w := by
  unfold Lib.compareInt
  by_cases h1 : a < b
  · go_enter Tryd.func45, Tryd.ntmps45
    go_wp2_with (go_at_call 56; refine (isNaN_any _ _).mono ?_; rintro e w' ⟨rfl, rfl⟩)
    go_ret
    exact ⟨by simp [h1], rfl⟩
  · by_cases h2 : b < a
    · go_enter Tryd.func45, Tryd.ntmps45
      go_wp2_with (go_at_call 56; refine (isNaN_any _ _).mono ?_; rintro e w' ⟨rfl, rfl⟩)
      go_ret
      exact ⟨by simp [h1, h2], rfl⟩
    · go_enter Tryd.func45, Tryd.ntmps45
      go_wp2_with (go_at_call 56; refine (isNaN_any _ _).mono ?_; rintro e w' ⟨rfl, rfl⟩)
      go_ret
      exact ⟨by simp [h1, h2], rfl⟩

theorem hwCmp_any (x y : Span) (w : World) :
    Calls Tryd.prog 44 #[.agg #[.int .i64 x.lo, .int .i64 x.hi, .int .i64 x.reason], .agg #[.int .i64 y.lo, .int .i64 y.hi, .int .i64 y.reason]] w fun e w' => e = .returned (.int .i64 (cmpS x y)) ∧ ∃ q os', w' = grow (w.drewN q) os' := by
  have hcon := fun W => Lib.hid (compare_any x.lo y.lo W)
  unfold cmpS
  generalize Lib.compareInt x.lo y.lo = r at hcon ⊢
  have bx := ((Box.new w #[.int .i64 x.lo, .int .i64 x.hi, .int .i64 x.reason] 45).below ((Below.refl _ _).alloc (Nat.le_refl _) (.cells #[.int .i64 y.lo, .int .i64 y.hi, .int .i64 y.reason] 45))).2 0 _ rfl
  have by' := (Box.new (w.alloc (.cells #[.int .i64 x.lo, .int .i64 x.hi, .int .i64 x.reason] 45)) #[.int .i64 y.lo, .int .i64 y.hi, .int .i64 y.reason] 45).2 0 _ rfl
  rw [World.size_alloc] at by'
  go_enter Tryd.func44, Tryd.ntmps44
  go_wp2_with (go_at_call 45; refine (hcon _).out.mono ?_; rintro e w' ⟨rfl, rfl⟩)
  go_ret
  exact ⟨rfl, 0, _, by rw [alloc_eq_grow, alloc_eq_grow, grow_grow]; rfl⟩

theorem sortSpan_nil (A : Option Addr) (c : Nat) (fv : Value) (w : World) : Calls Tryd.prog 43 #[.slice A 0 c, fv] w fun e w' => e = .returned (.tuple #[]) ∧ w' = w :=
  AnyF.slices_SortFunc_none laysSort A c fv w

theorem sortSpan_any (base : Nat) (l : List Span) (g c : Nat) (w : World) (ho : w.ownsRow base 45 3 (.slice (some ⟨g, 0, none⟩) l.length c) l.length (cellsSpan l)) (hl : l.length ≤ 1048576) :
    Calls Tryd.prog 43 #[.slice (some ⟨g, 0, none⟩) l.length c, .func (.func 44) #[] #[]] w
      fun e w' => e = .returned (.tuple #[]) ∧ ∃ d : List Span, d.Perm l ∧ d.Pairwise (fun a b => ¬ b.lo < a.lo) ∧ w'.ownsRow base 45 3 (.slice (some ⟨g, 0, none⟩) l.length c) l.length (cellsSpan d) ∧ w.grownBy w' (some g) := by
  have hgl := (ho.lt g rfl).2
  have hH : HoldsK cellSpan 3 w g 0 l.toArray := by
    unfold HoldsK
    rw [flat_span]
    intro j hj
    have hj' : j < (cellsSpan l).length := by simpa using hj
    have h1 := ho.cellAt j (by rw [len_cellsSpan] at hj'; exact hj')
    rw [List.getElem?_eq_getElem hj'] at h1
    refine ⟨?_, ?_⟩
    · rw [Nat.zero_add, h1, getElem!_pos (cellsSpan l).toArray j hj]; rfl
    · rw [Nat.zero_add]; exact ho.frozenAt j
  have key := AnyQ.slices_SortFunc laysSort 3 Tryd.isAgg45 Tryd.sizeOf45 cellSpan (fun _ => rfl)
    (fun x v hv => by simp [cellSpan] at hv; rcases hv with rfl | rfl | rfl <;> rfl) cmpS swo_cmpS 44 #[] g 0 c l.toArray w (enters_of Tryd.func44 (by kernel_rfl) rfl)
    (fun m os dk _ x y => hwCmp_any x y _) hH hgl (by simp; omega)
  rw [show l.toArray.size = l.length by simp] at key
  refine key.mono ?_
  rintro e w' ⟨rfl, d, n, os, ⟨hp1, _, hp3⟩, hs, rfl⟩
  have hdl : d.size = l.length := by simpa using hp1
  refine ⟨rfl, d.toList, ?_, ?_, ?_, ?_⟩
  · have e1 : d.extract 0 l.length = d := by rw [← hdl]; exact Array.extract_size
    have e2 : l.toArray.extract 0 l.length = l.toArray := by
      have := Array.extract_size (xs := l.toArray); simp
    rw [e1, e2] at hp3
    simpa using hp3
  · rw [List.pairwise_iff_getElem]
    intro i j hi hj hij
    have hi' : i < d.size := by simpa using hi
    have hj' : j < d.size := by simpa using hj
    have h := hs i j (Nat.zero_le _) hij (by omega)
    rw [getElem!_pos d j hj', getElem!_pos d i hi', ltOf_cmpS] at h
    simpa using h
  · unfold sortWorldK putRowK
    rw [show flatK cellSpan 3 d = (cellsSpan d.toList).toArray by rw [← flat_span]]
    refine ⟨by rw [len_cellsSpan]; simp [hdl], ?_⟩
    rcases ho.2 with ⟨hv, _⟩ | ⟨g', cap, cur, hv, hb, hg, hnc, hcm, hcs, htake⟩
    · cases hv
    · cases hv
      refine .inr ⟨g, c, putCells id 0 (cellsSpan d.toList).toArray cur, rfl, hb, ?_, hnc, hcm, by simp [putCells, hcs], ?_⟩
      · rw [heap_grow_old _ _ (by rw [putId_size]; exact hgl)]
        exact putId_heap _ hg
      · have hlen : (cellsSpan d.toList).length = l.length * 3 := by rw [len_cellsSpan]; simp [hdl]
        have := take_putId cur (cellsSpan d.toList) (by rw [hlen, hcs]; exact Nat.mul_le_mul_right 3 hnc)
        rwa [hlen] at this
  · refine ⟨rfl, rfl, rfl, ?_, fun k hk hne => ?_⟩
    · unfold sortWorldK putRowK
      simp [grow, putId_size]
    · unfold sortWorldK putRowK
      rw [heap_grow_old _ _ (by rw [putId_size]; exact hk), putId_other _ (fun e => hne (by rw [e]))]

end Go.Proofs.YtllnnkiehckegaaDoor
