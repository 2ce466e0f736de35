/-
  slices.DeleteFunc at a list of spans; spans without a reason, by the program. 
  Conditions: those written at each theorem.
-/
import Derived.Test.YtllnnkiehckegaaDoorP15d
import Derived.Lib.SliceRun
import Derived.StillTailTactics
namespace Go.Proofs.YtllnnkiehckegaaDoor
open Go.RowKit Go.BigFrame
set_option maxRecDepth 100000

/-- 'clear(s)' on elements of several cells -/
theorem run_clear_cells {P : Program} (w : World) (t e ty : TypeId) (z : Value) (size : Nat) (ht : P.underlying t = some (.slice e)) (hv : ∀ w, (zeroValue e).run P w = .ok z w) (hz : z.cells.size = size)
    (b o n c : Nat) (hn : 0 < n) (h1 : ∀ u ∈ (Builtin.zeroCells z.cells n).toList, u.oneCell' = true)
    (hc : ∀ j, j < n * size → (w.cell? ⟨b, o + j, none⟩).isSome = true) (hf : ∀ j, j < n * size → w.frozen? ⟨b, o + j, none⟩ = false) :
    (Builtin.clear_ #[t] ty #[.slice (some ⟨b, o, none⟩) n c]).run P w = .ok (.tuple #[]) (w.setCells b o (Builtin.zeroCells z.cells n).toList) := by
  have hl : (Builtin.zeroCells z.cells n).toList.length = n * size := by simp [Builtin.zeroCells, hz]
  have hst := run_storeCells_cells (P := P) b o (Builtin.zeroCells z.cells n).toList 0 w (by rw [hl]; simpa using hc) (by rw [hl]; simpa using hf) h1
  simp only [Nat.add_zero] at hst
  obtain ⟨m, rfl⟩ : ∃ m, n = m + 1 := ⟨n - 1, by omega⟩
  simp [Builtin.clear_, run_underlying ht, hv, hst]

/-- many stores into a row of the call's own -/
theorem own_setCells {base : Nat} {e : TypeId} {sz g n c : Nat} : ∀ (vs : List Value) (o : Nat) (w : World) (xs : List Value), w.ownsRow base e sz (.slice (some ⟨g, 0, none⟩) n c) n xs →
    ∃ ys, (w.setCells g o vs).ownsRow base e sz (.slice (some ⟨g, 0, none⟩) n c) n ys ∧ w.grownBy (w.setCells g o vs) (some g) ∧ ∀ k, k ≤ o → ys.take k = xs.take k
  | [], o, w, xs, h => ⟨xs, h, World.grownBy.refl _ _, fun _ _ => rfl⟩
  | v :: r, o, w, xs, h => by
    obtain ⟨ys, h1, h2, h3⟩ := own_setCells r (o + 1) (w.setCell ⟨g, o, none⟩ v) _ (h.stored o v).1
    refine ⟨ys, h1, ?_, fun k hk => ?_⟩
    · have h0 := grown_set (World.grownBy.refl w (some g)) o v
      exact ⟨h2.os.trans h0.os, h2.tape.trans h0.tape, h2.output.trans h0.output, Nat.le_trans h0.size h2.size, fun i hi hne => (h2.block i (Nat.lt_of_lt_of_le hi h0.size) hne).trans (h0.block i hi hne)⟩
    · rw [h3 k (by omega), List.take_set_of_le hk]

/-- a shorter slice of the same row -/
theorem own_cut {w : World} {base : Nat} {e : TypeId} {sz g n c : Nat} {xs : List Value} (h : w.ownsRow base e sz (.slice (some ⟨g, 0, none⟩) n c) n xs) {m : Nat} (hm : m ≤ n) :
    w.ownsRow base e sz (.slice (some ⟨g, 0, none⟩) m c) m (xs.take (m * sz)) := by
  have hms : m * sz ≤ n * sz := Nat.mul_le_mul_right sz hm
  refine ⟨by rw [List.length_take, h.1]; omega, .inr ?_⟩
  rcases h.2 with ⟨hv, _⟩ | ⟨g', cap, cur, hv, hb, hg, hnc, hcm, hcs, htake⟩
  · cases hv
  · cases hv
    exact ⟨g, c, cur, rfl, hb, hg, by omega, hcm, hcs, by rw [← htake, List.take_take, Nat.min_eq_left hms]⟩

theorem grown_trans {a b c : World} {k : Option Nat} (h : a.grownBy b k) (j : b.grownBy c k) : a.grownBy c k :=
  ⟨j.os.trans h.os, j.tape.trans h.tape, j.output.trans h.output, Nat.le_trans h.size j.size, fun i hi hne => (j.block i (Nat.lt_of_lt_of_le hi h.size) hne).trans (h.block i hi hne)⟩
theorem grown_below {a b : World} {k : Option Nat} (h : Below a.heap.size a b) : a.grownBy b k := ⟨h.os, h.tape, h.output, h.size, fun i hi _ => h.block i hi⟩

theorem cellsSpan_take (d : List Span) (i : Nat) (hi : i ≤ d.length) : (cellsSpan d).take (i * 3) = cellsSpan (d.take i) := by
  conv => lhs; rw [← List.take_append_drop i d, cellsSpan_append]
  rw [List.take_left' (by rw [len_cellsSpan, List.length_take]; congr 1; omega)]
theorem cellsSpan_drop (d : List Span) (i : Nat) (hi : i ≤ d.length) : (cellsSpan d).drop (i * 3) = cellsSpan (d.drop i) := by
  conv => lhs; rw [← List.take_append_drop i d, cellsSpan_append]
  rw [List.drop_left' (by rw [len_cellsSpan, List.length_take]; congr 1; omega)]
theorem cellsSpan_set (d : List Span) (i : Nat) (x : Span) (hi : i < d.length) :
    (((cellsSpan d).set (i * 3) (.int .i64 x.lo)).set (i * 3 + 1) (.int .i64 x.hi)).set (i * 3 + 2) (.int .i64 x.reason) = cellsSpan (d.set i x) := by
  have h := fill3 (P := cellsSpan (d.take i)) (Z := cellsSpan d) (k := i) (by rw [len_cellsSpan, List.length_take]; congr 1; omega) (by rw [len_cellsSpan]; omega) (.int .i64 x.lo) (.int .i64 x.hi) (.int .i64 x.reason)
  rw [cellsSpan_drop d i (by omega), ← cellsSpan_append, List.take_append_drop, cellsSpan_drop d (i + 1) (by omega)] at h
  rw [h, List.set_eq_take_append_cons_drop, if_pos hi, cellsSpan_append]
  rfl

/-- what is kept, between two rounds of slices.DeleteFunc: i of the first j -/
structure KeptD (P : Span → Bool) (l d : List Span) (i j : Nat) : Prop where
  len : d.length = l.length
  lt : i < j
  le : j ≤ l.length
  head : d.take i = (l.take j).filter fun s => !P s
  tail : d.drop j = l.drop j
theorem KeptD.get {P : Span → Bool} {l d : List Span} {i j : Nat} (h : KeptD P l d i j) (hj : j < l.length) : d[j]'(by rw [h.len]; exact hj) = l[j] := by
  have h0 := h.tail
  rw [List.drop_eq_getElem_cons (by rw [h.len]; exact hj), List.drop_eq_getElem_cons hj] at h0
  exact (List.cons.inj h0).1
theorem KeptD.skip {P : Span → Bool} {l d : List Span} {i j : Nat} (h : KeptD P l d i j) (hj : j < l.length) (hp : P l[j] = true) : KeptD P l d i (j + 1) := by
  refine ⟨h.len, by have := h.lt; omega, hj, ?_, ?_⟩
  · rw [h.head, List.take_succ_eq_append_getElem hj, List.filter_append]; simp [hp]
  · rw [← List.drop_drop, ← List.drop_drop, h.tail]
theorem KeptD.keep {P : Span → Bool} {l d : List Span} {i j : Nat} (h : KeptD P l d i j) (hj : j < l.length) (hp : P l[j] = false) : KeptD P l (d.set i l[j]) (i + 1) (j + 1) := by
  have hi := h.lt
  have hd := h.len
  refine ⟨by simpa using h.len, by omega, hj, ?_, ?_⟩
  · rw [List.take_succ_eq_append_getElem (by simp; omega), List.take_set_of_le (Nat.le_refl i), h.head, List.take_succ_eq_append_getElem hj, List.filter_append]
    simp [hp]
  · rw [List.drop_set_of_lt (by omega), ← List.drop_drop, ← List.drop_drop, h.tail]
theorem idxSpan_first (P : Span → Bool) : ∀ (l : List Span) (k : Nat), (∃ (i : Nat) (h : i < l.length), idxF P l k = ((k + i : Nat) : Int) ∧ P l[i] = true ∧ (l.take i).filter (fun s => !P s) = l.take i) ∨ idxF P l k = -1 ∧ l.filter (fun s => !P s) = l
  | [], k => .inr ⟨rfl, rfl⟩
  | x :: r, k => by
    by_cases h : P x = true
    · exact .inl ⟨0, by simp, by simp [idxF, h], h, rfl⟩
    · have h' : P x = false := by simpa using h
      rcases idxSpan_first P r (k + 1) with ⟨i, hi, he, hp, hf⟩ | ⟨he, hn⟩
      · exact .inl ⟨i + 1, by simpa using hi, by simp only [idxF, if_neg h, he]; congr 1; omega, by simpa using hp, by simp [h', hf]⟩
      · exact .inr ⟨by simp only [idxF, if_neg h, he], by simp [h', hn]⟩

set_option maxHeartbeats 2000000 in
theorem deleteFuncSpan_any (base : Nat) (l : List Span) (g c : Nat) (F : Nat) (caps : Array Value) (P : Span → Bool) (w : World)
    (ho : w.ownsRow base 45 3 (.slice (some ⟨g, 0, none⟩) l.length c) l.length (cellsSpan l)) (hl : l.length ≤ 1048576) (hbase : base ≤ w.heap.size)
    (hF : ∀ (args : Array Value) (w : World), (callFunc F args).run Tryd.prog w = .ok (Next.enter F args) w)
    (hcl : Hid (∀ (p : Span) (w1 : World), w.grownBy w1 (some g) → Calls Tryd.prog F (#[.agg #[.int .i64 p.lo, .int .i64 p.hi, .int .i64 p.reason]] ++ caps) w1 fun e w2 => e = .returned (.bool (P p)) ∧ Below w1.heap.size w1 w2)) :
    Calls Tryd.prog 28 #[.slice (some ⟨g, 0, none⟩) l.length c, .func (.func F) #[] caps] w
      fun e w' => e = .returned (.slice (some ⟨g, 0, none⟩) (l.filter fun s => !P s).length c) ∧ w'.ownsRow base 45 3 (.slice (some ⟨g, 0, none⟩) (l.filter fun s => !P s).length c) (l.filter fun s => !P s).length (cellsSpan (l.filter fun s => !P s)) ∧ w.grownBy w' (some g) := by
  have HO := Lib.hid ho
  have hgb := (ho.lt g rfl).1
  have hglt := (ho.lt g rfl).2
  have HIF := Lib.hid (indexFuncSpan_any l (some ⟨g, 0, none⟩) c F caps P w (Rd.of_own ho) (by omega) hF (Lib.hid (fun p w1 _ hb => hcl.out p w1 (grown_below hb))))
  have hlc : l.length ≤ c := by
    rcases ho.2 with ⟨hv, _⟩ | ⟨g', cap, cur, hv, _, _, hnc, _⟩
    · cases hv
    · cases hv; exact hnc
  rcases idxSpan_first P l 0 with ⟨i0, hi0, he, hp0, hf0⟩ | ⟨he, hn⟩
  · rw [he] at HIF
    have hne1 : (((0 + i0 : Nat) : Int) == -1) = false := beq_eq_false_iff_ne.2 (by omega)
    rw [Nat.zero_add] at HIF hne1
    have K0 : Hid (KeptD P l l i0 (i0 + 1)) := by
      refine Lib.hid ⟨rfl, by omega, hi0, ?_, rfl⟩
      rw [List.take_succ_eq_append_getElem hi0, List.filter_append, hf0]; simp [hp0]
    clear ho hp0 hf0 he
    go_enter Tryd.func28, Tryd.ntmps28
    go_wp2_with (go_at_call 47; refine HIF.out.mono ?_; rintro e w1 ⟨rfl, hb1⟩)
    go_loopw [5, 6] (fun v5 v6 wr => ∃ (i j : Nat) (d : List Span), v5 = .int .i64 i ∧ v6 = .int .i64 j ∧ w.grownBy wr (some g) ∧ wr.ownsRow base 45 3 (.slice (some ⟨g, 0, none⟩) l.length c) l.length (cellsSpan d) ∧ Hid (KeptD P l d i j)) (fun _ v6 _ => l.length - (intOf v6).toNat)
    case atStart => exact ⟨i0, i0 + 1, l, rfl, by go_num, grown_below hb1, own_below HO.out hb1, K0⟩
    case round =>
      clear hb1 K0 HO HIF
      obtain ⟨i, j, d, rfl, rfl, hg, hown, K⟩ := hrel
      have hij := K.out.lt
      have hjl := K.out.le
      have hdl := K.out.len
      by_cases hlt : j < l.length
      · have hlt' : ((j : Int) < (l.length : Int)) := by omega
        obtain ⟨gb, go, hA, hgb2, hcell⟩ := (Rd.of_own hown).2 (by omega)
        cases hA
        obtain ⟨h0, h1, h2⟩ := cellsSpan_at hcell (k := j) (by omega)
        rw [K.out.get hlt, Nat.zero_add] at h0 h1 h2
        clear hcell
        have HG := Lib.hid hg
        have HO1 := Lib.hid hown
        have hgw1 := (hown.lt g rfl).2
        clear hg hown
        have hbx : Below wr.heap.size wr (wr.alloc (.cells #[.int .i64 l[j].lo, .int .i64 l[j].hi, .int .i64 l[j].reason] 45)) := (Below.refl _ _).alloc (Nat.le_refl _) _
        have HGx := Lib.hid (grown_trans HG.out (grown_below hbx))
        have HOx := Lib.hid (own_below HO1.out hbx)
        have bx := Box.new wr #[.int .i64 l[j].lo, .int .i64 l[j].hi, .int .i64 l[j].reason] 45
        have HBx := Lib.hid bx
        obtain ⟨b0, b1, b2⟩ := bx.three
        clear bx hbx
        by_cases hq : P l[j] = true
        · go_wp2_with fail
          refine (hcl.out l[j] _ HGx.out).mono ?_
          rintro e w2 ⟨rfl, hb2⟩
          rw [hq]
          have HG2 := Lib.hid (grown_trans HGx.out (grown_below hb2))
          have HO2 := Lib.hid (own_below HOx.out hb2)
          have K2 := Lib.hid (K.out.skip hlt hq)
          clear hb2
          go_wp2
          go_roundw
          case rel => exact ⟨i, j + 1, d, rfl, by go_num, HG2.out, HO2.out, K2⟩
          case measure => simp [intOf]; omega
        · have hq' : P l[j] = false := by simpa using hq
          go_wp2_with fail
          refine (hcl.out l[j] _ HGx.out).mono ?_
          rintro e w2 ⟨rfl, hb2⟩
          rw [hq']
          have HG2 := Lib.hid (grown_trans HGx.out (grown_below hb2))
          have hown2 := own_below HOx.out hb2
          obtain ⟨c0, c1, c2⟩ := (HBx.out.below hb2).three
          obtain ⟨⟨z0, e0⟩, f0⟩ := own_has hown2 (i * 3) (by omega)
          obtain ⟨⟨z1, e1⟩, f1⟩ := own_has hown2 (i * 3 + 1) (by omega)
          obtain ⟨⟨z2, e2⟩, f2⟩ := own_has hown2 (i * 3 + 2) (by omega)
          have HO2 := Lib.hid hown2
          have hii : (i : Int) < (l.length : Int) := by omega
          have K2 := Lib.hid (K.out.keep hlt hq')
          clear hb2 hown2 b0 b1 b2
          go_wp2
          go_roundw
          case rel =>
            refine ⟨i + 1, j + 1, d.set i l[j], by go_num, by go_num, grown_set (grown_set (grown_set HG2.out _ _) _ _) _ _, ?_, K2⟩
            have h := (((HO2.out.stored (i * 3) (.int .i64 l[j].lo)).1.stored (i * 3 + 1) (.int .i64 l[j].hi)).1.stored (i * 3 + 2) (.int .i64 l[j].reason)).1
            rwa [cellsSpan_set d i l[j] (by omega)] at h
          case measure => simp [intOf]; omega
      · obtain rfl : j = l.length := by omega
        have hij' : (i : Int) < (l.length : Int) := by omega
        have hrun := fun ty => run_clear_cells (P := Tryd.prog) wr 24 45 ty (.agg #[.int .i64 0, .int .i64 0, .int .i64 0]) 3 Tryd.underlying24 (fun w => Tryd.zeroValue45 w) rfl g (i * 3) (l.length - i) (c - i) (by omega)
          (by intro u hu; simp [Builtin.zeroCells, Value.cells] at hu; obtain ⟨q, hq, rfl⟩ := hu; have : q % 3 < 3 := Nat.mod_lt _ (by omega); generalize q % 3 = r at this; match r, this with | 0, _ => rfl | 1, _ => rfl | 2, _ => rfl)
          (fun q hq => by obtain ⟨⟨z, hz⟩, _⟩ := own_has hown (i * 3 + q) (by omega); rw [hz]; rfl) (fun q hq => (own_has hown (i * 3 + q) (by omega)).2)
        obtain ⟨ys, hy1, hy2, hy3⟩ := own_setCells (Builtin.zeroCells (Value.agg #[.int .i64 0, .int .i64 0, .int .i64 0]).cells (l.length - i)).toList (i * 3) wr _ hown
        have K2 : Hid ((l.filter fun s => !P s) = d.take i) := by show _ = _; rw [K.out.head, List.take_length]
        have hli : (d.take i).length = i := by simp; omega
        have H3 : Hid ((wr.setCells g (i * 3) (Builtin.zeroCells (Value.agg #[.int .i64 0, .int .i64 0, .int .i64 0]).cells (l.length - i)).toList).ownsRow base 45 3 (.slice (some ⟨g, 0, none⟩) i c) i (cellsSpan (d.take i))) := by
          have h := own_cut hy1 (show i ≤ l.length by omega)
          rw [hy3 (i * 3) (Nat.le_refl _), cellsSpan_take d i (by omega)] at h
          exact h
        have H4 := Lib.hid (grown_trans hg hy2)
        clear hy1 hy2 hy3 hown hg
        go_wp2
        go_ret
        exact ⟨by rw [K2.out, hli]; rfl, by rw [K2.out, hli]; exact H3.out, H4.out⟩
  · rw [he] at HIF
    have K2 := Lib.hid hn
    clear ho hn he
    go_enter Tryd.func28, Tryd.ntmps28
    go_wp2_with (go_at_call 47; refine HIF.out.mono ?_; rintro e w1 ⟨rfl, hb1⟩)
    go_ret
    exact ⟨by rw [K2.out]; rfl, by rw [K2.out]; exact own_below HO.out hb1, grown_below hb1⟩

end Go.Proofs.YtllnnkiehckegaaDoor
