/-
  Slices of Span: one of the call's own; the library's Clone, IndexFunc, ContainsFunc at it. Written by gen_sh.py.
  Conditions: those written at each theorem.
-/
import Derived.Test.YtllnnkiehckegaaDoorTySpan
import Derived.Test.YtllnnkiehckegaaDoorSi
namespace Go.Proofs.YtllnnkiehckegaaDoor
open Go.RowKit Go.BigFrame
set_option maxRecDepth 100000

/-- a slice of the call's own that reads as these -/
def SlSpan (base : Nat) (w' : World) (out : List Span) (v : Value) : Prop := ∃ A c, v = .slice A out.length c ∧ w'.ownsRow base 45 3 (.slice A out.length c) out.length (cellsSpan out)
theorem SlSpan.nil (base : Nat) (w : World) : SlSpan base w [] (.slice none 0 0) := ⟨none, 0, rfl, World.ownsRow_nil _ _ _ _⟩
theorem one_cellsSpan (l : List Span) : ∀ u ∈ cellsSpan l, u.oneCell' = true := by
  intro u hu
  obtain ⟨x, _, hx⟩ := List.mem_flatMap.1 hu
  simp only [cellSpan, List.mem_cons, List.mem_nil_iff, or_false] at hx
  rcases hx with rfl | rfl | rfl <;> simp [Value.oneCell']

/-- slices.Clone: a nil slice stays nil -/
theorem cloneSpan_any (l : List Span) (A : Option Addr) (c : Nat) (w : World) (hr : Rd w 3 A l.length (cellsSpan l)) (hA : A = none → c = 0) (hl : l.length ≤ 1048576) :
    Calls Tryd.prog 29 #[.slice A l.length c] w fun e w' => ∃ v, e = .returned v ∧ SlSpan w.heap.size w' l v ∧ Below w.heap.size w w' := by
  obtain ⟨i0, hi, hz0, hz1, hz2⟩ := info_parts infoSpan
  have HR := Lib.hid hr
  cases A with
  | none =>
    have hc := hA rfl
    subst hc
    have hl0 : l = [] := by
      rcases l with _ | ⟨x, l⟩
      · rfl
      · obtain ⟨b, o, hbad, _⟩ := hr.2 (by simp); cases hbad
    subst hl0
    clear hr
    have hnil := fun W : World => Lib.run_eql_slice_nil_nil (P := Tryd.prog) W 0 0 Tryd.underlying24
    go_enter Tryd.func29, Tryd.ntmps29
    go_wp2
    go_ret
    exact ⟨_, rfl, SlSpan.nil _ _, Below.refl _ _⟩
  | some ad =>
    clear hr hA
    have HO0 := Lib.hid (own_empty (B := w.heap.size) w 45 3 (Nat.le_refl _))
    have HB0 := Lib.hid (Below.alloc (Below.refl w.heap.size w) (Nat.le_refl _) (.cells #[] 45))
    have hnil := fun W : World => Lib.run_eql_slice_some_nil (P := Tryd.prog) W ad l.length c Tryd.underlying24
    go_enter Tryd.func29, Tryd.ntmps29
    go_wp2_with (at_builtin; refine wpList_appendMany _ rfl _ _ 24 rfl w.heap.size 45 i0 (.agg #[.int .i64 0, .int .i64 0, .int .i64 0]) 3 24 Tryd.underlying24 hi hz0 hz1 hz2 rfl (by decide) (by decide) (some ⟨w.heap.size, 0, none⟩) 0 0 [] rfl HO0.out (some ad) l.length c (cellsSpan l) rfl (HR.out.below HB0.out) (by simp) (one_cellsSpan l) (by omega) (by simp) ?_; intro A2 c2 w2 hown2 hg2)
    go_ret
    refine ⟨_, rfl, ⟨A2, c2, by simp, by simpa using hown2⟩, ?_⟩
    exact Below.row HB0.out HO0.out hg2 (Nat.le_refl _) (by simp)

set_option maxHeartbeats 800000 in
theorem indexFuncSpan_any (S : List Span) (A : Option Addr) (c : Nat) (F : Nat) (caps : Array Value) (P : Span → Bool) (w : World) (hr : Rd w 3 A S.length (cellsSpan S)) (hl : S.length ≤ 9223372036854775807)
    (hF : ∀ (args : Array Value) (w : World), (callFunc F args).run Tryd.prog w = .ok (Next.enter F args) w)
    (hcl : Hid (∀ (p : Span) (w1 : World), p ∈ S → Below w.heap.size w w1 → Calls Tryd.prog F (#[.agg #[.int .i64 p.lo, .int .i64 p.hi, .int .i64 p.reason]] ++ caps) w1 fun e w2 => e = .returned (.bool (P p)) ∧ Below w1.heap.size w1 w2)) :
    Calls Tryd.prog 47 #[.slice A S.length c, .func (.func F) #[] caps] w
      fun e w' => e = .returned (.int .i64 (idxF P S 0)) ∧ Below w.heap.size w w' := by
  obtain ⟨hx, hrd⟩ := hr
  have HRD := Lib.hid hrd
  clear hx hrd
  have H0 : Hid (idxF P S 0 = idxF P (S.drop 0) 0) := rfl
  go_enter Tryd.func47, Tryd.ntmps47
  go_wp2
  go_loopw [8] (fun i wr => ∃ k : Nat, k ≤ S.length ∧ i = .int .i64 k ∧ Below w.heap.size w wr ∧ Hid (idxF P S 0 = idxF P (S.drop k) k)) (fun i _ => S.length - (intOf i).toNat)
  case atStart => exact ⟨0, Nat.zero_le _, rfl, Below.refl _ _, H0⟩
  case round =>
    obtain ⟨k, hk, rfl, hb, K⟩ := hrel
    by_cases hlt : k < S.length
    · obtain ⟨gb, go, rfl, hgb, hcell⟩ := HRD.out (by omega)
      obtain ⟨h0, h1, h2⟩ := cellsSpan_at hcell hlt
      have c0 : wr.cell? ⟨gb, go + k * 3, none⟩ = some (.int .i64 S[k].lo) := (hb.cell (p := ⟨gb, go + k * 3, none⟩) hgb).trans h0
      have c1 : wr.cell? ⟨gb, go + k * 3 + 1, none⟩ = some (.int .i64 S[k].hi) := (hb.cell (p := ⟨gb, go + k * 3 + 1, none⟩) hgb).trans h1
      have c2 : wr.cell? ⟨gb, go + k * 3 + 2, none⟩ = some (.int .i64 S[k].reason) := (hb.cell (p := ⟨gb, go + k * 3 + 2, none⟩) hgb).trans h2
      clear h0 h1 h2 hcell
      have hlt' : ((k : Int) < (S.length : Int)) := by omega
      have K' : Hid (idxF P S 0 = if P S[k] = true then (k : Int) else idxF P (S.drop (k + 1)) (k + 1)) := by
        have := K.out
        rw [List.drop_eq_getElem_cons hlt] at this
        exact this
      by_cases hP : P S[k] = true
      · rw [if_pos hP] at K'
        go_wp2_with fail
        refine (hcl.out _ _ (List.getElem_mem hlt) hb).mono ?_
        rintro e w2 ⟨rfl, hb2⟩
        have hb3 := Below.trans' hb hb2
        rw [hP]
        go_wp2
        go_ret
        exact ⟨by rw [K'.out]; rfl, hb3⟩
      · rw [if_neg hP] at K'
        go_wp2_with fail
        refine (hcl.out _ _ (List.getElem_mem hlt) hb).mono ?_
        rintro e w2 ⟨rfl, hb2⟩
        have hb3 := Below.trans' hb hb2
        rw [show P S[k] = false by simpa using hP]
        go_wp2
        go_roundw
        case rel => exact ⟨k + 1, by omega, by go_num, hb3, K'⟩
        case measure => simp [intOf]; omega
    · obtain rfl : k = S.length := by omega
      have K' : Hid (idxF P S 0 = -1) := by
        have := K.out
        show _ = _
        simpa [idxF] using this
      go_wp2
      go_ret
      exact ⟨by rw [K'.out]; rfl, hb⟩
theorem containsFuncSpan_any (S : List Span) (A : Option Addr) (c : Nat) (F : Nat) (caps : Array Value) (P : Span → Bool) (w : World) (hr : Rd w 3 A S.length (cellsSpan S)) (hl : S.length ≤ 9223372036854775807)
    (hF : ∀ (args : Array Value) (w : World), (callFunc F args).run Tryd.prog w = .ok (Next.enter F args) w)
    (hcl : Hid (∀ (p : Span) (w1 : World), p ∈ S → Below w.heap.size w w1 → Calls Tryd.prog F (#[.agg #[.int .i64 p.lo, .int .i64 p.hi, .int .i64 p.reason]] ++ caps) w1 fun e w2 => e = .returned (.bool (P p)) ∧ Below w1.heap.size w1 w2)) :
    Calls Tryd.prog 52 #[.slice A S.length c, .func (.func F) #[] caps] w
      fun e w' => e = .returned (.bool (S.any P)) ∧ Below w.heap.size w w' := by
  have H := Lib.hid (idxF_any P S 0)
  go_enter Tryd.func52, Tryd.ntmps52
  go_wp2_with (go_at_call 47; refine (indexFuncSpan_any _ _ _ _ _ P _ hr hl hF hcl).mono ?_; rintro e w1 ⟨rfl, hb1⟩)
  go_ret
  exact ⟨by rw [← H.out]; rfl, hb1⟩

theorem idxSpan_cases (P : Span → Bool) (l : List Span) : ∀ k : Nat, (∃ (i : Nat) (h : i < l.length), idxF P l k = ((k + i : Nat) : Int) ∧ P l[i] = true) ∨ idxF P l k = -1 ∧ ∀ x ∈ l, P x = false := by
  induction l with
  | nil => intro k; exact .inr ⟨rfl, fun x hx => by cases hx⟩
  | cons x r ih =>
    intro k
    by_cases h : P x = true
    · exact .inl ⟨0, by simp, by simp [idxF, h], h⟩
    · rcases ih (k + 1) with ⟨i, hi, he, hp⟩ | ⟨he, hn⟩
      · exact .inl ⟨i + 1, by simpa using hi, by simp only [idxF, if_neg h, he]; congr 1; omega, by simpa using hp⟩
      · refine .inr ⟨by simp only [idxF, if_neg h, he], fun y hy => ?_⟩
        rcases List.mem_cons.1 hy with rfl | hy
        · simpa using h
        · exact hn y hy

end Go.Proofs.YtllnnkiehckegaaDoor
