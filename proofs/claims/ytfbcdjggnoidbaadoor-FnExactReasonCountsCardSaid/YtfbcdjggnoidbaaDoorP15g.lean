/-
  Chapter 15: how many spans have each reason, by the reference and by the program.
  Conditions: those written at each theorem.
-/
import Derived.Test.YtfbcdjggnoidbaaDoorP15d
namespace Go.Proofs.YtfbcdjggnoidbaaDoor
open Go.RowKit Go.BigFrame
set_option maxRecDepth 100000

def bump (c : List Int) (r : Int) : List Int := c.set (r - 1).toNat (c.getD (r - 1).toNat 0 + 1)
def countsF : List Int → List Span → List Int
  | c, [] => c
  | c, s :: r => countsF (bump c s.reason) r
theorem len_counts : ∀ (l : List Span) (c : List Int), (countsF c l).length = c.length
  | [], c => rfl
  | s :: r, c => by rw [countsF, len_counts r]; simp [bump]
def nine : List Int := List.replicate 9 0
def rcOut (t : ByteArray) (l : List Span) : List Int := if goodT t l = true then countsF nine l else []
theorem len_rc (t : ByteArray) (l : List Span) : (rcOut t l).length ≤ 9 := by
  unfold rcOut; split
  · rw [len_counts]; decide
  · simp
theorem bump_eq {c : List Int} {r : Int} {j : Nat} (hj : r = (j : Int) + 1) (h : j < c.length) : bump c r = c.set j (c[j] + 1) := by
  unfold bump
  rw [show (r - 1).toNat = j by omega, List.getD_eq_getElem?_getD, List.getElem?_eq_getElem h]; rfl
theorem cellsI_set (c : List Int) (j : Nat) (v : Int) : cellsI (c.set j v) = (cellsI c).set j (.int .i64 v) := by simp [cellsI, List.map_set]
theorem made9 : (madeCells (Value.int .i64 0).cells (9 * 1)).toList = cellsI nine := by kernel_rfl
theorem bump_bd {c : List Int} {j k : Nat} (h : j < c.length) (hc : ∀ x ∈ c, 0 ≤ x ∧ x ≤ (k : Int)) : ∀ x ∈ c.set j (c[j] + 1), 0 ≤ x ∧ x ≤ ((k + 1 : Nat) : Int) := by
  intro x hx
  rcases List.mem_or_eq_of_mem_set hx with h1 | rfl
  · have := hc x h1; omega
  · have := hc _ (List.getElem_mem h); omega

set_option maxHeartbeats 1600000 in
theorem specReasonCounts_any (t : ByteArray) (l : List Span) (A : Option Addr) (c : Nat) (ht : t.size ≤ 1048576) (hl : l.length ≤ 1048576) (w : World) (hr : Rd w 3 A l.length (cellsSpan l)) :
    Calls Tryd.prog 26 #[.string t, .slice A l.length c] w fun e w' => ∃ v, e = .returned (.tuple #[v, .bool (goodT t l)]) ∧ SlI w.heap.size w' (rcOut t l) v ∧ Below w.heap.size w w' := by
  obtain ⟨i0, hi, hz0, hz1, hz2⟩ := info_parts infoI
  have HI := Lib.hid (l15Good_any t l A c ht hl w hr)
  have HR := Lib.hid hr
  clear hr
  by_cases h1 : goodT t l = true
  · have e1 : Hid (rcOut t l = countsF nine l) := if_pos h1
    have G1 := Lib.hid h1
    obtain ⟨hst, ht1, hl8⟩ := goodT_true h1
    have HS := Lib.hid hst
    clear hst
    rw [h1] at HI
    clear h1
    go_enter Tryd.func26, Tryd.ntmps26
    go_wp2_with fail
    refine HI.out.mono ?_
    rintro e w1 ⟨rfl, hb1⟩
    have B1 := Lib.hid hb1
    have hs1 := hb1.size
    clear hb1
    go_wp2_with (at_make; refine wpList_make_full _ rfl _ _ 35 rfl w1.heap.size 3 i0 _ 1 Tryd.underlying35 hi hz0 hz1 .i64 .i64 _ _ 9 rfl rfl rfl rfl (by rw [hz2]; omega) (by unfold maxLen; omega) (by simp) ?_; intro w2 hown hgrow)
    rw [made9] at hown
    have hb2 : Below w.heap.size w w2 := B1.out.grown hgrow hs1 (fun k h => by cases h)
    clear hgrow
    have HO2 := Lib.hid hown
    have HB2 := Lib.hid hb2
    clear hown hb2
    go_loopw [7, 8] (fun v7 v8 wr => ∃ (k : Nat) (a : List Int), k ≤ l.length ∧ v7 = .int .i64 k ∧ a.length = 9 ∧ (∀ x ∈ a, 0 ≤ x ∧ x ≤ (k : Int)) ∧ Below w.heap.size w wr ∧ wr.ownsRow w1.heap.size 3 1 (.slice (some ⟨w1.heap.size, 0, none⟩) 9 9) 9 (cellsI a) ∧ Hid (countsF nine l = countsF a (l.drop k))) (fun v7 _ _ => l.length - (intOf v7).toNat)
    case atStart => exact ⟨0, nine, Nat.zero_le _, rfl, rfl, (by decide), HB2.out, HO2.out, by show _ = _; rfl⟩
    case round =>
      clear HO2 HB2
      obtain ⟨k, a, hk, rfl, ha, hab, hb, hown, K⟩ := hrel
      by_cases hlt : k < l.length
      · obtain ⟨gb, go, rfl, hgb, hcell⟩ := (HR.out.below hb).2 (by omega)
        obtain ⟨h0, h1, h2⟩ := cellsSpan_at hcell hlt
        clear hcell
        have hlt' : ((k : Int) < (l.length : Int)) := by omega
        have hrs := (HS.out k hlt).2
        obtain ⟨j, hj⟩ : ∃ j : Nat, l[k].reason = (j : Int) + 1 := ⟨(l[k].reason - 1).toNat, by omega⟩
        have hj9 : j < 9 := by omega
        have hja : j < a.length := by omega
        have K2 : Hid (countsF nine l = countsF (a.set j (a[j] + 1)) (l.drop (k + 1))) := by
          show _ = _; rw [K.out, List.drop_eq_getElem_cons hlt, countsF, bump_eq hj hja]
        have hbd2 := Lib.hid (bump_bd hja hab)
        have hajb := hab _ (List.getElem_mem hja)
        rw [hj] at h2
        have c0 : wr.cell? ⟨w1.heap.size, j, none⟩ = some (.int .i64 a[j]) := by
          have := hown.cellAt j (by omega)
          rw [this]; simp [cellsI, hja]
        have f0 := (own_has hown j (by omega)).2
        have HO := Lib.hid hown
        have HB := Lib.hid hb
        have hla : Hid ((a.set j (a[j] + 1)).length = 9) := Lib.hid (by rw [List.length_set]; exact ha)
        clear K hb hown hab hrs h0 h1 hj
        have hj0 : (0 : Int) ≤ (j : Int) := by omega
        have hj1 : (j : Int) < 9 := by omega
        go_wp2
        go_roundw
        case rel =>
          refine ⟨k + 1, _, by omega, by go_num, hla.out, hbd2.out, HB.out.setCell hs1 _, ?_, K2⟩
          rw [cellsI_set]
          exact (HO.out.stored j (.int .i64 (a[j] + 1))).1
        case measure => simp [intOf]; omega
      · have K2 : Hid (countsF nine l = a) := by
          show _ = _; rw [K.out, List.drop_of_length_le (by omega), countsF]
        have HO := Lib.hid hown
        have HB := Lib.hid hb
        have HA := Lib.hid ha
        clear K hown hb ha hab
        go_wp2
        go_ret2
        exact ⟨_, by rw [G1.out]; rfl, by rw [e1.out, K2.out]; exact ⟨some ⟨w1.heap.size, 0, none⟩, 9, by rw [HA.out]; rfl, by rw [HA.out]; exact own_base HO.out hs1⟩, HB.out⟩
  · have e1 : Hid (rcOut t l = []) := if_neg h1
    have h1' : goodT t l = false := by simpa using h1
    rw [h1'] at HI
    have G1 := Lib.hid h1'
    clear h1 h1'
    go_enter Tryd.func26, Tryd.ntmps26
    go_wp2_with fail
    refine HI.out.mono ?_
    rintro e w1 ⟨rfl, hb1⟩
    have B1 := Lib.hid hb1
    clear hb1
    go_wp2
    go_ret2
    exact ⟨_, by rw [G1.out]; rfl, by rw [e1.out]; exact ⟨_, _, rfl, own_empty w1 _ 1 B1.out.size⟩, Below.alloc B1.out B1.out.size _⟩

set_option maxHeartbeats 1600000 in
theorem implReasonCounts_any (t : ByteArray) (l : List Span) (A : Option Addr) (c : Nat) (ht : t.size ≤ 1048576) (hl : l.length ≤ 1048576) (w : World) (hr : Rd w 3 A l.length (cellsSpan l)) :
    Calls Tryd.prog 27 #[.string t, .slice A l.length c] w fun e w' => ∃ v, e = .returned (.tuple #[v, .bool (goodT t l)]) ∧ SlI w.heap.size w' (rcOut t l) v ∧ Below w.heap.size w w' := by
  obtain ⟨i0, hi, hz0, hz1, hz2⟩ := info_parts infoI
  have HI := Lib.hid (implAreSpans_any t l A c ht hl w hr)
  have HR := Lib.hid hr
  clear hr
  by_cases h1 : goodT t l = true
  · have e1 : Hid (rcOut t l = countsF nine l) := if_pos h1
    have G1 := Lib.hid h1
    obtain ⟨hst, ht1, hl8⟩ := goodT_true h1
    have HS := Lib.hid hst
    clear hst
    rw [h1] at HI
    clear h1
    go_enter Tryd.func27, Tryd.ntmps27
    go_wp2_with fail
    refine HI.out.mono ?_
    rintro e w1 ⟨rfl, hb1⟩
    have B1 := Lib.hid hb1
    have hs1 := hb1.size
    clear hb1
    go_wp2_with (at_make; refine wpList_make_full _ rfl _ _ 35 rfl w1.heap.size 3 i0 _ 1 Tryd.underlying35 hi hz0 hz1 .i64 .i64 _ _ 9 rfl rfl rfl rfl (by rw [hz2]; omega) (by unfold maxLen; omega) (by simp) ?_; intro w2 hown hgrow)
    rw [made9] at hown
    have hb2 : Below w.heap.size w w2 := B1.out.grown hgrow hs1 (fun k h => by cases h)
    clear hgrow
    have HO2 := Lib.hid hown
    have HB2 := Lib.hid hb2
    clear hown hb2
    go_loopw [16] (fun v7 wr => ∃ (k : Nat) (a : List Int), k ≤ l.length ∧ v7 = .int .i64 k ∧ a.length = 9 ∧ (∀ x ∈ a, 0 ≤ x ∧ x ≤ (k : Int)) ∧ Below w.heap.size w wr ∧ wr.ownsRow w1.heap.size 3 1 (.slice (some ⟨w1.heap.size, 0, none⟩) 9 9) 9 (cellsI a) ∧ Hid (countsF nine l = countsF a (l.drop k))) (fun v7 _ => l.length - (intOf v7).toNat)
    case atStart => exact ⟨0, nine, Nat.zero_le _, rfl, rfl, (by decide), HB2.out, HO2.out, by show _ = _; rfl⟩
    case round =>
      clear HO2 HB2
      obtain ⟨k, a, hk, rfl, ha, hab, hb, hown, K⟩ := hrel
      by_cases hlt : k < l.length
      · obtain ⟨gb, go, rfl, hgb, hcell⟩ := (HR.out.below hb).2 (by omega)
        obtain ⟨h0, h1, h2⟩ := cellsSpan_at hcell hlt
        clear hcell
        have hlt' : ((k : Int) < (l.length : Int)) := by omega
        have hrs := (HS.out k hlt).2
        obtain ⟨j, hj⟩ : ∃ j : Nat, l[k].reason = (j : Int) + 1 := ⟨(l[k].reason - 1).toNat, by omega⟩
        have hj9 : j < 9 := by omega
        have hja : j < a.length := by omega
        have K2 : Hid (countsF nine l = countsF (a.set j (a[j] + 1)) (l.drop (k + 1))) := by
          show _ = _; rw [K.out, List.drop_eq_getElem_cons hlt, countsF, bump_eq hj hja]
        have hbd2 := Lib.hid (bump_bd hja hab)
        have hajb := hab _ (List.getElem_mem hja)
        rw [hj] at h2
        have c0 : wr.cell? ⟨w1.heap.size, j, none⟩ = some (.int .i64 a[j]) := by
          have := hown.cellAt j (by omega)
          rw [this]; simp [cellsI, hja]
        have f0 := (own_has hown j (by omega)).2
        have hg1 : w1.heap.size < wr.heap.size := (hown.lt w1.heap.size rfl).2
        have HO := Lib.hid hown
        have HB := Lib.hid hb
        have hla : Hid ((a.set j (a[j] + 1)).length = 9) := Lib.hid (by rw [List.length_set]; exact ha)
        clear K hb hown hab hrs hj
        have hj0 : (0 : Int) ≤ (j : Int) := by omega
        have hj1 : (j : Int) < 9 := by omega
        have HOf := Lib.hid ((HO.out.stored j (.int .i64 (a[j] + 1))).1.alloc (.cells #[.int .i64 l[k].lo, .int .i64 l[k].hi, .int .i64 ((j : Int) + 1)] 53))
        have hbf : Below w.heap.size w (wr.setCell ⟨w1.heap.size, j, none⟩ (.int .i64 (a[j] + 1))) := HB.out.setCell hs1 _
        have HBf := Lib.hid (Below.alloc hbf hbf.size (.cells #[.int .i64 l[k].lo, .int .i64 l[k].hi, .int .i64 ((j : Int) + 1)] 53))
        rw [← cellsI_set] at HOf
        clear hbf
        go_wp2
        go_roundw
        case rel => exact ⟨k + 1, _, by omega, by go_num, hla.out, hbd2.out, HBf.out, HOf.out, K2⟩
        case measure => simp [intOf]; omega
      · have K2 : Hid (countsF nine l = a) := by
          show _ = _; rw [K.out, List.drop_of_length_le (by omega), countsF]
        have HO := Lib.hid hown
        have HB := Lib.hid hb
        have HA := Lib.hid ha
        clear K hown hb ha hab
        go_wp2
        go_ret2
        exact ⟨_, by rw [G1.out]; rfl, by rw [e1.out, K2.out]; exact ⟨some ⟨w1.heap.size, 0, none⟩, 9, by rw [HA.out]; rfl, by rw [HA.out]; exact own_base HO.out hs1⟩, HB.out⟩
  · have e1 : Hid (rcOut t l = []) := if_neg h1
    have h1' : goodT t l = false := by simpa using h1
    rw [h1'] at HI
    have G1 := Lib.hid h1'
    clear h1 h1'
    go_enter Tryd.func27, Tryd.ntmps27
    go_wp2_with fail
    refine HI.out.mono ?_
    rintro e w1 ⟨rfl, hb1⟩
    have B1 := Lib.hid hb1
    clear hb1
    go_wp2
    go_ret2
    exact ⟨_, by rw [G1.out]; rfl, by rw [e1.out]; exact SlI.nil _ _, B1.out⟩

end Go.Proofs.YtfbcdjggnoidbaaDoor
