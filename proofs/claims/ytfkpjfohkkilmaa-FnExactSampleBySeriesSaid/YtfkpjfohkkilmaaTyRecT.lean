/-
  Lists of records: the law's own helpers that copy and mark them.
  Conditions: those written at each theorem.
-/
import Derived.Test.YtfkpjfohkkilmaaTyRecS
namespace Go.Proofs.Ytfkpjfohkkilmaa
open Go.RowKit Go.BigFrame
set_option maxRecDepth 100000

theorem infoRec : (Try.prog.info? 48).map (fun i => (i.zero, i.size, i.bytes)) = some (some (.agg #[.int .i64 0, .int .i64 0, .int .i64 0, .slice none 0 0]), 4, 48) := by kernel_rfl
/-- the block of a record's events -/
def blkQ (x : RQ) : Option Nat := (Value.slice x.A x.r.events.length x.c).ownBlock
/-- a slice of records of the call's own, the events each in a row of its own -/
def OwnQ (base : Nat) (w : World) (g c : Nat) (K : List RQ) : Prop :=
  w.ownsRow base 48 4 (.slice (some ⟨g, 0, none⟩) K.length c) K.length (cellsRQ K) ∧
  (∀ x ∈ K, blkQ x ≠ some g ∧ w.ownsRow base 66 2 (.slice x.A x.r.events.length x.c) x.r.events.length (cellsEvent x.r.events)) ∧ K.Pairwise (fun x y => blkQ x ≠ blkQ y)
theorem OwnQ.rd {base : Nat} {w : World} {g c : Nat} {K : List RQ} (h : OwnQ base w g c K) : RdQ w (some ⟨g, 0, none⟩) K := ⟨Rd.of_own h.1, fun x hx => Rd.of_own (h.2.1 x hx).2⟩
theorem OwnQ.below {base : Nat} {w w' : World} {g c : Nat} {K : List RQ} (h : OwnQ base w g c K) (hb : Below w.heap.size w w') : OwnQ base w' g c K :=
  ⟨own_below h.1 hb, fun x hx => ⟨(h.2.1 x hx).1, own_below (h.2.1 x hx).2 hb⟩, h.2.2⟩
set_option maxHeartbeats 2000000 in
theorem toRecordS_any (L : List RQ) (A : Option Addr) (c : Nat) (w : World) (hr : RdQ w A L) (hl : L.length + sumQ L ≤ 1048576) :
    Calls Try.prog 6 #[.slice A L.length c] w
      fun e w' => ∃ K : List RQ, e = .returned (.slice (some ⟨w.heap.size, 0, none⟩) K.length K.length) ∧ K.map (·.r) = L.map (·.r) ∧ OwnQ w.heap.size w' w.heap.size K.length K ∧ Below w.heap.size w w' := by
  obtain ⟨i0, hi, hz0, hz1, hz2⟩ := info_parts infoRec
  have HR := Lib.hid hr
  clear hr
  go_enter Try.func6, Try.ntmps6
  go_wp2_with (at_make; refine wpList_make_full _ rfl _ _ 27 rfl w.heap.size 48 i0 _ 4 Try.underlying27 hi hz0 hz1 .i64 .i64 _ _ L.length rfl rfl rfl rfl (by rw [hz2]; omega) (by unfold maxLen; omega) (by simp) ?_; intro w1 hown hgrow)
  have hb0 : Below w.heap.size w w1 := (Below.refl _ _).grown hgrow (Nat.le_refl _) (fun k h => by cases h)
  have hlt1 : w.heap.size < w1.heap.size ∨ L.length = 0 := by
    rcases Nat.eq_zero_or_pos L.length with h | h
    · exact .inr h
    · exact .inl (hown.lt w.heap.size rfl).2
  have LT1 := Lib.hid hlt1
  clear hgrow hlt1
  go_loopw [4] (fun v4 wr => ∃ (k : Nat) (K : List RQ), k ≤ L.length ∧ K.length = k ∧ v4 = .int .i64 k ∧ Below w.heap.size w wr ∧ w1.heap.size ≤ wr.heap.size ∧
      wr.ownsRow w.heap.size 48 4 (.slice (some ⟨w.heap.size, 0, none⟩) L.length L.length) L.length (cellsRQ K ++ (madeCells (Value.agg #[.int .i64 0, .int .i64 0, .int .i64 0, .slice none 0 0]).cells (L.length * 4)).toList.drop (k * 4)) ∧
      Hid (K.map (·.r) = (L.take k).map (·.r) ∧ (∀ x ∈ K, blkQ x ≠ some w.heap.size ∧ wr.ownsRow w.heap.size 66 2 (.slice x.A x.r.events.length x.c) x.r.events.length (cellsEvent x.r.events)) ∧ K.Pairwise (fun x y => blkQ x ≠ blkQ y))) (fun v4 _ => L.length - (intOf v4).toNat)
  case atStart => exact ⟨0, [], Nat.zero_le _, rfl, rfl, hb0, Nat.le_refl _, hown, Lib.hid ⟨rfl, fun x hx => (by cases hx), by simp⟩⟩
  case round =>
    clear hown hb0
    obtain ⟨k, K, hk, hKl, rfl, hb, hs1, hown, HK⟩ := hrel
    by_cases hlt : k < L.length
    · have hlt' : ((k : Int) < (L.length : Int)) := by omega
      obtain ⟨gb, go, rfl, hgb, hcell⟩ := (HR.out.below hb).1.2 (by omega)
      obtain ⟨h0, h1, h2, h3⟩ := cellsRQ_at hcell hlt
      have hm := sumQ_mem (List.getElem_mem hlt)
      have hgw : w.heap.size < wr.heap.size := (hown.lt w.heap.size rfl).2
      have HB := Lib.hid hb
      have HO := Lib.hid hown
      have HS := Lib.hid ((HR.out.below hb).2 _ (List.getElem_mem hlt))
      clear hcell hb hown
      go_wp2_with fail
      refine (toRecord_any L[k].r L[k].A L[k].c _ HS.out (by omega)).mono ?_
      rintro e w2 ⟨g2, rfl, ho2, hb2⟩
      have hown2 := own_below HO.out hb2
      obtain ⟨⟨z0, e0⟩, f0⟩ := own_has hown2 (k * 4) (by omega)
      obtain ⟨⟨z1, e1⟩, f1⟩ := own_has hown2 (k * 4 + 1) (by omega)
      obtain ⟨⟨z2, e2⟩, f2⟩ := own_has hown2 (k * 4 + 2) (by omega)
      obtain ⟨⟨z3, e3⟩, f3⟩ := own_has hown2 (k * 4 + 3) (by omega)
      have HO2 := Lib.hid hown2
      have HB2 := Lib.hid (Below.transB HB.out (Nat.le_refl _) hb2)
      have hg2 := (ho2.lt g2 rfl).1
      have hs2 := hb2.size
      have HQ2 := Lib.hid ho2
      have HK2 : Hid (∀ x ∈ K, blkQ x ≠ some g2 ∧ blkQ x ≠ some w.heap.size ∧ w2.ownsRow w.heap.size 66 2 (.slice x.A x.r.events.length x.c) x.r.events.length (cellsEvent x.r.events)) := Lib.hid (fun x hx => by
        have h := HK.out.2.1 x hx
        refine ⟨fun e => ?_, h.1, own_below h.2 hb2⟩
        have := (h.2.lt g2 e).2
        omega)
      clear hown2 ho2 hb2
      go_wp2
      go_roundw
      case rel =>
        refine ⟨k + 1, K ++ [⟨L[k].r, some ⟨g2, 0, none⟩, L[k].r.events.length⟩], by omega, by simp [hKl], by go_num, ((((HB2.out.setCell (Nat.le_refl _) _).setCell (Nat.le_refl _) _).setCell (Nat.le_refl _) _).setCell (Nat.le_refl _) _), by simp; omega, ?_, Lib.hid ⟨?_, ?_, ?_⟩⟩
        · have h := ((((HO2.out.stored (k * 4) (.int .i64 L[k].r.id)).1.stored (k * 4 + 1) (.int .i64 L[k].r.series)).1.stored (k * 4 + 2) (.int .i64 L[k].r.made)).1.stored (k * 4 + 3) (.slice (some ⟨g2, 0, none⟩) L[k].r.events.length L[k].r.events.length)).1
          rw [fill4 (by rw [len_cellsRQ, hKl]) (by rw [len_made]; omega)] at h
          rw [cellsRQ_append, List.append_assoc]
          exact h
        · rw [List.map_append, HK.out.1, take_succ' L k hlt, List.map_append]; rfl
        · intro x hx
          have keep : ∀ (n c : Nat) (B : Option Addr) (xs : List Value), (Value.slice B n c).ownBlock ≠ some w.heap.size → w2.ownsRow w.heap.size 66 2 (.slice B n c) n xs →
              ((((w2.setCell ⟨w.heap.size, k * 4, none⟩ (.int .i64 L[k].r.id)).setCell ⟨w.heap.size, k * 4 + 1, none⟩ (.int .i64 L[k].r.series)).setCell ⟨w.heap.size, k * 4 + 2, none⟩ (.int .i64 L[k].r.made)).setCell ⟨w.heap.size, k * 4 + 3, none⟩ (.slice (some ⟨g2, 0, none⟩) L[k].r.events.length L[k].r.events.length)).ownsRow w.heap.size 66 2 (.slice B n c) n xs := fun n c B xs hne ho =>
            ho.kept (grown_set (grown_set (grown_set (grown_set (g := w.heap.size) (a := w2) (w := w2) ⟨rfl, rfl, rfl, Nat.le_refl _, fun _ _ _ => rfl⟩ _ _) _ _) _ _) _ _) (.inr hne)
          rcases List.mem_append.1 hx with hx | hx
          · have h := HK2.out x hx
            exact ⟨h.2.1, keep _ _ _ _ h.2.1 h.2.2⟩
          · obtain rfl : x = ⟨L[k].r, some ⟨g2, 0, none⟩, L[k].r.events.length⟩ := by simpa using hx
            have hne : (Value.slice (some ⟨g2, 0, none⟩) L[k].r.events.length L[k].r.events.length).ownBlock ≠ some w.heap.size := fun e => by have := Option.some.inj e; simp at this; omega
            exact ⟨hne, keep _ _ _ _ hne (own_base HQ2.out (by omega))⟩
        · refine List.pairwise_append.2 ⟨HK.out.2.2, by simp, fun x hx y hy => ?_⟩
          obtain rfl : y = ⟨L[k].r, some ⟨g2, 0, none⟩, L[k].r.events.length⟩ := by simpa using hy
          exact (HK2.out x hx).1
      case measure => simp [intOf]; omega
    · have hkl : k = L.length := by omega
      have hge : ¬ ((k : Int) < (L.length : Int)) := by omega
      have H1 : Hid (wr.ownsRow w.heap.size 48 4 (.slice (some ⟨w.heap.size, 0, none⟩) K.length K.length) K.length (cellsRQ K)) := by
        rw [hKl, hkl]
        rw [hkl, List.drop_of_length_le (by rw [len_made]; omega), List.append_nil] at hown
        exact Lib.hid hown
      have H2 : Hid (K.map (·.r) = L.map (·.r)) := by
        have := HK.out.1
        rw [hkl, List.take_length] at this
        exact Lib.hid this
      have hlen : Hid (L.length = K.length) := Lib.hid (by omega)
      clear hown hkl hKl
      go_wp2
      go_ret
      exact ⟨K, by rw [← hlen.out]; rfl, H2.out, ⟨H1.out, HK.out.2.1, HK.out.2.2⟩, hb⟩

end Go.Proofs.Ytfkpjfohkkilmaa
