/-
  Lists of records: the law's helper that marks them; what it leaves as it was.
  Conditions: those written at each theorem.
-/
import Derived.Test.YtfkpjfohkkilmaaTyRecT
namespace Go.Proofs.Ytfkpjfohkkilmaa
open Go.RowKit Go.BigFrame
set_option maxRecDepth 100000

/-- w' is w, but for the blocks from b0 up to b1 and new ones -/
structure Frm (b0 b1 : Nat) (w w' : World) : Prop where
  os : w'.os = w.os
  tape : w'.tape = w.tape
  output : w'.output = w.output
  size : w.heap.size ≤ w'.heap.size
  block : ∀ k, k < w.heap.size → (k < b0 ∨ b1 ≤ k) → w'.heap[k]? = w.heap[k]?
theorem Frm.refl (b0 b1 : Nat) (w : World) : Frm b0 b1 w w := ⟨rfl, rfl, rfl, Nat.le_refl _, fun _ _ _ => rfl⟩
theorem Frm.grown {b0 b1 : Nat} {a w w' : World} {r : Option Nat} (h : Frm b0 b1 a w) (hg : w.grownBy w' r) (hr : ∀ q, r = some q → b0 ≤ q ∧ q < b1) : Frm b0 b1 a w' :=
  ⟨hg.os.trans h.os, hg.tape.trans h.tape, hg.output.trans h.output, Nat.le_trans h.size hg.size, fun k hk hne => (hg.block k (Nat.lt_of_lt_of_le hk h.size) (fun e => by
    obtain ⟨h1, h2⟩ := hr k e.symm
    omega)).trans (h.block k hk hne)⟩
theorem Frm.below {B b0 b1 : Nat} {a w w' : World} (h : Below B a w) (hf : Frm b0 b1 w w') (hB : B ≤ b0) (hs : B ≤ w.heap.size) : Below B a w' :=
  ⟨hf.os.trans h.os, hf.tape.trans h.tape, hf.output.trans h.output, Nat.le_trans h.size hf.size, fun k hk => (hf.block k (by omega) (.inl (by omega))).trans (h.block k hk)⟩
theorem Frm.own {b0 b1 base : Nat} {w w' : World} {e : TypeId} {sz n : Nat} {v : Value} {xs : List Value} (hf : Frm b0 b1 w w') (h : w.ownsRow base e sz v n xs) (hv : ∀ q, v.ownBlock = some q → q < b0 ∨ b1 ≤ q) : w'.ownsRow base e sz v n xs := by
  refine ⟨h.1, ?_⟩
  rcases h.2 with hn | ⟨g, cap, cur, rfl, hb, hg, rest⟩
  · exact .inl hn
  · exact .inr ⟨g, cap, cur, rfl, hb, (hf.block g (Array.getElem?_eq_some_iff.1 hg).1 (hv g rfl)).trans hg, rest⟩

theorem setQ {P R : List Value} {i : Nat} {a0 a1 a2 a3 v0 v1 v2 : Value} (hP : P.length = i * 4) :
    (((P ++ a0 :: a1 :: a2 :: a3 :: R).set (i * 4) v0).set (i * 4 + 1) v1).set (i * 4 + 2) v2 = (P ++ [v0, v1, v2, a3]) ++ R := by
  simp [List.set_append, hP]

set_option maxHeartbeats 2000000 in
theorem markRecordS_any (b0 b1 : Nat) (K : List RQ) (g c : Nat) (w : World) (h : OwnQ b0 w g c K) (hl : K.length + sumQ K ≤ 1048576) (hg1 : b0 ≤ g ∧ g < b1) (hx1 : ∀ x ∈ K, ∀ q, blkQ x = some q → q < b1) :
    Calls Try.prog 10 #[.slice (some ⟨g, 0, none⟩) K.length c, .int .i64 1] w
      fun e w' => ∃ v : Int, e = .returned (.int .i64 v) ∧ 0 ≤ v ∧ Frm b0 b1 w w' := by
  have hpw := h.2.2
  have HPW := Lib.hid hpw
  have HX1 := Lib.hid hx1
  have H0 : Hid (∀ x ∈ K, blkQ x ≠ some g ∧ w.ownsRow b0 66 2 (.slice x.A x.r.events.length x.c) x.r.events.length (cellsEvent x.r.events)) := Lib.hid h.2.1
  have O0 := Lib.hid h.1
  clear h hpw hx1
  go_enter Try.func10, Try.ntmps10
  go_wp2_with fail
  go_loopw [1, 5] (fun v1 v5 wr => ∃ (i : Nat) (kk : Int) (P : List Value), i ≤ K.length ∧ P.length = i * 4 ∧ v5 = .int .i64 i ∧ v1 = .int .i64 kk ∧ (0 ≤ kk ∧ kk + 3 * ((K.length : Int) - i) + 2 * (sumQ (K.drop i) : Int) ≤ 5000000) ∧ Frm b0 b1 w wr ∧
    wr.ownsRow b0 48 4 (.slice (some ⟨g, 0, none⟩) K.length c) K.length (P ++ cellsRQ (K.drop i)) ∧
    Hid (∀ x ∈ K.drop i, blkQ x ≠ some g ∧ wr.ownsRow b0 66 2 (.slice x.A x.r.events.length x.c) x.r.events.length (cellsEvent x.r.events))) (fun _ v5 _ => K.length - (intOf v5).toNat)
  case atStart => exact ⟨0, 1, [], Nat.zero_le _, rfl, rfl, rfl, ⟨by omega, by rw [List.drop_zero]; omega⟩, Frm.refl _ _ _, O0.out, H0⟩
  case round =>
    clear O0 H0
    obtain ⟨i, kk, P, hi, hP, rfl, rfl, hkk, hf, hown, HS⟩ := hrel
    by_cases hlt : i < K.length
    · have hlt' : ((i : Int) < (K.length : Int)) := by omega
      obtain ⟨⟨z0, e0⟩, f0⟩ := own_has hown (i * 4) (by omega)
      obtain ⟨⟨z1, e1⟩, f1⟩ := own_has hown (i * 4 + 1) (by omega)
      obtain ⟨⟨z2, e2⟩, f2⟩ := own_has hown (i * 4 + 2) (by omega)
      have hsq := sumQ_take K i hlt
      have e3 : wr.cell? ⟨g, i * 4 + 3, none⟩ = some (.slice K[i].A K[i].r.events.length K[i].c) := by
        have h := hown.cellAt (i * 4 + 3) (by omega)
        rw [h, List.getElem?_append_right (by omega), hP, List.drop_eq_getElem_cons hlt, show i * 4 + 3 - i * 4 = 3 by omega]
        rfl
      have HS4 := (((hown.stored (i * 4) (.int .i64 kk)).1.stored (i * 4 + 1) (.int .i64 (kk + 1))).1.stored (i * 4 + 2) (.int .i64 (kk + 1 + 1))).1
      rw [List.drop_eq_getElem_cons hlt, show cellsRQ (K[i] :: K.drop (i + 1)) = .int .i64 K[i].r.id :: .int .i64 K[i].r.series :: .int .i64 K[i].r.made :: .slice K[i].A K[i].r.events.length K[i].c :: cellsRQ (K.drop (i + 1)) from rfl, setQ hP] at HS4
      have HO4 := Lib.hid HS4
      have hgr : wr.grownBy (((wr.setCell ⟨g, i * 4, none⟩ (.int .i64 kk)).setCell ⟨g, i * 4 + 1, none⟩ (.int .i64 (kk + 1))).setCell ⟨g, i * 4 + 2, none⟩ (.int .i64 (kk + 1 + 1))) (some g) :=
        grown_set (grown_set (grown_set (g := g) (a := wr) (w := wr) ⟨rfl, rfl, rfl, Nat.le_refl _, fun _ _ _ => rfl⟩ _ _) _ _) _ _
      have HF4 := Lib.hid (hf.grown hgr (fun q hq => by cases hq; exact hg1))
      have HSs : Hid (∀ x ∈ K.drop i, blkQ x ≠ some g ∧ (((wr.setCell ⟨g, i * 4, none⟩ (.int .i64 kk)).setCell ⟨g, i * 4 + 1, none⟩ (.int .i64 (kk + 1))).setCell ⟨g, i * 4 + 2, none⟩ (.int .i64 (kk + 1 + 1))).ownsRow b0 66 2 (.slice x.A x.r.events.length x.c) x.r.events.length (cellsEvent x.r.events)) :=
        Lib.hid (fun x hx => ⟨(HS.out x hx).1, (HS.out x hx).2.kept hgr (.inr (HS.out x hx).1)⟩)
      have hmem : K[i] ∈ K.drop i := by rw [List.drop_eq_getElem_cons hlt]; exact List.mem_cons_self
      have HMK := Lib.hid (markEventS_any _ K[i].r.events.length (kk + 1 + 1 + 1) K[i].A K[i].c b0 _ (HSs.out _ hmem).2 (by omega) (by omega))
      clear HS4 hown hf hgr HS
      go_wp2_with fail
      refine HMK.out.mono ?_
      rintro e w2 ⟨rfl, _, hg⟩
      have B2 := Lib.hid (HF4.out.grown hg (fun q hq => ⟨((HSs.out _ hmem).2.lt q hq).1, HX1.out _ (List.getElem_mem hlt) q hq⟩))
      have O2 := Lib.hid (HO4.out.kept hg (.inr (fun e => (HSs.out _ hmem).1 e.symm)))
      have S2 : Hid (∀ x ∈ K.drop (i + 1), blkQ x ≠ some g ∧ w2.ownsRow b0 66 2 (.slice x.A x.r.events.length x.c) x.r.events.length (cellsEvent x.r.events)) := Lib.hid (fun x hx => by
        have hx' : x ∈ K.drop i := by rw [List.drop_eq_getElem_cons hlt]; exact List.mem_cons_of_mem _ hx
        refine ⟨(HSs.out x hx').1, (HSs.out x hx').2.kept hg (.inr ?_)⟩
        have hpd := HPW.out
        rw [← List.take_append_drop i K, List.drop_eq_getElem_cons hlt, List.pairwise_append] at hpd
        exact fun e => (List.pairwise_cons.1 hpd.2.1).1 x hx e.symm)
      clear hg
      go_wp2
      go_roundw
      case rel => exact ⟨i + 1, kk + 1 + 1 + 1 + 2 * K[i].r.events.length, P ++ [.int .i64 kk, .int .i64 (kk + 1), .int .i64 (kk + 1 + 1), .slice K[i].A K[i].r.events.length K[i].c], by omega, by simp; omega, by go_num, by go_num, ⟨by omega, by omega⟩, B2.out, O2.out, S2⟩
      case measure => simp [intOf]; omega
    · have hge : ¬ ((i : Int) < (K.length : Int)) := by omega
      have HFr := Lib.hid hf
      clear hf hown HS
      go_wp2
      go_ret
      exact ⟨kk, rfl, hkk.1, HFr.out⟩

end Go.Proofs.Ytfkpjfohkkilmaa
