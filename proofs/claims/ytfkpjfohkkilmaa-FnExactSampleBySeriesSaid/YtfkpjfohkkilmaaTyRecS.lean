/-
  Lists of records: a slice of four-cell structs whose fourth cell is a slice; the law's own helpers on them: measure, compare.
  Conditions: those written at each theorem.
-/
import Derived.Test.YtfkpjfohkkilmaaP16o
import Derived.Test.YtfkpjfohkkilmaaOwn
import Derived.Test.YtfkpjfohkkilmaaSi
namespace Go.Proofs.Ytfkpjfohkkilmaa
open Go.RowKit Go.BigFrame
set_option maxRecDepth 100000

structure RQ where
  r : Rec
  A : Option Addr
  c : Nat
instance : Inhabited RQ := ⟨⟨⟨0, 0, 0, []⟩, none, 0⟩⟩
def cellRQ (x : RQ) : List Value := [.int .i64 x.r.id, .int .i64 x.r.series, .int .i64 x.r.made, .slice x.A x.r.events.length x.c]
def cellsRQ (l : List RQ) : List Value := l.flatMap cellRQ
theorem len_cellsRQ (l : List RQ) : (cellsRQ l).length = l.length * 4 := length_flat cellRQ 4 (fun _ => rfl) l
theorem cellsRQ_append (l m : List RQ) : cellsRQ (l ++ m) = cellsRQ l ++ cellsRQ m := by simp [cellsRQ]
theorem cellsRQ_at {w : World} {l : List RQ} {b o k : Nat} (hc : ∀ j u, (cellsRQ l)[j]? = some u → w.cell? ⟨b, o + j, none⟩ = some u) (h : k < l.length) :
    w.cell? ⟨b, o + k * 4, none⟩ = some (.int .i64 l[k].r.id) ∧ w.cell? ⟨b, o + k * 4 + 1, none⟩ = some (.int .i64 l[k].r.series) ∧ w.cell? ⟨b, o + k * 4 + 2, none⟩ = some (.int .i64 l[k].r.made) ∧ w.cell? ⟨b, o + k * 4 + 3, none⟩ = some (.slice l[k].A l[k].r.events.length l[k].c) := by
  have e : ∀ r, r < 4 → (cellsRQ l)[k * 4 + r]? = (cellRQ l[k])[r]? := fun r hr => getElem?_flat cellRQ 4 (fun _ => rfl) l k r h hr
  exact ⟨hc _ _ (e 0 (by omega)), hc _ _ (e 1 (by omega)), hc _ _ (e 2 (by omega)), hc _ _ (e 3 (by omega))⟩
/-- a slice reads as these records -/
def RdQ (w : World) (A : Option Addr) (L : List RQ) : Prop := Rd w 4 A L.length (cellsRQ L) ∧ ∀ x ∈ L, Rd w 2 x.A x.r.events.length (cellsEvent x.r.events)
theorem RdQ.below {w w' : World} {A : Option Addr} {L : List RQ} (h : RdQ w A L) (hb : Below w.heap.size w w') : RdQ w' A L := ⟨h.1.below hb, fun x hx => (h.2 x hx).below hb⟩
def sumQ : List RQ → Nat
  | [] => 0
  | x :: r => x.r.events.length + sumQ r
theorem sumQ_take (L : List RQ) (k : Nat) (h : k < L.length) : sumQ (L.drop k) = L[k].r.events.length + sumQ (L.drop (k + 1)) := by
  rw [List.drop_eq_getElem_cons h, sumQ]
theorem sumQ_mem {L : List RQ} {x : RQ} (h : x ∈ L) : x.r.events.length ≤ sumQ L := by
  induction L with
  | nil => cases h
  | cons y r ih =>
    rw [sumQ]
    rcases List.mem_cons.1 h with rfl | h
    · omega
    · have := ih h; omega

set_option maxHeartbeats 1000000 in
theorem szRecordS_any (L : List RQ) (A : Option Addr) (c : Nat) (w : World) (hr : RdQ w A L) (hL : L.length ≤ 9223372036854775807) (hs : ∀ x ∈ L, x.r.events.length ≤ 9223372036854775807) :
    Calls Try.prog 4 #[.slice A L.length c, .int .i64 1048576] w
      fun e w' => ∃ v : Int, e = .returned (.int .i64 v) ∧ Below w.heap.size w w' ∧ (v = -1 ∨ 0 ≤ v ∧ L.length + sumQ L ≤ 1048576) := by
  have HR := Lib.hid hr
  have HS := Lib.hid hs
  clear hr hs
  by_cases hl : L.length ≤ 1048576
  · have hneg : ¬ ((1048576 : Int) - (L.length : Int) < 0) := by omega
    go_enter Try.func4, Try.ntmps4
    go_wp2_with fail
    go_loopw [1, 5] (fun v1 v5 wr => ∃ (k : Nat) (lf : Int), k ≤ L.length ∧ v5 = .int .i64 k ∧ v1 = .int .i64 lf ∧ (0 ≤ lf ∧ lf ≤ 1048576) ∧ Below w.heap.size w wr ∧ Hid (lf + L.length + sumQ L = 1048576 + sumQ (L.drop k))) (fun _ v5 _ => L.length - (intOf v5).toNat)
    case atStart => exact ⟨0, 1048576 - L.length, Nat.zero_le _, rfl, rfl, by omega, Below.refl _ _, by show _ = _; simp⟩
    case round =>
      obtain ⟨k, lf, hk, rfl, rfl, hlf, hb, K⟩ := hrel
      by_cases hlt : k < L.length
      · have hlt' : ((k : Int) < (L.length : Int)) := by omega
        obtain ⟨gb, go, rfl, hgb, hcell⟩ := (HR.out.below hb).1.2 (by omega)
        obtain ⟨h0, h1, h2, h3⟩ := cellsRQ_at hcell hlt
        have hn := HS.out _ (List.getElem_mem hlt)
        have HB := Lib.hid hb
        have K1 := K.out
        rw [sumQ_take L k hlt] at K1
        have HK := Lib.hid K1
        clear hcell hb K K1
        by_cases hq : lf < (L[k].r.events.length : Int)
        · go_wp2_with fail
          refine (szRecord_no _ _ _ _ _ _ _ _ hlf.1 hn hq).mono ?_
          rintro e w2 ⟨rfl, hb2⟩
          have B2 := Lib.hid (Below.transB HB.out (Nat.le_refl _) hb2)
          clear hb2
          go_wp2
          go_ret
          exact ⟨-1, rfl, B2.out, .inl rfl⟩
        · go_wp2_with fail
          refine (szRecord_ok _ _ _ _ _ _ _ _ hlf.2 (by omega)).mono ?_
          rintro e w2 ⟨rfl, hb2⟩
          have B2 := Lib.hid (Below.transB HB.out (Nat.le_refl _) hb2)
          clear hb2
          have hnn : ¬ (lf - (L[k].r.events.length : Int) < 0) := by omega
          go_wp2
          go_roundw
          case rel => exact ⟨k + 1, lf - L[k].r.events.length, by omega, by go_num, rfl, by omega, B2.out, by show _ = _; have := HK.out; omega⟩
          case measure => simp [intOf]; omega
      · have hge : ¬ ((k : Int) < (L.length : Int)) := by omega
        have HF : Hid (L.length + sumQ L ≤ 1048576) := by
          have := K.out
          rw [List.drop_of_length_le (by omega), sumQ] at this
          exact Lib.hid (by omega)
        clear K
        go_wp2
        go_ret
        exact ⟨lf, rfl, hb, .inr ⟨hlf.1, HF.out⟩⟩
  · have hneg : (1048576 : Int) - (L.length : Int) < 0 := by omega
    go_enter Try.func4, Try.ntmps4
    go_wp2
    go_ret
    exact ⟨-1, rfl, Below.refl _ _, .inl rfl⟩

set_option maxHeartbeats 1000000 in
theorem eqRecordS_same (L K : List RQ) (A B : Option Addr) (c d : Nat) (w : World) (hr : RdQ w A L) (hs : RdQ w B K) (hlk : L.map (·.r) = K.map (·.r)) (hl : L.length + sumQ L ≤ 1048576) :
    Calls Try.prog 9 #[.slice A L.length c, .slice B K.length d] w fun e w' => e = .returned (.bool true) ∧ Below w.heap.size w w' := by
  have hkl : K.length = L.length := by have := congrArg List.length hlk; simpa using this.symm
  have HR := Lib.hid hr
  have HS := Lib.hid hs
  have HE : Hid (∀ k (h1 : k < L.length) (h2 : k < K.length), L[k].r = K[k].r) := Lib.hid (fun k h1 h2 => by
    have := congrArg (fun l => l[k]?) hlk
    simpa [h1, h2] using this)
  clear hr hs hlk
  rw [hkl]
  go_enter Try.func9, Try.ntmps9
  go_wp2_with fail
  go_loopw [5] (fun v5 wr => ∃ k : Nat, k ≤ L.length ∧ v5 = .int .i64 k ∧ Below w.heap.size w wr) (fun v5 _ => L.length - (intOf v5).toNat)
  case atStart => exact ⟨0, Nat.zero_le _, rfl, Below.refl _ _⟩
  case round =>
    obtain ⟨k, hk, rfl, hb⟩ := hrel
    by_cases hlt : k < L.length
    · have hlt' : ((k : Int) < (L.length : Int)) := by omega
      have hk2 : k < K.length := by omega
      obtain ⟨gb, go, rfl, hgb, hcell⟩ := (HR.out.below hb).1.2 (by omega)
      obtain ⟨h0, h1, h2, h3⟩ := cellsRQ_at hcell hlt
      obtain ⟨gb2, go2, rfl, hgb2, hcell2⟩ := (HS.out.below hb).1.2 (by omega)
      obtain ⟨k0, k1, k2, k3⟩ := cellsRQ_at hcell2 hk2
      have he := HE.out k hlt hk2
      rw [← he] at k0 k1 k2 k3
      have hsx := (HS.out.below hb).2 _ (List.getElem_mem hk2)
      rw [← he] at hsx
      have hm := sumQ_mem (List.getElem_mem hlt)
      have HQ := fun s : GW wr => Lib.hid (eqRecord_same L[k].r L[k].A K[k].A L[k].c K[k].c s.w (((HR.out.below hb).2 _ (List.getElem_mem hlt)).below s.below) (hsx.below s.below) (by omega))
      have p0 := cellG hgb h0
      have p1 := cellG hgb h1
      have p2 := cellG hgb h2
      have p3 := cellG hgb h3
      have q0 := cellG hgb2 k0
      have q1 := cellG hgb2 k1
      have q2 := cellG hgb2 k2
      have q3 := cellG hgb2 k3
      have HB := Lib.hid hb
      clear hcell hcell2 he hsx hm hb h0 h1 h2 h3 k0 k1 k2 k3
      go_wp2_with fail
      refine wp_region_grow (by kernel_rfl) (by kernel_rfl) ?_
      repeat (go_big_quiet_step (first | (go_at_call 28; exact quietG (HQ _).out)))
      refine wpQuiet_endG ?_
      intro w2 hb2
      have B2 := Lib.hid (Below.transB HB.out (Nat.le_refl _) hb2)
      clear hb2 p0 p1 p2 p3 q0 q1 q2 q3
      go_wp2
      go_roundw
      case rel => exact ⟨k + 1, by omega, by go_num, B2.out⟩
      case measure => simp [intOf]; omega
    · have hge : ¬ ((k : Int) < (L.length : Int)) := by omega
      go_wp2
      go_ret
      exact ⟨rfl, hb⟩

end Go.Proofs.Ytfkpjfohkkilmaa
