/-
  strings.SplitSeq at a space: its contract as an iterator.
  Conditions: those written at each theorem.
-/
import Derived.Test.YtllnnkiehckegaaDoorLayIndex
import Derived.Test.YtllnnkiehckegaaDoorW15
import Derived.Test.YtllnnkiehckegaaDoorRfSt
import Derived.RangeFuncBox
import Derived.Shelf.Abstract
import Derived.Shelf.RegionOpen
import Derived.Lib.IndexLaws
import Derived.WalkKit
import Derived.OwnWalkIn
import Derived.TacticsInMore
import Derived.LoopNIn
import Derived.LoopIn
import Derived.Maps.AppendAt
namespace Go.Proofs.YtllnnkiehckegaaDoor
open Go.RowKit Go.Shelf W15
attribute [local go_sem] Oper.semAt_some

theorem splitL_none {l : List UInt8} (h : Lib.indexByte l 32 = -1) : splitL l = [l] := by
  obtain ⟨p, q, rfl, hp, ⟨rfl, hs⟩ | ⟨r, rfl, hs⟩⟩ := split_head l
  · simpa using hs
  · exact absurd (by simp : (p ++ 32 :: r)[p.length]? = some 32) (Lib.indexByte_none h p.length)
theorem splitL_some {l : List UInt8} {i : Nat} (h : Lib.indexByte l 32 = (i : Int)) : i < l.length ∧ splitL l = l.take i :: splitL (l.drop (i + 1)) := by
  obtain ⟨h1, h2⟩ := Lib.indexByte_some h
  obtain ⟨p, q, rfl, hp, ⟨rfl, hs⟩ | ⟨r, rfl, hs⟩⟩ := split_head l
  · simp only [List.append_nil] at h1
    exact absurd rfl (hp 32 (List.mem_of_getElem? h1))
  · have hi : i = p.length := by
      rcases Nat.lt_trichotomy i p.length with hlt | heq | hgt
      · rw [List.getElem?_append_left hlt] at h1
        exact absurd rfl (hp 32 (List.mem_of_getElem? h1))
      · exact heq
      · exact absurd (by simp : (p ++ 32 :: r)[p.length]? = some 32) (h2 p.length hgt)
    subst hi
    refine ⟨by simp, ?_⟩
    rw [hs, List.take_left' rfl, show p.length + 1 = (p ++ [32]).length by simp, show p ++ 32 :: r = (p ++ [32]) ++ r by simp, List.drop_left' rfl]

/-- the pieces of a string between its spaces -/
def pieces (t : ByteArray) : List ByteArray := (splitL (bytesOf t)).map fun p => ⟨p.toArray⟩
theorem bytes_extract (s : ByteArray) (a b : Nat) : bytesOf (s.extract a b) = ((bytesOf s).drop a).take (b - a) := by
  unfold bytesOf
  simp [ByteArray.data_extract, Array.toList_extract]
theorem ofBytes (s : ByteArray) : (⟨(bytesOf s).toArray⟩ : ByteArray) = s := by cases s; rfl
theorem pieces_none {t : ByteArray} (h : Lib.indexByte t.data.toList 32 = -1) : pieces t = [t] := by
  unfold pieces
  rw [splitL_none (l := bytesOf t) h]
  simp [ofBytes]
theorem pieces_some {t : ByteArray} {i : Nat} (h : Lib.indexByte t.data.toList 32 = (i : Int)) : i < t.size ∧ pieces t = t.extract 0 i :: pieces (t.extract (i + 1) t.size) := by
  obtain ⟨h1, h2⟩ := splitL_some (l := bytesOf t) h
  rw [len_bytesOf] at h1
  refine ⟨h1, ?_⟩
  unfold pieces
  rw [h2, List.map_cons, bytes_extract]
  congr 1
  · rw [← ofBytes (t.extract 0 i), bytes_extract]; simp
  · rw [List.take_of_length_le (by rw [List.length_drop, len_bytesOf]; omega)]

/-- what a round keeps for the iterator: its three boxes -/
def Kp3 (B1 B2 B3 : Nat) (W W' : World) : Prop := W'.heap[B1]? = W.heap[B1]? ∧ W'.heap[B2]? = W.heap[B2]? ∧ W'.heap[B3]? = W.heap[B3]?
def strLen : Option Value → Nat
  | some (.string s) => s.size
  | _ => 0
def space : ByteArray := ⟨#[32]⟩

set_option maxRecDepth 100000 in
set_option maxHeartbeats 2000000 in
theorem split1_in (m : Nat) (hm : 1 ≤ m) (l B1 Bs B3 : Nat) (t : ByteArray) (ht : t.size ≤ 1048576) (h13 : B1 ≠ Bs) (h33 : B3 ≠ Bs) (J : List ByteArray → World → Prop) (hSt : ∀ s A B, J s A → A.grownBy B (some Bs) → J s B)
    (hY : ∀ pre x W, J pre W → pre.length < t.size + 1 → YieldAt Fence.wide (m - 1) Tryd.prog l #[.string x] W fun e W' => e = .returned (.bool true) ∧ J (pre ++ [x]) W' ∧ Kp3 B1 Bs B3 W W')
    (W : World) (h1 : Boxed W B1 9 (.string ⟨#[32]⟩)) (h2 : Boxed W Bs 9 (.string t)) (h3 : Boxed W B3 3 (.int .i64 0)) (h0 : J [] W) :
    CallsIn Fence.wide m Tryd.prog 79 #[.func (.yield l) #[] #[], .pointer (some ⟨B1, 0, none⟩), .pointer (some ⟨Bs, 0, none⟩), .pointer (some ⟨B3, 0, none⟩)] W fun e W' => (∃ v, e = .returned v) ∧ ∃ ys, ys = pieces t ∧ J ys W' := by
  refine callsIn_of_wp Tryd.func79 rfl trivial ?_ rfl
  simp only [Tryd.ntmps79, List.size_toArray, List.length_cons, List.length_nil, Nat.reduceAdd, Nat.reduceSub, Array.replicate_succ, Array.replicate_zero, List.push_toArray, List.append_toArray, List.nil_append, List.cons_append]
  have hIx := fun s W => Lib.hid (callsIn_wide (n := m - 1).2 (index_any s 32 W))
  have c1 := h1.cell
  gi_wp2
  gi_loopw [7, 8] (fun v7 v8 wr => ∃ (pre : List ByteArray) (rest : ByteArray), rest.size ≤ 1048576 ∧ pre.length + rest.size ≤ t.size ∧ Hid (pieces t = pre ++ pieces rest) ∧ Boxed wr Bs 9 (.string rest) ∧ Boxed wr B1 9 (.string ⟨#[32]⟩) ∧ Boxed wr B3 3 (.int .i64 0) ∧ J pre wr) (fun _ _ wr => strLen (wr.cell? ⟨Bs, 0, none⟩))
  case atStart => exact ⟨[], t, ht, by simp, by show _ = _; rfl, h2, h1, h3, h0⟩
  case round =>
    obtain ⟨pre, rest, hr0, hpl, hP, b2, b1, b3, hJ⟩ := hrel
    have d1 := b1.cell
    have d2 := b2.cell
    have d3 := b3.cell
    by_cases hi : Lib.indexByte rest.data.toList 32 = -1
    · have hPr := Lib.hid (hP.out.trans (by rw [pieces_none hi]))
      have hI := fun W => hIx rest W
      rw [hi] at hI
      obtain ⟨fn, tmps, assign, body, hy, hR⟩ := hY _ rest wr hJ (by omega)
      gi_wp2_with (refine ⟨trivial, ?_⟩; gi_at_call 80; refine (hI _).out.mono ?_; rintro e w' ⟨rfl, rfl⟩)
      refine hR.mono ?_
      rintro e W3 ⟨rfl, hJ3, _⟩
      gi_wp2
      go_end0
      exact ⟨⟨_, rfl⟩, _, hPr.out.symm, hJ3⟩
    · obtain ⟨i, hie⟩ : ∃ i : Nat, Lib.indexByte rest.data.toList 32 = (i : Int) := ⟨(Lib.indexByte rest.data.toList 32).toNat, by have := Lib.indexByte_ge rest.data.toList 32; omega⟩
      obtain ⟨hi1, hi2⟩ := pieces_some hie
      have hPr : Hid (pieces t = (pre ++ [rest.extract 0 i]) ++ pieces (rest.extract (i + 1) rest.size)) := by show _ = _; rw [hP.out, hi2]; simp
      have hI := fun W => hIx rest W
      rw [hie] at hI
      have hsz2 : (rest.extract (i + 1) rest.size).size + i + 1 = rest.size := by simp; omega
      have k1 : (i : Int) < (rest.size : Int) := by omega
      have k2 : IntKind.i64.wrap ((i : Int) + 1) = (i : Int) + 1 := IntWalk.i64_in _ (by omega)
      have k3 : (i : Int) + 1 ≤ (rest.size : Int) := by omega
      have k4 : ¬ (i : Int) < 0 := by omega
      have k5 : ((i : Int) + 1).toNat = i + 1 := by omega
      have k6 : IntKind.i64.wrap (i : Int) = (i : Int) := IntWalk.i64_in _ (by omega)
      clear hi hie hi2 hP
      obtain ⟨fn, tmps, assign, body, hy, hR⟩ := hY _ (rest.extract 0 i) wr hJ (by omega)
      gi_wp2_with (refine ⟨trivial, ?_⟩; gi_at_call 80; refine (hI _).out.mono ?_; rintro e w' ⟨rfl, rfl⟩)
      refine hR.mono ?_
      rintro e W3 ⟨rfl, hJ3, q1, q2, q3⟩
      have f1 : Boxed W3 B1 9 (.string ⟨#[32]⟩) := q1.trans b1
      have f2 : Boxed W3 Bs 9 (.string rest) := q2.trans b2
      have f3 : Boxed W3 B3 3 (.int .i64 0) := q3.trans b3
      have d4 := f1.cell
      have d5 := f2.cell
      have d6 := f2.frozen
      gi_wp2
      go_roundw
      case rel => exact ⟨pre ++ [rest.extract 0 i], rest.extract (i + 1) rest.size, by omega, by simp; omega, hPr, f2.set _, f1.other h13 _, f3.other h33 _, hSt _ _ _ hJ3 (grownBy_setCell' _ _ _)⟩
      case measure =>
        rw [(f2.set (.string (rest.extract (i + 1) rest.size))).cell, d2]
        simp only [strLen]
        omega

end Go.Proofs.YtllnnkiehckegaaDoor
