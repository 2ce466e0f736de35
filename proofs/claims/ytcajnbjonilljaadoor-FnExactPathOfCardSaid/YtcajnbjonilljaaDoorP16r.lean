/-
  slices.Chunk at a list of numbers, two at a time: its contract as an iterator.
  Conditions: those written at each theorem.
-/
import Derived.RangeFuncNested
import Derived.RangeFuncBound
import Derived.RangeFuncCalls
import Derived.RangeFuncLeaves
import Derived.Shelf.Abstract
import Derived.Shelf.RegionOpen
import Derived.WalkKit
import Derived.OwnWalkIn
import Derived.TacticsInMore
import Derived.LoopNIn
import Derived.LoopIn
import Derived.Maps.AppendAt
import Derived.Test.YtcajnbjonilljaaDoorP16i
namespace Go.Proofs.YtcajnbjonilljaaDoor
open Go.RowKit Go.Shelf
attribute [local go_sem] Oper.semAt_some

/-- the k-th piece of two of a slice of n numbers -/
def chunkV (b off n k : Nat) : Value := .slice (some ⟨b, off + 2 * k, none⟩) (min 2 (n - 2 * k)) (min 2 (n - 2 * k))

/-- a piece's number -/
abbrev Pc (len : Nat) : Type := {k : Nat // 2 * k < len}
/-- the first k pieces' numbers -/
def ups (len k : Nat) : List (Pc len) := (List.range k).filterMap fun j => if h : 2 * j < len then some ⟨j, h⟩ else none
theorem ups_succ (len k : Nat) (h : 2 * k < len) : ups len (k + 1) = ups len k ++ [⟨k, h⟩] := by
  unfold ups
  rw [List.range_succ, List.filterMap_append]
  simp [h]
theorem ups_length (len k : Nat) : (ups len k).length ≤ k := by
  unfold ups
  exact Nat.le_trans (List.length_filterMap_le _ _) (by simp)

/-- what a round keeps for the iterator: its two boxes -/
def KpC (B1 B2 : Nat) (W W' : World) : Prop := W'.heap[B1]? = W.heap[B1]? ∧ W'.heap[B2]? = W.heap[B2]?

set_option maxRecDepth 100000 in
set_option maxHeartbeats 2000000 in
theorem chunk1_in (m : Nat) (hm : 1 ≤ m) (l Bs Bn b off len cap : Nat) (hlen : len ≤ 1048576) (hcap : len ≤ cap) (J Jx : List (Pc len) → World → Prop)
    (hY : ∀ pre x W, J pre W → pre.length < (len + 1) / 2 → YieldAt Fence.wide (m - 1) Tryd.prog l #[chunkV b off len x.1] W fun e W' =>
      (e = .returned (.bool true) ∧ J (pre ++ [x]) W' ∧ KpC Bs Bn W W') ∨ (e = .returned (.bool false) ∧ Jx (pre ++ [x]) W'))
    (W : World) (hBs : W.cell? ⟨Bs, 0, none⟩ = some (.slice (some ⟨b, off, none⟩) len cap)) (hBn : W.cell? ⟨Bn, 0, none⟩ = some (.int .i64 2)) (hJd : ∀ p A, J p A → J p A.drew) (h0 : J [] W) :
    CallsIn Fence.wide m Tryd.prog 40 #[.func (.yield l) #[] #[], .pointer (some ⟨Bs, 0, none⟩), .pointer (some ⟨Bn, 0, none⟩)] W fun e W' => (∃ v, e = .returned v) ∧
      ((∃ ys, ys = ups len ((len + 1) / 2) ∧ J ys W') ∨ (∃ pre, True ∧ Jx pre W')) := by
  refine callsIn_of_wp Tryd.func40 rfl trivial ?_ rfl
  simp only [Tryd.ntmps40, List.size_toArray, List.length_cons, List.length_nil, Nat.reduceAdd, Nat.reduceSub, Array.replicate_succ, Array.replicate_zero, List.push_toArray, List.append_toArray, List.nil_append, List.cons_append]
  have hmix : Tryd.prog.follows .mixedOrders = true := by kernel_rfl
  gi_wp2
  gi_loopw [4] (fun i wr => ∃ k : Nat, i = .int .i64 ((2 * k : Nat) : Int) ∧ 2 * k ≤ len + 1 ∧ J (ups len k) wr ∧ wr.heap[Bs]? = W.heap[Bs]? ∧ wr.heap[Bn]? = W.heap[Bn]?) (fun i _ => len + 2 - (intOf i).toNat)
  case atStart => exact ⟨0, rfl, by omega, h0, rfl, rfl⟩
  case round =>
    obtain ⟨k, rfl, hk, hJs, q1, q2⟩ := hrel
    have c1 := (World.cell?_of_block (a := ⟨Bs, 0, none⟩) q1).trans hBs
    have c2 := (World.cell?_of_block (a := ⟨Bn, 0, none⟩) q2).trans hBn
    by_cases hlt : 2 * k < len
    · have hlt' : ((2 * k : Nat) : Int) < (len : Int) := by omega
      obtain ⟨fn, tmps, assign, body, hy, hR⟩ := hY _ ⟨k, hlt⟩ wr.drew (hJd _ _ hJs) (by have := ups_length len k; omega)
      dsimp only at hy
      unfold chunkV at hy
      have hcne : ¬ cap = 2 * k := by omega
      by_cases hq : 2 * k + 1 < len
      · have e1 : min 2 (len - 2 * k) = 2 := by omega
        have e2 : min (2 : Int) ((len - 2 * k : Nat) : Int) = 2 := by omega
        rw [e1] at hy
        have hl2 : (2 * (k : Int) + 2) ≤ (len : Int) := by omega
        gi_wp2
        gi_region_with_o (fail)
        all_goals gi_wp2
        all_goals (refine hR.mono ?_)
        all_goals (rintro e W3 (⟨rfl, hJ3, hk3⟩ | ⟨rfl, hJx3⟩))
        all_goals try (have c3 := (World.cell?_of_block (a := ⟨Bn, 0, none⟩) hk3.2).trans c2)
        all_goals gi_wp2
        all_goals first
          | (refine bodyPost_ret (results_none rfl _ _ _) rfl ?_
             exact ⟨⟨_, rfl⟩, .inr ⟨_, trivial, hJx3⟩⟩)
          | (go_roundw
             case rel => exact ⟨k + 1, by go_num, by omega, by rw [ups_succ len k hlt]; exact hJ3, hk3.1.trans q1, hk3.2.trans q2⟩
             case measure => simp [intOf]; omega)
      · have e1 : min 2 (len - 2 * k) = 1 := by omega
        have e2 : min (2 : Int) ((len - 2 * k : Nat) : Int) = 1 := by omega
        rw [e1] at hy
        have hl2 : (2 * (k : Int) + 1) ≤ (len : Int) := by omega
        gi_wp2
        gi_region_with_o (fail)
        all_goals gi_wp2
        all_goals (refine hR.mono ?_)
        all_goals (rintro e W3 (⟨rfl, hJ3, hk3⟩ | ⟨rfl, hJx3⟩))
        all_goals try (have c3 := (World.cell?_of_block (a := ⟨Bn, 0, none⟩) hk3.2).trans c2)
        all_goals gi_wp2
        all_goals first
          | (refine bodyPost_ret (results_none rfl _ _ _) rfl ?_
             exact ⟨⟨_, rfl⟩, .inr ⟨_, trivial, hJx3⟩⟩)
          | (go_roundw
             case rel => exact ⟨k + 1, by go_num, by omega, by rw [ups_succ len k hlt]; exact hJ3, hk3.1.trans q1, hk3.2.trans q2⟩
             case measure => simp [intOf]; omega)
    · have hlt' : ¬ ((2 * k : Nat) : Int) < (len : Int) := by omega
      have e : (len + 1) / 2 = k := by omega
      gi_wp2
      go_end0
      exact ⟨⟨_, rfl⟩, .inl hJs⟩

end Go.Proofs.YtcajnbjonilljaaDoor
