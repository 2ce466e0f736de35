/-
  The walks of the law's own helpers on lists of numbers: copy, compare, mark, look.
  Conditions: those written at each theorem.
-/
import Derived.Test.YtfkpjfohkkilmaaNums
import Derived.Test.YtfkpjfohkkilmaaOpen
import Derived.OwnWalk
namespace Go.Proofs.Ytfkpjfohkkilmaa
open Go.RowKit
set_option maxRecDepth 100000

def cellsI (l : List Int) : List Value := l.map (Value.int .i64)
theorem len_cellsI (l : List Int) : (cellsI l).length = l.length := by simp [cellsI]
theorem cellsI_append (l m : List Int) : cellsI (l ++ m) = cellsI l ++ cellsI m := by simp [cellsI]
theorem cellsI_at {w : World} {l : List Int} {b o k : Nat} (hc : ∀ j u, (cellsI l)[j]? = some u → w.cell? ⟨b, o + j, none⟩ = some u) (h : k < l.length) :
    w.cell? ⟨b, o + k, none⟩ = some (.int .i64 l[k]) := hc k _ (by simp [cellsI, h])

theorem flat_cellsI (l : List Int) : l.flatMap (fun y : Int => [Value.int .i64 y]) = cellsI l := by
  unfold cellsI; induction l with
  | nil => rfl
  | cons a l ih => rw [List.flatMap_cons, ih]; rfl

theorem infoI : (Try.prog.info? 3).map (fun i => (i.zero, i.size, i.bytes)) = some (some (.int .i64 0), 1, 8) := by kernel_rfl


set_option maxHeartbeats 400000 in
theorem eqIntS_same (l : List Int) (A B : Option Addr) (c d : Nat) (w : World) (hr : Rd w 1 A l.length (cellsI l)) (hs : Rd w 1 B l.length (cellsI l)) (hl : l.length ≤ 1048576) :
    Calls Try.prog 8 #[.slice A l.length c, .slice B l.length d] w fun e w' => e = .returned (.bool true) ∧ Below w.heap.size w w' := by
  obtain ⟨hx, hrd⟩ := hr
  have HR := Lib.hid hrd
  clear hx hrd
  obtain ⟨hx, hrd⟩ := hs
  have HS := Lib.hid hrd
  clear hx hrd
  go_enter Try.func8, Try.ntmps8
  go_wp2
  go_loopw [5] (fun i wr => ∃ k : Nat, k ≤ l.length ∧ i = .int .i64 k ∧ Below w.heap.size w wr) (fun i _ => l.length - (intOf i).toNat)
  case atStart => exact ⟨0, Nat.zero_le _, rfl, Below.refl _ _⟩
  case round =>
    obtain ⟨k, hk, rfl, hb⟩ := hrel
    by_cases hlt : k < l.length
    · obtain ⟨gb, go, rfl, hgb, hcell⟩ := HR.out (by omega)
      have c0 : wr.cell? ⟨gb, go + k, none⟩ = some (.int .i64 l[k]) := (hb.cell (p := ⟨gb, go + k, none⟩) hgb).trans (cellsI_at hcell hlt)
      clear hcell
      obtain ⟨gc, gp, rfl, hgc, hcell⟩ := HS.out (by omega)
      have c1 : wr.cell? ⟨gc, gp + k, none⟩ = some (.int .i64 l[k]) := (hb.cell (p := ⟨gc, gp + k, none⟩) hgc).trans (cellsI_at hcell hlt)
      clear hcell
      have hlt' : ((k : Int) < (l.length : Int)) := by omega
      go_wp2
      go_quiet (fail)
      go_wp2
      go_roundw
      case rel => exact ⟨k + 1, by omega, by go_num, below_drewN hb _⟩
      case measure => simp [intOf]; omega
    · go_wp2
      go_ret
      exact ⟨rfl, hb⟩

/-- n numbers that count on from k -/
def intsFrom (k : Int) (n : Nat) : List Int := (List.range n).map fun (i : Nat) => k + i
theorem length_intsFrom (k : Int) (n : Nat) : (intsFrom k n).length = n := by simp [intsFrom]
theorem intsFrom_succ (k : Int) (i : Nat) : intsFrom k (i + 1) = intsFrom k i ++ [k + i] := by simp [intsFrom, List.range_succ]
theorem intsFrom_get (k : Int) (n i : Nat) (h : i < (intsFrom k n).length) : (intsFrom k n)[i] = k + i := by simp [intsFrom]

set_option maxHeartbeats 400000 in
theorem markIntS_any (xs : List Value) (n : Nat) (k : Int) (A : Option Addr) (c base : Nat) (w : World) (ho : w.ownsRow base 3 1 (.slice A n c) n xs) (hn : n ≤ 9000000) (hk : 0 ≤ k ∧ k ≤ 9000000) :
    Calls Try.prog 11 #[.slice A n c, .int .i64 k] w
      fun e w' => e = .returned (.int .i64 (k + n)) ∧ w'.ownsRow base 3 1 (.slice A n c) n (cellsI (intsFrom k n)) ∧ w.grownBy w' (Value.slice A n c).ownBlock := by
  rcases Nat.eq_zero_or_pos n with rfl | hpos
  · have hx : xs = [] := List.eq_nil_of_length_eq_zero (by simpa using ho.1)
    subst hx
    have HO := Lib.hid ho
    clear ho
    go_enter Try.func11, Try.ntmps11
    go_wp2
    go_rounds 1
    go_ret
    exact ⟨by simp, HO.out, World.grownBy.refl _ _⟩
  · obtain ⟨g, hA⟩ : ∃ g, A = some ⟨g, 0, none⟩ := by
      rcases ho.2 with ⟨hv, h0⟩ | ⟨g, cap, cur, hv, _⟩
      · omega
      · injection hv with hA _ _; exact ⟨g, hA⟩
    subst hA
    go_enter Try.func11, Try.ntmps11
    go_wp2
    go_loopw [1, 5] (fun v1 v5 wr => ∃ i : Nat, i ≤ n ∧ v5 = .int .i64 i ∧ v1 = .int .i64 (k + i) ∧ w.grownBy wr (some g) ∧
      wr.ownsRow base 3 1 (.slice (some ⟨g, 0, none⟩) n c) n (cellsI (intsFrom k i) ++ xs.drop i)) (fun _ i _ => n - (intOf i).toNat)
    case atStart => exact ⟨0, Nat.zero_le _, rfl, by go_num, World.grownBy.refl _ _, ho⟩
    case round =>
      have hxl : xs.length = n * 1 := ho.1
      have HX := Lib.hid hxl
      clear ho hxl
      obtain ⟨i, hi, rfl, rfl, hgr, hown⟩ := hrel
      by_cases hlt : i < n
      · have hlt' : ((i : Int) < (n : Int)) := by omega
        obtain ⟨⟨z0, e0⟩, f0⟩ := own_has hown i (by omega)
        have HO := Lib.hid hown
        have HG := Lib.hid hgr
        clear hown hgr
        go_wp2
        go_roundw
        case rel =>
          refine ⟨i + 1, by omega, by go_num, by go_num, grown_set HG.out _ _, ?_⟩
          have h := (HO.out.stored i (.int .i64 (k + i))).1
          rw [fill1 (by rw [len_cellsI, length_intsFrom]) (by rw [HX.out]; omega)] at h
          rw [intsFrom_succ, cellsI_append, List.append_assoc]
          exact h
        case measure => simp [intOf]; omega
      · obtain rfl : i = n := by omega
        have H1 : Hid (wr.ownsRow base 3 1 (.slice (some ⟨g, 0, none⟩) i c) i (cellsI (intsFrom k i))) := by
          rw [List.drop_of_length_le (by rw [HX.out]; omega), List.append_nil] at hown
          exact hown
        have HG := Lib.hid hgr
        clear hown hgr
        go_wp2
        go_ret
        exact ⟨rfl, H1.out, HG.out⟩

set_option maxHeartbeats 400000 in
theorem heldIntS_any (n : Nat) (k : Int) (A : Option Addr) (c : Nat) (w : World) (hr : Rd w 1 A n (cellsI (intsFrom k n))) (hn : n ≤ 9000000) (hk : 0 ≤ k ∧ k ≤ 9000000) :
    Calls Try.prog 12 #[.slice A n c, .int .i64 k] w fun e w' => e = .returned (.int .i64 (k + n)) ∧ w = w' := by
  obtain ⟨hx, hrd⟩ := hr
  have HR := Lib.hid hrd
  clear hx hrd
  go_enter Try.func12, Try.ntmps12
  go_wp2
  go_loop [1, 5] (fun v1 v5 => ∃ i : Nat, i ≤ n ∧ v5 = .int .i64 i ∧ v1 = .int .i64 (k + i)) (fun _ i => n - (intOf i).toNat)
  case atStart => exact ⟨0, Nat.zero_le _, rfl, by go_num⟩
  case round =>
    obtain ⟨i, hi, rfl, rfl⟩ := hrel
    by_cases hlt : i < n
    · have hlt' : ((i : Int) < (n : Int)) := by omega
      obtain ⟨gb, go, rfl, hgb, hcell⟩ := HR.out (by omega)
      have h0 := cellsI_at hcell (by rw [length_intsFrom]; exact hlt)
      rw [intsFrom_get] at h0
      clear hcell
      go_wp2
      go_round
      case rel => exact ⟨i + 1, by omega, by go_num, by go_num⟩
      case measure => simp [intOf]; omega
    · obtain rfl : i = n := by omega
      go_wp2
      go_ret
      exact ⟨rfl, rfl⟩

section
variable {H : Type} {enc : TypeId × Value → H} {W : World} {base : Nat} {v : Value} {d : DataW H} {p : List MemPlace} {r : Reach}
open Go.ChangeShapes Go.WideShapes Go.ChangeAt Go.RowKit Go.Deep
/-- what came in as a list of numbers -/
def InI (W : World) (v : Value) : Prop := ∃ (A : Option Addr) (k : Nat) (l : List Int), v = .slice A l.length k ∧ Rd W 1 A l.length (cellsI l) ∧ (∀ y ∈ l, I64 y) ∧ l.length ≤ 9223372036854775807
theorem in_ints (hv : Value.okWide Try.prog W r base 24 v) (h : DataW.Trod enc Try.prog W 0 (fun _ => true) true 24 v d p) : ∃ x, InI W x ∧ v = x := by
  obtain ⟨a, n, c, rfl⟩ := okWide_slice Try.underlying24 hv
  obtain ⟨fuel, hf⟩ := h
  obtain ⟨A, k, l, hv2, hr, hq, hm⟩ := slice_of (sz := 1) (c := fun y : Int => [Value.int .i64 y]) (Q := fun y : Int => I64 y) Try.underlying24 (by kernel_rfl) (by omega) (fun _ => rfl) (fun _ _ _ h => by
    obtain ⟨a, e0, _, w0⟩ := DataW.trod_int Try.underlying3 h
    exact ⟨a, e0, I64.of_wf w0⟩) hf
  refine ⟨_, ⟨A, k, l, hv2, ?_, hq, hm⟩, rfl⟩
  rwa [flat_cellsI] at hr
end
end Go.Proofs.Ytfkpjfohkkilmaa
