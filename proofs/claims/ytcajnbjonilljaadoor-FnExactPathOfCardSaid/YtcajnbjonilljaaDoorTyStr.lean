/-
  The walks of the law's own helpers on lists of strings: size, copy, compare.
  Conditions: those written at each theorem.
-/
import Derived.Test.YtcajnbjonilljaaDoorStr
import Derived.OwnWalk
namespace Go.Proofs.YtcajnbjonilljaaDoor
open Go.RowKit
set_option maxRecDepth 100000

def cellsS (l : List ByteArray) : List Value := l.map Value.string
theorem len_cellsS (l : List ByteArray) : (cellsS l).length = l.length := by simp [cellsS]
theorem cellsS_append (l m : List ByteArray) : cellsS (l ++ m) = cellsS l ++ cellsS m := by simp [cellsS]
theorem cellsS_at {w : World} {l : List ByteArray} {b o k : Nat} (hc : ∀ j u, (cellsS l)[j]? = some u → w.cell? ⟨b, o + j, none⟩ = some u) (h : k < l.length) :
    w.cell? ⟨b, o + k, none⟩ = some (.string l[k]) := hc k _ (by simp [cellsS, h])
theorem flat_cellsS (l : List ByteArray) : l.flatMap (fun y : ByteArray => [Value.string y]) = cellsS l := by
  unfold cellsS; induction l with
  | nil => rfl
  | cons a l ih => rw [List.flatMap_cons, ih]; rfl
theorem infoS : (Tryd.prog.info? 9).map (fun i => (i.zero, i.size, i.bytes)) = some (some (.string .empty), 1, 16) := by kernel_rfl

/-- the sizes of strings, summed -/
def sumS : List ByteArray → Int
  | [] => 0
  | x :: r => (x.size : Int) + sumS r
theorem sumS_nonneg (l : List ByteArray) : 0 ≤ sumS l := by
  induction l with
  | nil => exact Int.le_refl 0
  | cons x r ih => rw [sumS]; omega
theorem sumS_mem {l : List ByteArray} {x : ByteArray} (h : x ∈ l) : (x.size : Int) ≤ sumS l := by
  induction l with
  | nil => cases h
  | cons y r ih =>
    rw [sumS]
    have := sumS_nonneg r
    rcases List.mem_cons.1 h with rfl | h
    · omega
    · have := ih h; omega
/-- a list's size: the strings and their bytes -/
def szS (l : List ByteArray) : Int := (l.length : Int) + sumS l
theorem szS_len {l : List ByteArray} (h : szS l ≤ 1048576) : l.length ≤ 1048576 := by unfold szS at h; have := sumS_nonneg l; omega
theorem szS_mem {l : List ByteArray} {x : ByteArray} (h : szS l ≤ 1048576) (hx : x ∈ l) : x.size ≤ 1048576 := by unfold szS at h; have := sumS_mem hx; omega

set_option maxHeartbeats 400000 in
theorem szStringS_ok (l : List ByteArray) (left : Int) (A : Option Addr) (c : Nat) (w : World) (hl : left ≤ 1048576) (h : szS l ≤ left) (hr : Rd w 1 A l.length (cellsS l)) :
    Calls Tryd.prog 5 #[.slice A l.length c, .int .i64 left] w fun e w' => e = .returned (.int .i64 (left - szS l)) ∧ w = w' := by
  obtain ⟨hx, hrd⟩ := hr
  have HR := Lib.hid hrd
  clear hx hrd
  have hn := sumS_nonneg l
  have hsz : szS l = (l.length : Int) + sumS l := rfl
  have HZ := Lib.hid hsz
  have hll : (l.length : Int) ≤ left := by omega
  have hrest : sumS l ≤ left - l.length := by omega
  clear hsz h hn
  go_enter Tryd.func5, Tryd.ntmps5
  go_wp2
  go_loop [1, 5] (fun v i => ∃ (k : Nat) (x : Int), k ≤ l.length ∧ i = .int .i64 k ∧ v = .int .i64 x ∧ (0 ≤ x ∧ x ≤ 1048576) ∧ sumS (l.drop k) ≤ x ∧ Hid (left - szS l = x - sumS (l.drop k))) (fun _ i => l.length - (intOf i).toNat)
  case atStart => exact ⟨0, left - l.length, Nat.zero_le _, rfl, rfl, by omega, hrest, by show _ = _; rw [HZ.out, List.drop_zero]; omega⟩
  case round =>
    clear hrest
    obtain ⟨k, x, hk, rfl, rfl, hx, hs, K⟩ := hrel
    by_cases hlt : k < l.length
    · have hlt' : ((k : Int) < (l.length : Int)) := by omega
      obtain ⟨gb, go, rfl, hgb, hcell⟩ := HR.out (by omega)
      have c0 := cellsS_at hcell hlt
      clear hcell
      rw [List.drop_eq_getElem_cons hlt, sumS] at hs
      have hn := sumS_nonneg (l.drop (k + 1))
      have K2 : Hid (left - szS l = x - (l[k].size : Int) - sumS (l.drop (k + 1))) := by
        have := K.out
        rw [List.drop_eq_getElem_cons hlt, sumS] at this
        show _ = _; omega
      have hb1 : (l[k].size : Int) ≤ x := by omega
      have hb2 : sumS (l.drop (k + 1)) ≤ x - (l[k].size : Int) := by omega
      have HB := Lib.hid hb2
      clear K hs hb2 hn
      go_wp2
      go_round
      case rel => exact ⟨k + 1, x - (l[k].size : Int), by omega, by go_num, rfl, by omega, HB.out, K2⟩
      case measure => simp [intOf]; omega
    · have K2 : Hid (left - szS l = x) := by
        show _ = _; rw [K.out, List.drop_of_length_le (by omega), sumS]; omega
      clear K hs
      go_wp2
      go_ret
      exact ⟨by rw [K2.out]; rfl, rfl⟩

set_option maxHeartbeats 400000 in
theorem szStringS_no (l : List ByteArray) (left : Int) (A : Option Addr) (c : Nat) (w : World) (h0 : 0 ≤ left ∧ left ≤ 1048576) (hm : l.length ≤ 9223372036854775807) (hbd : ∀ y ∈ l, y.size ≤ 9223372036854775807) (h : left < szS l) (hr : Rd w 1 A l.length (cellsS l)) :
    Calls Tryd.prog 5 #[.slice A l.length c, .int .i64 left] w fun e w' => e = .returned (.int .i64 (-1)) ∧ w = w' := by
  obtain ⟨hx, hrd⟩ := hr
  have HR := Lib.hid hrd
  clear hx hrd
  have hsz : szS l = (l.length : Int) + sumS l := rfl
  have HZ := Lib.hid hsz
  have HD := Lib.hid hbd
  clear hbd
  by_cases hll : (l.length : Int) ≤ left
  · have hrest : left - l.length < sumS l := by omega
    clear hsz h
    go_enter Tryd.func5, Tryd.ntmps5
    go_wp2
    go_loop [1, 5] (fun v i => ∃ (k : Nat) (x : Int), k ≤ l.length ∧ i = .int .i64 k ∧ v = .int .i64 x ∧ (0 ≤ x ∧ x ≤ 1048576) ∧ x < sumS (l.drop k)) (fun _ i => l.length - (intOf i).toNat)
    case atStart => exact ⟨0, left - l.length, Nat.zero_le _, rfl, rfl, by omega, by rw [List.drop_zero]; exact hrest⟩
    case round =>
      clear hrest
      obtain ⟨k, x, hk, rfl, rfl, hx, hs⟩ := hrel
      by_cases hlt : k < l.length
      · have hlt' : ((k : Int) < (l.length : Int)) := by omega
        obtain ⟨gb, go, rfl, hgb, hcell⟩ := HR.out (by omega)
        have c0 := cellsS_at hcell hlt
        clear hcell
        have hdk := HD.out _ (List.getElem_mem hlt)
        rw [List.drop_eq_getElem_cons hlt, sumS] at hs
        by_cases hb1 : (l[k].size : Int) ≤ x
        · have hb2 : x - (l[k].size : Int) < sumS (l.drop (k + 1)) := by omega
          have HB := Lib.hid hb2
          clear hs hb2
          go_wp2
          go_round
          case rel => exact ⟨k + 1, x - (l[k].size : Int), by omega, by go_num, rfl, by omega, HB.out⟩
          case measure => simp [intOf]; omega
        · clear hs
          go_wp2
          go_ret
          exact ⟨rfl, rfl⟩
      · exfalso
        rw [List.drop_of_length_le (by omega), sumS] at hs
        omega
  · clear h hsz
    go_enter Tryd.func5, Tryd.ntmps5
    go_wp2
    go_ret
    exact ⟨rfl, rfl⟩

set_option maxHeartbeats 400000 in
theorem toStringS_any (l : List ByteArray) (A : Option Addr) (c : Nat) (w : World) (hr : Rd w 1 A l.length (cellsS l)) (hl : l.length ≤ 1048576) :
    Calls Tryd.prog 7 #[.slice A l.length c] w
      fun e w' => ∃ g, e = .returned (.slice (some ⟨g, 0, none⟩) l.length l.length) ∧ w'.ownsRow w.heap.size 9 1 (.slice (some ⟨g, 0, none⟩) l.length l.length) l.length (cellsS l) ∧ Below w.heap.size w w' := by
  obtain ⟨i0, hi, hz0, hz1, hz2⟩ := info_parts infoS
  obtain ⟨hx, hrd⟩ := hr
  have HRD := Lib.hid hrd
  clear hx hrd
  go_enter Tryd.func7, Tryd.ntmps7
  go_wp2_with (at_make; refine wpList_make_full _ rfl _ _ 22 rfl w.heap.size 9 i0 _ 1 Tryd.underlying22 hi hz0 hz1 .i64 .i64 _ _ l.length rfl rfl rfl rfl (by rw [hz2]; omega) (by unfold maxLen; omega) (by simp) ?_; intro w1 hown hgrow)
  have hb0 : Below w.heap.size w w1 := (Below.refl _ _).grown hgrow (Nat.le_refl _) (fun k h => by cases h)
  clear hgrow
  go_loopw [4] (fun i wr => ∃ k : Nat, k ≤ l.length ∧ i = .int .i64 k ∧ Below w.heap.size w wr ∧
      wr.ownsRow w.heap.size 9 1 (.slice (some ⟨w.heap.size, 0, none⟩) l.length l.length) l.length (cellsS (l.take k) ++ (madeCells (Value.string .empty).cells (l.length * 1)).toList.drop k)) (fun i _ => l.length - (intOf i).toNat)
  case atStart => exact ⟨0, Nat.zero_le _, rfl, hb0, hown⟩
  case round =>
    clear hown hb0
    obtain ⟨k, hk, rfl, hb, hown⟩ := hrel
    by_cases hlt : k < l.length
    · obtain ⟨gb, go, rfl, hgb, hcell⟩ := HRD.out (by omega)
      have h0 := cellsS_at hcell hlt
      have c0 : wr.cell? ⟨gb, go + k, none⟩ = some (.string l[k]) := (hb.cell (p := ⟨gb, go + k, none⟩) hgb).trans h0
      clear h0 hcell
      have hlt' : ((k : Int) < (l.length : Int)) := by omega
      obtain ⟨⟨z0, e0⟩, f0⟩ := own_has hown k (by omega)
      have HO := Lib.hid hown
      have HB := Lib.hid hb
      clear hown hb
      go_wp2
      go_roundw
      case rel =>
        refine ⟨k + 1, by omega, by go_num, (HB.out.setCell (Nat.le_refl _) _), ?_⟩
        have h := (HO.out.stored k (.string l[k])).1
        rw [fill1 (by rw [len_cellsS, List.length_take]; omega) (by rw [len_made]; omega)] at h
        rw [take_succ' l k hlt, cellsS_append, List.append_assoc]
        exact h
      case measure => simp [intOf]; omega
    · obtain rfl : k = l.length := by omega
      have H1 : Hid (wr.ownsRow w.heap.size 9 1 (.slice (some ⟨w.heap.size, 0, none⟩) l.length l.length) l.length (cellsS l)) := by
        rw [List.take_length, List.drop_of_length_le (by rw [len_made]; omega), List.append_nil] at hown
        exact hown
      clear hown
      go_wp2
      go_ret
      exact ⟨_, rfl, H1.out, hb⟩

set_option maxHeartbeats 400000 in
theorem eqStringS_same (l : List ByteArray) (A B : Option Addr) (c d : Nat) (w : World) (hr : Rd w 1 A l.length (cellsS l)) (hs : Rd w 1 B l.length (cellsS l)) (hl : l.length ≤ 1048576) :
    Calls Tryd.prog 9 #[.slice A l.length c, .slice B l.length d] w fun e w' => e = .returned (.bool true) ∧ Below w.heap.size w w' := by
  obtain ⟨hx, hrd⟩ := hr
  have HR := Lib.hid hrd
  clear hx hrd
  obtain ⟨hx, hrd⟩ := hs
  have HS := Lib.hid hrd
  clear hx hrd
  go_enter Tryd.func9, Tryd.ntmps9
  go_wp2
  go_loopw [5] (fun i wr => ∃ k : Nat, k ≤ l.length ∧ i = .int .i64 k ∧ Below w.heap.size w wr) (fun i _ => l.length - (intOf i).toNat)
  case atStart => exact ⟨0, Nat.zero_le _, rfl, Below.refl _ _⟩
  case round =>
    obtain ⟨k, hk, rfl, hb⟩ := hrel
    by_cases hlt : k < l.length
    · obtain ⟨gb, go, rfl, hgb, hcell⟩ := HR.out (by omega)
      have c0 : wr.cell? ⟨gb, go + k, none⟩ = some (.string l[k]) := (hb.cell (p := ⟨gb, go + k, none⟩) hgb).trans (cellsS_at hcell hlt)
      clear hcell
      obtain ⟨gc, gp, rfl, hgc, hcell⟩ := HS.out (by omega)
      have c1 : wr.cell? ⟨gc, gp + k, none⟩ = some (.string l[k]) := (hb.cell (p := ⟨gc, gp + k, none⟩) hgc).trans (cellsS_at hcell hlt)
      clear hcell
      have hlt' : ((k : Int) < (l.length : Int)) := by omega
      go_wp2
      go_quiet (fail)
      go_wp2
      go_roundw
      case rel => exact ⟨k + 1, by omega, by go_num, below_drewN hb _⟩
      case measure => simp [intOf]; omega
    · go_wp2
      go_ret
      exact ⟨rfl, hb⟩

section
variable {H : Type} {enc : TypeId × Value → H} {W : World} {base : Nat} {v : Value} {d : DataW H} {p : List MemPlace} {r : Reach}
open Go.ChangeShapes Go.WideShapes Go.ChangeAt Go.RowKit Go.Deep
/-- what came in as a list of strings -/
def InS (W : World) (v : Value) : Prop := ∃ (A : Option Addr) (k : Nat) (l : List ByteArray), v = .slice A l.length k ∧ Rd W 1 A l.length (cellsS l) ∧ (∀ y ∈ l, y.size ≤ 9223372036854775807) ∧ l.length ≤ 9223372036854775807
theorem in_strings (hv : Value.okWide Tryd.prog W r base 22 v) (h : DataW.Trod enc Tryd.prog W 0 (fun _ => true) true 22 v d p) : ∃ x, InS W x ∧ v = x := by
  obtain ⟨a, n, c, rfl⟩ := okWide_slice Tryd.underlying22 hv
  obtain ⟨fuel, hf⟩ := h
  obtain ⟨A, k, l, hv2, hr, hq, hm⟩ := slice_of (sz := 1) (c := fun y : ByteArray => [Value.string y]) (Q := fun y : ByteArray => y.size ≤ 9223372036854775807) Tryd.underlying22 (by kernel_rfl) (by omega) (fun _ => rfl) (fun _ _ _ h => by
    obtain ⟨a, e0, _, w0⟩ := DataW.trod_string Tryd.underlying9 h
    exact ⟨a, e0, by unfold maxLen at w0; omega⟩) hf
  refine ⟨_, ⟨A, k, l, hv2, ?_, hq, hm⟩, rfl⟩
  rwa [flat_cellsS] at hr
end
end Go.Proofs.YtcajnbjonilljaaDoor
