/-
  Whether some span has a byte of a part of a text, by the reference and by the program; small laws on the places of a word.
  Conditions: those written at each theorem.
-/
import Derived.Test.YtllnnkiehckegaaDoorP15y
import Derived.Test.YtllnnkiehckegaaDoorP15d
import Derived.Test.YtllnnkiehckegaaDoorShInt
namespace Go.Proofs.YtllnnkiehckegaaDoor
open Go.RowKit Go.BigFrame W15
set_option maxRecDepth 100000

/-- some span has a byte of a part -/
def tchB (l : List Span) (a b : Int) : Bool := l.any fun s => decide (s.lo < b) && decide (a < s.hi)

theorem placeP_mem (wd : List UInt8) : ∀ (l : List (List UInt8)) (k p : Nat), p ∈ placeP wd k l → k ≤ p ∧ p + wd.length + 1 ≤ k + totL l
  | [], k, p, h => by simp [placeP] at h
  | q :: r, k, p, h => by
    rw [placeP, List.mem_append] at h
    rw [totL]
    rcases h with h | h
    · split at h
      · rename_i e
        obtain rfl : p = k := by simpa using h
        subst e; omega
      · simp at h
    · have := placeP_mem wd r _ p h; omega
theorem placeP_inc (wd : List UInt8) : ∀ (l : List (List UInt8)) (k : Nat), (placeP wd k l).Pairwise (· < ·)
  | [], k => by simp [placeP]
  | q :: r, k => by
    rw [placeP]
    refine List.pairwise_append.2 ⟨by split <;> simp, placeP_inc wd r _, ?_⟩
    intro a ha b hb
    have h1 := placeP_mem wd r _ b hb
    split at ha
    · obtain rfl : a = k := by simpa using ha
      omega
    · simp at ha
theorem placesF_mem {t wd : ByteArray} {p : Int} (h : p ∈ placesF t wd) : 0 ≤ p ∧ p + (wd.size : Int) ≤ (t.size : Int) := by
  obtain ⟨k, hk, rfl⟩ := List.mem_map.1 h
  have := placeP_mem _ _ _ _ hk
  rw [tot_split, len_bytesOf, len_bytesOf] at this
  omega

set_option maxHeartbeats 1000000 in
theorem l15Touched_any (l : List Span) (a b : Int) (A : Option Addr) (c : Nat) (hl : l.length ≤ 1048576) (w : World) (hr : Rd w 3 A l.length (cellsSpan l)) :
    Calls Tryd.prog 38 #[.slice A l.length c, .int .i64 a, .int .i64 b] w fun e w' => e = .returned (.bool (tchB l a b)) ∧ w = w' := by
  have HR := Lib.hid hr
  clear hr
  go_enter Tryd.func38, Tryd.ntmps38
  go_wp2
  go_loop [7] (fun v => ∃ k : Nat, k ≤ l.length ∧ v = .int .i64 k ∧ Hid (tchB l a b = tchB (l.drop k) a b)) (fun v => l.length - (intOf v).toNat)
  case atStart => exact ⟨0, Nat.zero_le _, rfl, by show _ = _; rfl⟩
  case round =>
    obtain ⟨k, hk, rfl, K⟩ := hrel
    by_cases hlt : k < l.length
    · obtain ⟨gb, go, rfl, hgb, hcell⟩ := HR.out.2 (by omega)
      obtain ⟨h0, h1, _⟩ := cellsSpan_at hcell hlt
      clear hcell
      have hlt' : ((k : Int) < (l.length : Int)) := by omega
      have K1 : Hid (tchB l a b = ((decide (l[k].lo < b) && decide (a < l[k].hi)) || tchB (l.drop (k + 1)) a b)) := by
        show _ = _; rw [K.out, List.drop_eq_getElem_cons hlt]; rfl
      clear K
      by_cases q1 : l[k].lo < b
      · by_cases q2 : a < l[k].hi
        · have K2 : Hid (tchB l a b = true) := by show _ = _; rw [K1.out, decide_eq_true q1, decide_eq_true q2]; rfl
          clear K1
          go_wp2
          go_ret
          exact ⟨by rw [K2.out]; rfl, rfl⟩
        · have K2 : Hid (tchB l a b = tchB (l.drop (k + 1)) a b) := by show _ = _; rw [K1.out, decide_eq_false q2]; simp
          clear K1
          go_wp2
          go_round
          case rel => exact ⟨k + 1, by omega, by go_num, K2⟩
          case measure => simp [intOf]; omega
      · have K2 : Hid (tchB l a b = tchB (l.drop (k + 1)) a b) := by show _ = _; rw [K1.out, decide_eq_false q1]; simp
        clear K1
        go_wp2
        go_round
        case rel => exact ⟨k + 1, by omega, by go_num, K2⟩
        case measure => simp [intOf]; omega
    · have K2 : Hid (tchB l a b = false) := by show _ = _; rw [K.out, List.drop_of_length_le (by omega)]; rfl
      clear K
      go_wp2
      go_ret
      exact ⟨by rw [K2.out]; rfl, rfl⟩

theorem tch1_any (x : Span) (a b : Int) (ba bb : Nat) (w : World) (ha : w.cell? ⟨ba, 0, none⟩ = some (.int .i64 a)) (hb : w.cell? ⟨bb, 0, none⟩ = some (.int .i64 b)) :
    Calls Tryd.prog 53 (#[.agg #[.int .i64 x.lo, .int .i64 x.hi, .int .i64 x.reason]] ++ #[.pointer (some ⟨bb, 0, none⟩), .pointer (some ⟨ba, 0, none⟩)]) w fun e w' => e = .returned (.bool (decide (x.lo < b) && decide (a < x.hi))) ∧ Below w.heap.size w w' := by
  have lt : ∀ {q : Nat} {v : Value}, w.cell? ⟨q, 0, none⟩ = some v → q < w.heap.size := fun {q v} hc => by
    rcases Nat.lt_or_ge q w.heap.size with h | h
    · exact h
    · simp [World.cell?, Array.getElem?_eq_none h] at hc
  have hbx : Below w.heap.size w (w.alloc (.cells #[.int .i64 x.lo, .int .i64 x.hi, .int .i64 x.reason] 45)) := (Below.refl _ _).alloc (Nat.le_refl _) _
  have c1 := (hbx.cell (p := ⟨ba, 0, none⟩) (lt ha)).trans ha
  have c2 := (hbx.cell (p := ⟨bb, 0, none⟩) (lt hb)).trans hb
  have HB := Lib.hid hbx
  obtain ⟨b0, b1, b2⟩ := (Box.new w #[.int .i64 x.lo, .int .i64 x.hi, .int .i64 x.reason] 45).three
  clear ha hb hbx lt
  by_cases q1 : x.lo < b <;> by_cases q2 : a < x.hi
  all_goals
    go_enter Tryd.func53, Tryd.ntmps53
    go_wp2
    go_ret
    exact ⟨by simp [q1, q2], HB.out⟩

theorem isTouched_any (l : List Span) (a b : Int) (A : Option Addr) (c : Nat) (hl : l.length ≤ 1048576) (w : World) (hr : Rd w 3 A l.length (cellsSpan l)) :
    Calls Tryd.prog 41 #[.slice A l.length c, .int .i64 a, .int .i64 b] w fun e w' => e = .returned (.bool (tchB l a b)) ∧ Below w.heap.size w w' := by
  have hb0 : Below w.heap.size w ((w.alloc (.cells #[.int .i64 a] 3)).alloc (.cells #[.int .i64 b] 3)) := ((Below.refl _ w).alloc (Nat.le_refl _) _).alloc (by simp) _
  have x1 := (BXT.new w #[.int .i64 a] 3).alloc (.cells #[.int .i64 b] 3)
  have x2 := BXT.new (w.alloc (.cells #[.int .i64 a] 3)) #[.int .i64 b] 3
  rw [World.size_alloc] at x2
  have HC := Lib.hid (containsFuncSpan_any l A c 53 #[.pointer (some ⟨w.heap.size + 1, 0, none⟩), .pointer (some ⟨w.heap.size, 0, none⟩)] (fun s => decide (s.lo < b) && decide (a < s.hi)) _ (hr.below hb0) (by omega) (fun _ _ => enters_of Tryd.func53 (by kernel_rfl) rfl _ _)
    (Lib.hid (fun p w1 _ hw => tch1_any p a b w.heap.size (w.heap.size + 1) w1 ((x1.below hw).bx.cell 0 _ rfl) ((x2.below hw).bx.cell 0 _ rfl))))
  have HB := Lib.hid hb0
  clear hr hb0 x1 x2
  go_enter Tryd.func41, Tryd.ntmps41
  go_wp2_with fail
  refine HC.out.mono ?_
  rintro e w1 ⟨rfl, hb1⟩
  have B1 := Lib.hid (Below.transB HB.out (Nat.le_refl _) hb1)
  clear hb1
  go_wp2
  go_ret
  exact ⟨rfl, B1.out⟩

end Go.Proofs.YtllnnkiehckegaaDoor
