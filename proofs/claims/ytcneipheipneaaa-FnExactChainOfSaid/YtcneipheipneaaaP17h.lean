/-
  ChainOf by the program and by the reference. Written by mk17h.py.
  Conditions: those written at each theorem.
-/
import Derived.Test.YtcneipheipneaaaL17c
namespace Go.Proofs.Ytcneipheipneaaa
open Go.RowKit Go.BigFrame
set_option maxRecDepth 100000

set_option maxHeartbeats 1000000 in
theorem implChainOf_any (l : List Hand) (r : Int) (A : Option Addr) (c : Nat) (hl : l.length ≤ 1048576) (w : World) (hr : Rd w 6 A l.length (cellsHand l)) :
    Calls Try.prog 26 #[.slice A l.length c, .int .i64 r] w fun e w' => ∃ v, e = .returned (.tuple #[v, .bool (chOk l r)]) ∧ SlI w.heap.size w' (chOut l r) v ∧ Below w.heap.size w w' := by
  obtain ⟨i0, hi, hz0, hz1, hz2⟩ := info_parts infoI
  have HA := fun W h => Lib.hid (implIsCustody_any l A c (by omega) W h)
  have HR := Lib.hid hr
  have B0 := Lib.hid (Below.refl w.heap.size w)
  clear hr
  by_cases h1 : custB l = true
  · by_cases h2 : inB r 1 999 = true
    · have e1 : Hid (chOk l r = true) := by show _ = _; rw [chOk, h1, h2]; rfl
      have e2 : Hid (chOut l r = chainF r [] l) := if_pos e1.out
      have hl12 := custody_len h1
      go_enter Try.func26, Try.ntmps26
      go_wp2_with fail
      refine (HA _ (HR.out.below B0.out)).out.mono ?_
      rintro e w1 ⟨rfl, hb1⟩
      rw [h1]
      have B1 := Lib.hid (Below.transB B0.out (Nat.le_refl _) hb1)
      clear hb1
      go_wp2_with (go_at_call 31; refine (isRecordId_any _ _).mono ?_; rintro e w' ⟨rfl, rfl⟩; rw [h2])
      go_loopw [6, 19] (fun v6 v19 wr => ∃ (k : Nat) (acc : List Int) (A' : Option Addr) (c' : Nat), k ≤ l.length ∧ acc.length ≤ 2 * k ∧ v19 = .int .i64 k ∧ v6 = .slice A' acc.length c' ∧ wr.ownsRow w.heap.size 3 1 (.slice A' acc.length c') acc.length (cellsI acc) ∧ Below w.heap.size w wr ∧ Hid (chainF r [] l = chainF r acc (l.drop k))) (fun _ v19 _ => l.length - (intOf v19).toNat)
      case atStart => exact ⟨0, [], none, 0, Nat.zero_le _, Nat.zero_le _, rfl, rfl, World.ownsRow_nil _ _ _ _, B1.out, by show _ = _; rfl⟩
      case round =>
        obtain ⟨k, acc, A', c', hk, hak, rfl, rfl, hown, hb, M⟩ := hrel
        by_cases hlt : k < l.length
        · have hlt' : ((k : Int) < (l.length : Int)) := by omega
          obtain ⟨gb, go, rfl, hgb, hcell⟩ := (HR.out.below hb).2 (by omega)
          obtain ⟨h0, h1', h2', h3, h4, h5⟩ := cellsHand_at hcell hlt
          clear hcell
          have HO := Lib.hid (hown.alloc (.cells #[.int .i64 l[k].record, .int .i64 l[k].giver, .int .i64 l[k].taker, .int .i64 l[k].day, .int .i64 l[k].sum, .bool l[k].sealed] 25))
          have HB := Lib.hid (Below.alloc hb hb.size (.cells #[.int .i64 l[k].record, .int .i64 l[k].giver, .int .i64 l[k].taker, .int .i64 l[k].day, .int .i64 l[k].sum, .bool l[k].sealed] 25))
          have hs3 : w.heap.size ≤ (wr.alloc (.cells #[.int .i64 l[k].record, .int .i64 l[k].giver, .int .i64 l[k].taker, .int .i64 l[k].day, .int .i64 l[k].sum, .bool l[k].sealed] 25)).heap.size := HB.out.size
          have HY := Lib.hid (BXT.new wr #[.int .i64 l[k].record, .int .i64 l[k].giver, .int .i64 l[k].taker, .int .i64 l[k].day, .int .i64 l[k].sum, .bool l[k].sealed] 25)
          have M1 := M.out
          rw [List.drop_eq_getElem_cons hlt, chainF] at M1
          clear M hown hb
          by_cases hp : l[k].record = r
          · rw [if_pos hp] at M1
            have hpe : (l[k].record == r) = true := by simpa using hp
            have hpn : (l[k].record != r) = false := by simpa using hp
            by_cases ha : acc.length = 0
            · rw [if_pos ha] at M1
              obtain rfl : acc = [] := List.eq_nil_of_length_eq_zero ha
              have M2 := Lib.hid M1
              clear M1 hp ha
              go_wp2_with (first
                | (at_builtin; refine wpList_pushG rfl _ _ 44 rfl w.heap.size 3 i0 (.int .i64 0) 1 8 Try.underlying44 hi hz0 hz1 hz2 rfl (by decide) (by decide) _ _ _ _ rfl HO.out #[.int .i64 l[k].giver] _ _ rfl (by simp) rfl (by simp [Value.oneCell']) (by omega) hs3 ?_; intro A4 c4 w4 hown4 hg4 hpl4
                   have HB4 := Lib.hid (Below.row HB.out HO.out hg4 (Nat.le_refl _) hs3)
                   have hs4 := HB4.out.size
                   have HO4 := Lib.hid hown4
                   have HY4 := HY.out.grown hg4 (HY.out.not_own (by decide) HO.out)
                   obtain ⟨y0, y1, y2, y3, y4, y5⟩ := HY4.six
                   clear HY4
                   clear hown4 hg4 h0 h1' h2' h3 h4 h5 HY HO HB)
                | (at_builtin; refine wpList_pushG rfl _ _ 44 rfl w.heap.size 3 i0 (.int .i64 0) 1 8 Try.underlying44 hi hz0 hz1 hz2 rfl (by decide) (by decide) _ _ _ _ rfl HO4.out #[.int .i64 l[k].taker] _ _ rfl (by simp) rfl (by simp [Value.oneCell']) (by omega) hs4 ?_; intro A5 c5 w5 hown5 hg5 hpl5))
              go_roundw
              case rel => exact ⟨k + 1, [] ++ [l[k].giver] ++ [l[k].taker], A5, c5, by omega, by simp; omega, by go_num, by simp, by simpa [cellsI] using hown5, Below.row HB4.out HO4.out hg5 (Nat.le_refl _) hs4, M2⟩
              case measure => simp [intOf]; omega
            · rw [if_neg ha] at M1
              have M2 := Lib.hid M1
              have hnn : acc ≠ [] := fun h => ha (by rw [h]; rfl)
              have hae : ((acc.length : Int) == 0) = false := by simp; intro h; exact ha (by rw [h]; rfl)
              clear M1 hp ha
              go_wp2_with (at_builtin; refine wpList_pushG rfl _ _ 44 rfl w.heap.size 3 i0 (.int .i64 0) 1 8 Try.underlying44 hi hz0 hz1 hz2 rfl (by decide) (by decide) _ _ _ _ rfl HO.out #[.int .i64 l[k].taker] _ _ rfl (by simp) rfl (by simp [Value.oneCell']) (by omega) hs3 ?_; intro A4 c4 w4 hown4 hg4 hpl4)
              go_roundw
              case rel => exact ⟨k + 1, acc ++ [l[k].taker], A4, c4, by omega, by simp; omega, by go_num, by simp, by simpa [cellsI] using hown4, Below.row HB.out HO.out hg4 (Nat.le_refl _) hs3, M2⟩
              case measure => simp [intOf]; omega
          · rw [if_neg hp] at M1
            have M2 := Lib.hid M1
            have hpe : (l[k].record == r) = false := by simpa using hp
            have hpn : (l[k].record != r) = true := by simpa using hp
            clear M1 hp
            go_wp2
            go_roundw
            case rel => exact ⟨k + 1, acc, A', c', by omega, by omega, by go_num, rfl, HO.out, HB.out, M2⟩
            case measure => simp [intOf]; omega
        · have M2 : Hid (chOut l r = acc) := by
            show _ = _; rw [e2.out, M.out, List.drop_of_length_le (by omega), chainF]
          have HB := Lib.hid hb
          have HO := Lib.hid hown
          clear M hb hown
          go_wp2
          go_ret2
          exact ⟨_, by rw [e1.out]; rfl, ⟨A', c', by rw [M2.out]; rfl, by rw [M2.out]; exact HO.out⟩, HB.out⟩
    · have e1 : Hid (chOk l r = false) := by show _ = _; rw [chOk, h1]; simpa using h2
      go_enter Try.func26, Try.ntmps26
      go_wp2_with fail
      refine (HA _ (HR.out.below B0.out)).out.mono ?_
      rintro e w1 ⟨rfl, hb1⟩
      rw [h1]
      have B1 := Lib.hid (Below.transB B0.out (Nat.le_refl _) hb1)
      clear hb1
      go_wp2_with (go_at_call 31; refine (isRecordId_any _ _).mono ?_; rintro e w' ⟨rfl, rfl⟩; rw [show inB r 1 999 = false by simpa using h2])
      go_ret2
      exact ⟨_, by rw [e1.out]; rfl, by rw [chOut, if_neg (by rw [e1.out]; simp)]; exact SlI.nil _ _, B1.out⟩
  · have e1 : Hid (chOk l r = false) := by show _ = _; rw [chOk, show custB l = false by simpa using h1]; rfl
    go_enter Try.func26, Try.ntmps26
    go_wp2_with fail
    refine (HA _ (HR.out.below B0.out)).out.mono ?_
    rintro e w1 ⟨rfl, hb1⟩
    rw [show custB l = false by simpa using h1]
    have B1 := Lib.hid (Below.transB B0.out (Nat.le_refl _) hb1)
    clear hb1
    go_wp2
    go_ret2
    exact ⟨_, by rw [e1.out]; rfl, by rw [chOut, if_neg (by rw [e1.out]; simp)]; exact SlI.nil _ _, B1.out⟩

set_option maxHeartbeats 1000000 in
theorem specChainOf_any (l : List Hand) (r : Int) (A : Option Addr) (c : Nat) (hl : l.length ≤ 1048576) (w : World) (hr : Rd w 6 A l.length (cellsHand l)) :
    Calls Try.prog 25 #[.slice A l.length c, .int .i64 r] w fun e w' => ∃ v, e = .returned (.tuple #[v, .bool (chOk l r)]) ∧ SlI w.heap.size w' (chOut l r) v ∧ Below w.heap.size w w' := by
  obtain ⟨i0, hi, hz0, hz1, hz2⟩ := info_parts infoI
  have HA := fun W h => Lib.hid (l17Good_any l A c (by omega) W h)
  have HR := Lib.hid hr
  have E0 := Lib.hid (own_empty (B := w.heap.size) w 3 1 (Nat.le_refl _))
  have B0 := Lib.hid (Below.alloc (Below.refl w.heap.size w) (Nat.le_refl _) (.cells #[] 3))
  clear hr
  by_cases h1 : custB l = true
  · by_cases h2 : inB r 1 999 = true
    · have e1 : Hid (chOk l r = true) := by show _ = _; rw [chOk, h1, h2]; rfl
      have e2 : Hid (chOut l r = chainF r [] l) := if_pos e1.out
      have hl12 := custody_len h1
      go_enter Try.func25, Try.ntmps25
      go_wp2_with fail
      refine (HA _ (HR.out.below B0.out)).out.mono ?_
      rintro e w1 ⟨rfl, hb1⟩
      rw [h1]
      have B1 := Lib.hid (Below.transB B0.out (Nat.le_refl _) hb1)
      have E1 := Lib.hid (own_below E0.out hb1)
      clear hb1
      go_wp2_with (go_at_call 38; refine (l17Record_any _ _).mono ?_; rintro e w' ⟨rfl, rfl⟩; rw [h2])
      go_loopw [6, 7] (fun v6 v7 wr => ∃ (k : Nat) (acc : List Int) (A' : Option Addr) (c' : Nat), k ≤ l.length ∧ acc.length ≤ 2 * k ∧ v7 = .int .i64 k ∧ v6 = .slice A' acc.length c' ∧ wr.ownsRow w.heap.size 3 1 (.slice A' acc.length c') acc.length (cellsI acc) ∧ Below w.heap.size w wr ∧ Hid (chainF r [] l = chainF r acc (l.drop k))) (fun _ v7 _ => l.length - (intOf v7).toNat)
      case atStart => exact ⟨0, [], some ⟨w.heap.size, 0, none⟩, 0, Nat.zero_le _, Nat.zero_le _, rfl, rfl, E1.out, B1.out, by show _ = _; rfl⟩
      case round =>
        obtain ⟨k, acc, A', c', hk, hak, rfl, rfl, hown, hb, M⟩ := hrel
        by_cases hlt : k < l.length
        · have hlt' : ((k : Int) < (l.length : Int)) := by omega
          obtain ⟨gb, go, rfl, hgb, hcell⟩ := (HR.out.below hb).2 (by omega)
          obtain ⟨h0, h1', h2', h3, h4, h5⟩ := cellsHand_at hcell hlt
          clear hcell
          have HO := Lib.hid hown
          have HB := Lib.hid hb
          have hs3 := hb.size
          have HY := Lib.hid (HR.out.below hb)
          have M1 := M.out
          rw [List.drop_eq_getElem_cons hlt, chainF] at M1
          clear M hown hb
          by_cases hp : l[k].record = r
          · rw [if_pos hp] at M1
            have hpe : (l[k].record == r) = true := by simpa using hp
            have hpn : (l[k].record != r) = false := by simpa using hp
            by_cases ha : acc.length = 0
            · rw [if_pos ha] at M1
              obtain rfl : acc = [] := List.eq_nil_of_length_eq_zero ha
              have M2 := Lib.hid M1
              clear M1 hp ha
              go_wp2_with (first
                | (at_builtin; refine wpList_pushG rfl _ _ 44 rfl w.heap.size 3 i0 (.int .i64 0) 1 8 Try.underlying44 hi hz0 hz1 hz2 rfl (by decide) (by decide) _ _ _ _ rfl HO.out #[.int .i64 l[k].giver] _ _ rfl (by simp) rfl (by simp [Value.oneCell']) (by omega) hs3 ?_; intro A4 c4 w4 hown4 hg4 hpl4
                   have HB4 := Lib.hid (Below.row HB.out HO.out hg4 (Nat.le_refl _) hs3)
                   have hs4 := HB4.out.size
                   have HO4 := Lib.hid hown4
                   have HY4 := HR.out.below HB4.out
                   obtain ⟨gb', go', he, _, hcell⟩ := HY4.2 (by omega)
                   cases he
                   obtain ⟨y0, y1, y2, y3, y4, y5⟩ := cellsHand_at hcell hlt
                   clear HY4 hcell
                   clear hown4 hg4 h0 h1' h2' h3 h4 h5 HY HO HB)
                | (at_builtin; refine wpList_pushG rfl _ _ 44 rfl w.heap.size 3 i0 (.int .i64 0) 1 8 Try.underlying44 hi hz0 hz1 hz2 rfl (by decide) (by decide) _ _ _ _ rfl HO4.out #[.int .i64 l[k].taker] _ _ rfl (by simp) rfl (by simp [Value.oneCell']) (by omega) hs4 ?_; intro A5 c5 w5 hown5 hg5 hpl5))
              go_roundw
              case rel => exact ⟨k + 1, [] ++ [l[k].giver] ++ [l[k].taker], A5, c5, by omega, by simp; omega, by go_num, by simp, by simpa [cellsI] using hown5, Below.row HB4.out HO4.out hg5 (Nat.le_refl _) hs4, M2⟩
              case measure => simp [intOf]; omega
            · rw [if_neg ha] at M1
              have M2 := Lib.hid M1
              have hnn : acc ≠ [] := fun h => ha (by rw [h]; rfl)
              have hae : ((acc.length : Int) == 0) = false := by simp; intro h; exact ha (by rw [h]; rfl)
              clear M1 hp ha
              go_wp2_with (at_builtin; refine wpList_pushG rfl _ _ 44 rfl w.heap.size 3 i0 (.int .i64 0) 1 8 Try.underlying44 hi hz0 hz1 hz2 rfl (by decide) (by decide) _ _ _ _ rfl HO.out #[.int .i64 l[k].taker] _ _ rfl (by simp) rfl (by simp [Value.oneCell']) (by omega) hs3 ?_; intro A4 c4 w4 hown4 hg4 hpl4)
              go_roundw
              case rel => exact ⟨k + 1, acc ++ [l[k].taker], A4, c4, by omega, by simp; omega, by go_num, by simp, by simpa [cellsI] using hown4, Below.row HB.out HO.out hg4 (Nat.le_refl _) hs3, M2⟩
              case measure => simp [intOf]; omega
          · rw [if_neg hp] at M1
            have M2 := Lib.hid M1
            have hpe : (l[k].record == r) = false := by simpa using hp
            have hpn : (l[k].record != r) = true := by simpa using hp
            clear M1 hp
            go_wp2
            go_roundw
            case rel => exact ⟨k + 1, acc, A', c', by omega, by omega, by go_num, rfl, HO.out, HB.out, M2⟩
            case measure => simp [intOf]; omega
        · have M2 : Hid (chOut l r = acc) := by
            show _ = _; rw [e2.out, M.out, List.drop_of_length_le (by omega), chainF]
          have HB := Lib.hid hb
          have HO := Lib.hid hown
          clear M hb hown
          go_wp2
          go_ret2
          exact ⟨_, by rw [e1.out]; rfl, ⟨A', c', by rw [M2.out]; rfl, by rw [M2.out]; exact HO.out⟩, HB.out⟩
    · have e1 : Hid (chOk l r = false) := by show _ = _; rw [chOk, h1]; simpa using h2
      go_enter Try.func25, Try.ntmps25
      go_wp2_with fail
      refine (HA _ (HR.out.below B0.out)).out.mono ?_
      rintro e w1 ⟨rfl, hb1⟩
      rw [h1]
      have B1 := Lib.hid (Below.transB B0.out (Nat.le_refl _) hb1)
      have E1 := Lib.hid (own_below E0.out hb1)
      clear hb1
      go_wp2_with (go_at_call 38; refine (l17Record_any _ _).mono ?_; rintro e w' ⟨rfl, rfl⟩; rw [show inB r 1 999 = false by simpa using h2])
      go_ret2
      exact ⟨_, by rw [e1.out]; rfl, by rw [chOut, if_neg (by rw [e1.out]; simp)]; exact ⟨_, _, rfl, E1.out⟩, B1.out⟩
  · have e1 : Hid (chOk l r = false) := by show _ = _; rw [chOk, show custB l = false by simpa using h1]; rfl
    go_enter Try.func25, Try.ntmps25
    go_wp2_with fail
    refine (HA _ (HR.out.below B0.out)).out.mono ?_
    rintro e w1 ⟨rfl, hb1⟩
    rw [show custB l = false by simpa using h1]
    have B1 := Lib.hid (Below.transB B0.out (Nat.le_refl _) hb1)
    have E1 := Lib.hid (own_below E0.out hb1)
    clear hb1
    go_wp2
    go_ret2
    exact ⟨_, by rw [e1.out]; rfl, by rw [chOut, if_neg (by rw [e1.out]; simp)]; exact ⟨_, _, rfl, E1.out⟩, B1.out⟩

end Go.Proofs.Ytcneipheipneaaa
