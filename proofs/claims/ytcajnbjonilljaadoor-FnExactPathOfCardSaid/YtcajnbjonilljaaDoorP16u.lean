/-
  The hashes of entries and the hashes after a round, by the reference; the hashes of entries by the program.
  Conditions: those written at each theorem.
-/
import Derived.Test.YtcajnbjonilljaaDoorP16t
import Derived.Test.YtcajnbjonilljaaDoorP16f
import Derived.Deep.RegionHeld3
namespace Go.Proofs.YtcajnbjonilljaaDoor
open Go.RowKit Go.BigFrame
set_option maxRecDepth 100000

theorem leafF_bd (s : ByteArray) : 0 ≤ leafF s ∧ leafF s ≤ 999999 := by
  have := sumF_bd (108 :: bytesOf s) 7 (by omega)
  unfold leafF; omega
theorem leaves_bd (l : List ByteArray) : ∀ x ∈ l.map leafF, 0 ≤ x ∧ x ≤ 999999 := by
  intro x hx
  obtain ⟨s, _, rfl⟩ := List.mem_map.1 hx
  exact leafF_bd s
theorem own_cap {w : World} {base : Nat} {e : TypeId} {sz g n c : Nat} {xs : List Value} (h : w.ownsRow base e sz (.slice (some ⟨g, 0, none⟩) n c) n xs) : n ≤ c := by
  rcases h.2 with ⟨hv, _⟩ | ⟨g', cap, cur, hv, _, _, hnc, _⟩
  · cases hv
  · cases hv; exact hnc

set_option maxHeartbeats 2000000 in
theorem l16Round_any (l : List Int) (g o c : Nat) (hl0 : 1 ≤ l.length) (hl : l.length ≤ 8) (hbd : ∀ x ∈ l, 0 ≤ x ∧ x ≤ 999999) (w : World) (hr : Rd w 1 (some ⟨g, o, none⟩) l.length (cellsI l)) :
    Calls Tryd.prog 23 #[.slice (some ⟨g, o, none⟩) l.length c] w fun e w' => ∃ v, e = .returned v ∧ SlI w.heap.size w' (roundF l) v ∧ Below w.heap.size w w' := by
  obtain ⟨i0, hi, hz0, hz1, hz2⟩ := info_parts infoI
  have e0 := own_empty (B := w.heap.size) w 3 1 (Nat.le_refl _)
  have E0 := Lib.hid e0
  have B0 := Lib.hid (Below.alloc (Below.refl w.heap.size w) (Nat.le_refl _) (.cells #[] 3))
  have HR := Lib.hid hr
  have HL := Lib.hid (round_pieces l)
  obtain ⟨_, _, he, hgw, _⟩ := hr.2 (by omega)
  cases he
  clear hr e0
  go_enter Tryd.func23, Tryd.ntmps23
  go_wp2_with fail
  go_loopw [3, 4] (fun v3 v4 wr => ∃ (k : Nat) (A' : Option Addr) (c' : Nat), v4 = .int .i64 ((2 * k : Nat) : Int) ∧ 2 * k ≤ l.length + 1 ∧ v3 = .slice A' k c' ∧ wr.ownsRow w.heap.size 3 1 (.slice A' k c') k (cellsI ((List.range k).map (pieceF l))) ∧ Below w.heap.size w wr) (fun _ v4 _ => l.length + 2 - (intOf v4).toNat)
  case atStart => exact ⟨0, _, _, rfl, by omega, rfl, E0.out, B0.out⟩
  case round =>
    clear E0 B0
    obtain ⟨k, A', c', rfl, hk, rfl, hown, hb⟩ := hrel
    by_cases hlt : 2 * k < l.length
    · have hlt' : ((2 * k : Nat) : Int) < (l.length : Int) := by omega
      obtain ⟨gb, go, he, hgb, hcell⟩ := (HR.out.below hb).2 (by omega)
      cases he
      have hci : ∀ j (hj : j < l.length), wr.cell? ⟨g, o + j, none⟩ = some (.int .i64 l[j]) := fun j hj => hcell j _ (by simp [cellsI, hj])
      have c0 := hci (2 * k) hlt
      have hsz := hb.size
      have hrange : (List.range (k + 1)).map (pieceF l) = (List.range k).map (pieceF l) ++ [pieceF l k] := by rw [List.range_succ, List.map_append]; rfl
      have HRg := Lib.hid hrange
      clear hcell hrange
      by_cases hq : 2 * k + 1 < l.length
      · have c1 : wr.cell? ⟨g, o + (2 * k + 1), none⟩ = some (.int .i64 l[2 * k + 1]) := hci (2 * k + 1) hq
        have hq' : ((2 * k : Nat) : Int) + 1 < (l.length : Int) := by omega
        have j0 : (0 : Int) ≤ 2 * (k : Int) := by omega
        have j1 : 2 * (k : Int) < (l.length : Int) := by omega
        have j2 : IntKind.i64.wrap (2 * (k : Int) + 1) = 2 * (k : Int) + 1 := IntWalk.i64_in _ (by omega)
        have j3 : (0 : Int) ≤ 2 * (k : Int) + 1 := by omega
        have j4 : 2 * (k : Int) + 1 < (l.length : Int) := by omega
        have j5 : (2 * (k : Int) + 1).toNat = 2 * k + 1 := by omega
        have j6 : (2 * (k : Int)).toNat = 2 * k := by omega
        have HPc := Lib.hid (pieceF_two l k hq)
        have HP := fun W => Lib.hid (l16Pair_any (l[2 * k]'(by omega)) l[2 * k + 1] (hbd _ (List.getElem_mem _)) (hbd _ (List.getElem_mem _)) W)
        have HO := Lib.hid hown
        have HB := Lib.hid hb
        clear hown hb hci
        generalize pairF l[2 * k] l[2 * k + 1] = X at *
        go_wp2_with fail
        go_region_held3 (fun w' => w'.cell? ⟨g, o + 2 * k, none⟩ = some (.int .i64 l[2 * k]) ∧ w'.cell? ⟨g, o + (2 * k + 1), none⟩ = some (.int .i64 l[2 * k + 1])) (go_keep)
          (first
            | (go_at_call 35
               refine (HP _).out.mono ?_
               rintro e w3 ⟨rfl, hb3⟩
               replace hb3 := below_ofDrew (a := wr) hb3
               have HO3 := Lib.hid (own_below HO.out hb3)
               have HB3 := Lib.hid (Below.transB HB.out (Nat.le_refl _) hb3)
               have hs3 : w.heap.size ≤ w3.heap.size := HB3.out.size
               replace c0 := (hb3.cell (p := ⟨g, o + 2 * k, none⟩) hgb).trans c0
               replace c1 := (hb3.cell (p := ⟨g, o + (2 * k + 1), none⟩) hgb).trans c1)
            | (refine step_appendMany' rfl _ _ 36 rfl w.heap.size 3 i0 (.int .i64 0) 1 8 Tryd.underlying36 hi hz0 hz1 hz2 rfl (by decide) (by decide) A' k c' _ rfl (HO3.out.alloc _) _ 1 _ [.int .i64 X] rfl (BX.rd1 (BX.new w3 #[.int .i64 X] 3)) (fun h => by cases h) (by simp [Value.oneCell']) (by omega) (by simp; omega) ?_
               intro A2 c2 w4 hown2 hg2 hpl2
               have hne2 := own_far HO3.out hgw
               have hb4 : g < w3.heap.size := Nat.lt_of_lt_of_le hgw hs3
               replace c0 := cell_push hg2 hb4 hne2 c0
               replace c1 := cell_push hg2 hb4 hne2 c1))
        have HB4 := Lib.hid (Below.row (Below.alloc HB3.out hs3 (.cells #[.int .i64 X] 3)) (HO3.out.alloc (.cells #[.int .i64 X] 3)) hg2 (Nat.le_refl _) (by simp; omega))
        have HO4 := Lib.hid hown2
        clear hg2 hpl2 hown2
        go_wp2
        go_roundw
        case rel => exact ⟨k + 1, A2, c2, by go_num, by omega, by simp, by rw [HRg.out, HPc.out]; simpa [cellsI] using HO4.out, HB4.out⟩
        case measure => simp [intOf]; omega
      · have hq' : ¬ ((2 * k : Nat) : Int) + 1 < (l.length : Int) := by omega
        have HPc := Lib.hid (pieceF_one l k hq hlt)
        have HO := Lib.hid hown
        have HB := Lib.hid hb
        clear hown hb hci
        go_wp2_with (at_builtin; refine wpList_pushG rfl _ _ 36 rfl w.heap.size 3 i0 (.int .i64 0) 1 8 Tryd.underlying36 hi hz0 hz1 hz2 rfl (by decide) (by decide) _ _ _ _ rfl HO.out #[.int .i64 l[2 * k]] _ _ rfl (by simp) rfl (by simp [Value.oneCell']) (by omega) hsz ?_; intro A5 c5 w5 hown5 hg5 hpl5)
        go_roundw
        case rel => exact ⟨k + 1, A5, c5, by go_num, by omega, by simp, by rw [HRg.out, HPc.out]; simpa [cellsI] using hown5, Below.row HB.out HO.out hg5 (Nat.le_refl _) hsz⟩
        case measure => simp [intOf]; omega
    · have hlt' : ¬ ((2 * k : Nat) : Int) < (l.length : Int) := by omega
      have ek : k = (l.length + 1) / 2 := by omega
      have HL2 : Hid (roundF l = (List.range k).map (pieceF l)) := by show _ = _; rw [HL.out, ← ek]
      have HO := Lib.hid hown
      have HB := Lib.hid hb
      clear hown hb ek
      go_wp2
      go_ret
      exact ⟨_, rfl, ⟨A', c', by rw [HL2.out]; simp, by rw [HL2.out]; simpa using HO.out⟩, HB.out⟩

end Go.Proofs.YtcajnbjonilljaaDoor
