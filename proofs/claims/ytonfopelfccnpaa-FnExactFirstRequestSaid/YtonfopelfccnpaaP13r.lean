/-
  The days on which requests are due, by the program.
  Conditions: those written at each theorem.
-/
import Derived.Test.YtonfopelfccnpaaP13q
namespace Go.Proofs.Ytonfopelfccnpaa
open Go.RowKit Go.BigFrame
set_option maxRecDepth 100000

def daysQ (L : List RQ) : List Int := L.map (fun x => dl x.r)
def ddOut (L : List RQ) : List Int := if goodQ L = true then daysQ L else []
theorem rdAns_ok {r : Req} (h : okQ r = true) : rdAns r = .tuple #[.int .i64 (dl r), .bool true] := by
  obtain ⟨h1, h2⟩ := okQ_true h
  rw [rdAns, if_pos h1]; exact dueAns_yes h2
theorem rdAns_no {r : Req} (h : okQ r = false) : rdAns r = .tuple #[.int .i64 0, .bool false] := by
  unfold rdAns
  split
  · rename_i h1
    have : ¬ (dl r ≤ 20000) := fun h2 => by rw [okQ, h1, decide_eq_true h2] at h; cases h
    exact dueAns_no (by unfold dl at this; omega)
  · rfl

set_option maxHeartbeats 4000000 in
theorem dueDays_any (L : List RQ) (A : Option Addr) (c : Nat) (w : World) (hr : RdQ w A L) (hl : L.length ≤ 1048576) (hs : ∀ x ∈ L, x.r.stops.length ≤ 9223372036854775807) :
    Calls Try.prog 20 #[.slice A L.length c] w fun e w' => ∃ v, e = .returned (.tuple #[v, .bool (goodQ L)]) ∧ SlI w.heap.size w' (ddOut L) v ∧ Below w.heap.size w w' := by
  obtain ⟨i0, hi, hz0, hz1, hz2⟩ := info_parts infoI
  have HR := Lib.hid hr
  have HS := Lib.hid hs
  have HG : Hid (goodQ L = (listB 0 L && decide ((L.length : Int) ≤ 8))) := rfl
  clear hr hs
  by_cases h8 : (L.length : Int) ≤ 8
  · have HG2 : Hid (goodQ L = listB 0 L) := by show _ = _; rw [HG.out, decide_eq_true h8]; simp
    have HN : Hid (goodQ L = false → ddOut L = []) := Lib.hid (fun h => if_neg (by rw [h]; simp))
    go_enter Try.func20, Try.ntmps20
    go_wp2_with fail
    go_loopw [4, 14] (fun v4 v14 wr => ∃ (k : Nat) (acc : List Int) (A' : Option Addr) (c' : Nat), k ≤ L.length ∧ acc.length ≤ k ∧ v14 = .int .i64 k ∧ v4 = .slice A' acc.length c' ∧ Below w.heap.size w wr ∧
      wr.ownsRow w.heap.size 3 1 (.slice A' acc.length c') acc.length (cellsI acc) ∧ Hid (listB 0 L = listB (lastId L k) (L.drop k)) ∧ Hid (daysQ L = acc ++ daysQ (L.drop k))) (fun _ v14 _ => L.length - (intOf v14).toNat)
    case atStart => exact ⟨0, [], none, 0, Nat.zero_le _, Nat.le_refl _, rfl, rfl, Below.refl _ _, World.ownsRow_nil _ _ _ _, by show _ = _; rfl, by show _ = _; rfl⟩
    case round =>
      obtain ⟨k, acc, A', c', hk, hak, rfl, rfl, hb, hown, K, M⟩ := hrel
      by_cases hlt : k < L.length
      · have hlt' : ((k : Int) < (L.length : Int)) := by omega
        have hk0 : (0 : Int) ≤ (k : Int) := by omega
        obtain ⟨gb, go, rfl, hgb, hcell⟩ := (HR.out.below hb).1.2 (by omega)
        obtain ⟨h0, h1, h2, h3, h4⟩ := cellsRQ_at hcell hlt
        have hrd := (HR.out.below hb).2 _ (List.getElem_mem hlt)
        have hn := HS.out _ (List.getElem_mem hlt)
        have K1 := Lib.hid (listB_step hlt K.out)
        have M1 : Hid (daysQ L = (acc ++ [dl L[k].r]) ++ daysQ (L.drop (k + 1))) := by
          show _ = _; rw [M.out, List.drop_eq_getElem_cons hlt, List.append_assoc]; rfl
        have hs0 := hb.size
        have bx := Box.new wr (reqCells L[k].r L[k].A L[k].c) 43
        have hba : Below wr.heap.size wr (wr.alloc (.cells (reqCells L[k].r L[k].A L[k].c) 43)) := (Below.refl _ _).alloc (Nat.le_refl _) _
        have HQ := Lib.hid (implRequestDue_any L[k].r L[k].A L[k].c _ (hrd.below hba) hn)
        have HB := Lib.hid (Below.transB hb (Nat.le_refl _) hba)
        have HO := Lib.hid (own_below hown hba)
        have BX0 := Lib.hid bx
        have HCC := Lib.hid hcell
        have hbw : Hid (Below wr.heap.size wr (wr.alloc (.cells (reqCells L[k].r L[k].A L[k].c) 43))) := Lib.hid hba
        clear K M hcell hrd hba bx hb hown
        unfold reqCells at *
        by_cases q1 : okQ L[k].r = true
        · have hans := rdAns_ok q1
          have hid := id_pos (okQ_true q1).1
          have K2 : Hid (listB 0 L = (decide (lastId L k < L[k].r.id) && listB (lastId L (k + 1)) (L.drop (k + 1)))) := by show _ = _; rw [K1.out, q1]; rfl
          rw [hans] at HQ
          generalize dl L[k].r = D at HQ M1
          clear K1 hans q1
          go_wp2_with fail
          refine HQ.out.mono ?_
          rintro e w2 ⟨rfl, hb2⟩
          have B2 := Lib.hid (Below.transB HB.out (Nat.le_refl _) hb2)
          have O2 := Lib.hid (own_below HO.out hb2)
          have X2 := BX0.out.below hb2
          have hgb2 : gb < w2.heap.size := by have := hb2.size; simp at this; omega
          have x0 := X2.G 0 _ rfl
          by_cases hz : k = 0
          · have z1 : decide ((0 : Int) < (k : Int)) = false := decide_eq_false (by omega)
            have z2 : decide (0 < k) = false := decide_eq_false (by omega)
            have z3 : ¬ ((0 : Int) < (k : Int)) := by omega
            have z4 : ¬ (0 < k) := by omega
            have hl0 : lastId L k = 0 := by rw [hz]; rfl
            have K3 : Hid (listB 0 L = listB (lastId L (k + 1)) (L.drop (k + 1))) := by show _ = _; rw [K2.out, hl0, decide_eq_true (by omega)]; rfl
            clear hz K2 hl0 hb2 h0 h1 h2 h3 h4
            go_wp2_with fail
            refine wp_region_grow (by kernel_rfl) (by kernel_rfl) ?_
            repeat (go_big_quiet_step (fail))
            refine wpQuiet_endG ?_
            intro w3 hb3
            have B3 := Lib.hid (Below.transB B2.out (Nat.le_refl _) hb3)
            have O3 := Lib.hid (own_below O2.out hb3)
            have hs3 := B3.out.size
            clear hb3 x0 X2
            go_wp2_with (at_builtin; refine wpList_pushG rfl _ _ 30 rfl w.heap.size 3 i0 (.int .i64 0) 1 8 Try.underlying30 hi hz0 hz1 hz2 rfl (by decide) (by decide) _ _ _ _ rfl O3.out #[.int .i64 D] _ _ rfl (by simp) rfl (by simp [Value.oneCell']) (by omega) hs3 ?_; intro A5 c5 w5 hown5 hg5 hpl5)
            have hf : w5.ownsRow w.heap.size 3 1 (.slice A5 (acc ++ [D]).length c5) (acc ++ [D]).length (cellsI (acc ++ [D])) := by
              rw [cellsI_append]; simpa [cellsI] using hown5
            go_roundw
            case rel => exact ⟨k + 1, acc ++ [D], A5, c5, by omega, by simp; omega, by go_num, by simp, Below.row B3.out O3.out hg5 (Nat.le_refl _) hs3, hf, K3, M1⟩
            case measure => simp [intOf]; omega
          · obtain ⟨jp, hjp'⟩ : ∃ jp, k = jp + 1 := ⟨k - 1, by omega⟩
            have hjp : (k : Int) - 1 = (jp : Int) := by omega
            have hjl : jp < L.length := by omega
            have y0 : (0 : Int) ≤ (jp : Int) := by omega
            have y1 : (jp : Int) < (L.length : Int) := by omega
            have hwj : IntKind.i64.wrap (jp : Int) = (jp : Int) := IntWalk.i64_in _ (by omega)
            have z1 : decide ((0 : Int) < (k : Int)) = true := decide_eq_true (by omega)
            have z2 : decide (0 < k) = true := decide_eq_true (by omega)
            have z3 : (0 : Int) < (k : Int) := by omega
            have z4 : 0 < k := by omega
            obtain ⟨j0, _, _, _, _⟩ := cellsRQ_at HCC.out hjl
            have r0 := cellG hgb2 (((hbw.out.cell (p := ⟨gb, go + jp * 5, none⟩) hgb).trans j0 |> fun e => (hb2.cell (p := ⟨gb, go + jp * 5, none⟩) (by simp; omega)).trans e))
            have hla : lastId L k = L[jp].r.id := by rw [hjp']; exact lastId_succ L jp hjl
            rw [hla] at K2
            clear j0 hz hjp' hla hb2 h0 h1 h2 h3 h4
            by_cases q3 : L[jp].r.id < L[k].r.id
            · have q3' : ¬ (L[k].r.id ≤ L[jp].r.id) := by omega
              have K3 : Hid (listB 0 L = listB (lastId L (k + 1)) (L.drop (k + 1))) := by show _ = _; rw [K2.out, decide_eq_true q3]; rfl
              clear K2
              go_wp2_with fail
              refine wp_region_grow (by kernel_rfl) (by kernel_rfl) ?_
              repeat (go_big_quiet_step (fail))
              refine wpQuiet_endG ?_
              intro w3 hb3
              have B3 := Lib.hid (Below.transB B2.out (Nat.le_refl _) hb3)
              have O3 := Lib.hid (own_below O2.out hb3)
              have hs3 := B3.out.size
              clear hb3 x0 X2 r0
              go_wp2_with (at_builtin; refine wpList_pushG rfl _ _ 30 rfl w.heap.size 3 i0 (.int .i64 0) 1 8 Try.underlying30 hi hz0 hz1 hz2 rfl (by decide) (by decide) _ _ _ _ rfl O3.out #[.int .i64 D] _ _ rfl (by simp) rfl (by simp [Value.oneCell']) (by omega) hs3 ?_; intro A5 c5 w5 hown5 hg5 hpl5)
              have hf : w5.ownsRow w.heap.size 3 1 (.slice A5 (acc ++ [D]).length c5) (acc ++ [D]).length (cellsI (acc ++ [D])) := by
                rw [cellsI_append]; simpa [cellsI] using hown5
              go_roundw
              case rel => exact ⟨k + 1, acc ++ [D], A5, c5, by omega, by simp; omega, by go_num, by simp, Below.row B3.out O3.out hg5 (Nat.le_refl _) hs3, hf, K3, M1⟩
              case measure => simp [intOf]; omega
            · have q3' : L[k].r.id ≤ L[jp].r.id := by omega
              have K3 : Hid (goodQ L = false) := by show _ = _; rw [HG2.out, K2.out, decide_eq_false q3]; rfl
              clear K2
              go_wp2_with fail
              refine wp_region_grow (by kernel_rfl) (by kernel_rfl) ?_
              repeat (go_big_quiet_step (fail))
              refine wpQuiet_endG ?_
              intro w3 hb3
              have B3 := Lib.hid (Below.transB B2.out (Nat.le_refl _) hb3)
              clear hb3 x0 X2 r0
              go_wp2
              go_ret2
              exact ⟨_, by rw [K3.out]; rfl, by rw [HN.out K3.out]; exact SlI.nil _ _, B3.out⟩
        · have q1' : okQ L[k].r = false := by simpa using q1
          have K3 : Hid (goodQ L = false) := by show _ = _; rw [HG2.out, K1.out, q1']; rfl
          rw [rdAns_no q1'] at HQ
          clear K1 q1 q1'
          go_wp2_with fail
          refine HQ.out.mono ?_
          rintro e w2 ⟨rfl, hb2⟩
          have B2 := Lib.hid (Below.transB HB.out (Nat.le_refl _) hb2)
          clear hb2 h0 h1 h2 h3 h4
          go_wp2_with fail
          refine wp_region_grow (by kernel_rfl) (by kernel_rfl) ?_
          repeat (go_big_quiet_step (fail))
          refine wpQuiet_endG ?_
          intro w3 hb3
          have B3 := Lib.hid (Below.transB B2.out (Nat.le_refl _) hb3)
          clear hb3
          go_wp2
          go_ret2
          exact ⟨_, by rw [K3.out]; rfl, by rw [HN.out K3.out]; exact SlI.nil _ _, B3.out⟩
      · have hge : ¬ ((k : Int) < (L.length : Int)) := by omega
        have K2 : Hid (goodQ L = true) := by show _ = _; rw [HG2.out, K.out, List.drop_of_length_le (by omega), listB]
        have M2 : Hid (ddOut L = acc) := by show _ = _; rw [ddOut, if_pos K2.out, M.out, List.drop_of_length_le (by omega)]; simp [daysQ]
        have HO := Lib.hid hown
        clear K M hown
        go_wp2
        go_ret2
        exact ⟨_, by rw [K2.out]; rfl, by rw [M2.out]; exact ⟨A', c', rfl, HO.out⟩, hb⟩
  · have K2 : Hid (goodQ L = false) := by show _ = _; rw [HG.out, decide_eq_false h8]; simp
    have h8' : (8 : Int) < (L.length : Int) := by omega
    go_enter Try.func20, Try.ntmps20
    go_wp2
    go_ret2
    exact ⟨_, by rw [K2.out]; rfl, by rw [ddOut, if_neg (by rw [K2.out]; simp)]; exact SlI.nil _ _, Below.refl _ _⟩

end Go.Proofs.Ytonfopelfccnpaa
