/-
  SampleOf: a draw's numbers in ascending order, by the reference and by the program.
  Conditions: those written at each theorem.
-/
import Derived.Test.YtnhcghlhicignaaP12p
import Derived.Test.YtnhcghlhicignaaLay12c
namespace Go.Proofs.Ytnhcghlhicignaa
open Go.RowKit Go.BigFrame
set_option maxRecDepth 100000

set_option maxHeartbeats 1000000 in
theorem l12Sorted_any (l : List Int) (A : Option Addr) (c : Nat) (hl : l.length ≤ 100000) (hnd : l.Nodup) (w : World) (hr : Rd w 1 A l.length (cellsI l)) :
    Calls Try.prog 55 #[.slice A l.length c] w fun e w' => ∃ v, e = .returned v ∧ SlI w.heap.size w' (sortF l) v ∧ Below w.heap.size w w' := by
  have HR := Lib.hid hr
  have HD := Lib.hid hnd
  have E0 := Lib.hid (own_empty (B := w.heap.size) w 3 1 (Nat.le_refl _))
  have B0 := Lib.hid (Below.alloc (Below.refl w.heap.size w) (Nat.le_refl _) (.cells #[] 3))
  clear hr hnd
  go_enter Try.func55, Try.ntmps55
  go_wp2
  go_loopw [3, 4] (fun v3 v4 wr => ∃ (k g c' : Nat), k ≤ l.length ∧ v4 = .int .i64 k ∧ v3 = .slice (some ⟨g, 0, none⟩) k c' ∧ wr.ownsRow w.heap.size 3 1 (.slice (some ⟨g, 0, none⟩) k c') k (cellsI (sortF (l.take k))) ∧ Below w.heap.size w wr) (fun _ v4 _ => l.length - (intOf v4).toNat)
  case atStart => exact ⟨0, w.heap.size, 0, Nat.zero_le _, rfl, rfl, E0.out, B0.out⟩
  case round =>
    obtain ⟨k, g, c', hk, rfl, rfl, hown, hb⟩ := hrel
    by_cases hlt : k < l.length
    · obtain ⟨gb, go, rfl, hgb, hcell⟩ := (HR.out.below hb).2 (by omega)
      have c0 := cellsI_at hcell hlt
      clear hcell
      have hlt' : ((k : Int) < (l.length : Int)) := by omega
      have hcap : k ≤ c' ∧ c' ≤ 9223372036854775807 := by
        rcases hown.2 with ⟨hv, _⟩ | ⟨g', cap, cur, hv, _, _, hn', hm', _⟩
        · cases hv
        · cases hv; exact ⟨hn', hm'⟩
      have hg := (hown.lt g rfl).2
      have hlen : (sortF (l.take k)).length = k := by rw [len_sortF, List.length_take]; omega
      have P := Lib.hid (l1Put_any (sortF (l.take k)) l[k] k g c' hlen (by omega) (sortF_not_mem HD.out hlt) hcap wr (Rd.of_own hown) hg)
      have HS := Lib.hid (sortF_take hlt)
      have HB := Lib.hid hb
      have hsz := hb.size
      clear hown hb hlen hcap
      go_wp2_with (go_at_call 76; refine P.out.mono ?_; rintro e w2 ⟨g2, c2, rfl, ho2, hb2⟩)
      have HO2 := Lib.hid (own_base ho2 hsz)
      have HB2 := Lib.hid (Below.transB HB.out (Nat.le_refl _) hb2)
      clear ho2 hb2
      go_roundw
      case rel => exact ⟨k + 1, g2, c2, by omega, by go_num, rfl, by rw [HS.out]; exact HO2.out, HB2.out⟩
      case measure => simp [intOf]; omega
    · obtain rfl : k = l.length := by omega
      have HO : Hid (wr.ownsRow w.heap.size 3 1 (.slice (some ⟨g, 0, none⟩) (sortF l).length c') (sortF l).length (cellsI (sortF l))) := by
        rw [List.take_length] at hown; rw [len_sortF]; exact hown
      have HB := Lib.hid hb
      have hls := len_sortF l
      have HL := Lib.hid hls
      clear hown hb hls
      go_wp2
      go_ret
      exact ⟨_, rfl, ⟨some ⟨g, 0, none⟩, c', by rw [HL.out]; rfl, HO.out⟩, HB.out⟩

/-- what SampleOf answers -/
def soOut (l : List Int) (n s : Int) : List Int := sortF (otOut l n s)
theorem len_soOut (l : List Int) (n s : Int) (hl : l.length ≤ 1048576) : (soOut l n s).length ≤ 1048576 := by
  unfold soOut; rw [len_sortF]; exact len_otOut l n s hl
theorem otOut_small (l : List Int) (n s : Int) : (otOut l n s).length ≤ 20 := by
  unfold otOut
  split
  · rename_i h
    obtain ⟨h1, h2, _⟩ := askB_true h
    have := inB_true h2
    have := popB_len h1
    have := len_takeF n.toNat l s
    omega
  · simp
theorem otOut_nodup (l : List Int) (n s : Int) : (otOut l n s).Nodup := by
  unfold otOut
  split
  · rename_i h
    exact takeF_nodup (rise_nodup (popB_rise (askB_true h).1)).1 _ _
  · exact List.Pairwise.nil

set_option maxHeartbeats 1000000 in
theorem implSampleOf_any (l : List Int) (n s : Int) (A : Option Addr) (c : Nat) (hA : A = none → c = 0) (w : World) (hr : Rd w 1 A l.length (cellsI l)) (hl : l.length ≤ 1048576) :
    Calls Try.prog 29 #[.slice A l.length c, .int .i64 n, .int .i64 s] w fun e w' => ∃ v, e = .returned (.tuple #[v, .bool (askB l n s)]) ∧ SlI w.heap.size w' (soOut l n s) v ∧ Below w.heap.size w w' := by
  have HO := Lib.hid (implOrderTaken_any l n s A c hA w hr hl)
  have hsm := otOut_small l n s
  have HL := Lib.hid (len_sortF (otOut l n s))
  have HE : Hid (soOut l n s = sortF (otOut l n s)) := rfl
  generalize otOut l n s = out at HO hsm HL HE
  clear hr hA
  go_enter Try.func29, Try.ntmps29
  go_wp2_with fail
  refine HO.out.mono ?_
  rintro e w1 ⟨_, rfl, ⟨A1, c1, rfl, ho1⟩, hb1⟩
  have HO1 := Lib.hid ho1
  have HB1 := Lib.hid hb1
  clear ho1 hb1 HO
  rcases A1 with _ | a1
  · have h0 : out = [] := by
      rcases HO1.out.2 with ⟨_, h0⟩ | ⟨g', cap, cur, hv, _⟩
      · exact List.eq_nil_of_length_eq_zero h0
      · cases hv
    subst h0
    go_wp2_with (go_at_call 56; refine (sortNil _ _ _).mono ?_; rintro e w' ⟨rfl, rfl⟩)
    go_ret2
    exact ⟨_, rfl, by rw [HE.out]; exact ⟨none, c1, rfl, HO1.out⟩, HB1.out⟩
  · obtain ⟨g, rfl⟩ : ∃ g, a1 = ⟨g, 0, none⟩ := by
      rcases HO1.out.2 with ⟨hv, _⟩ | ⟨g', cap, cur, hv, _⟩
      · cases hv
      · cases hv; exact ⟨g', rfl⟩
    go_wp2_with (go_at_call 56; refine (ownSort w.heap.size out g c1 _ HO1.out (by omega)).mono ?_; rintro e w2 ⟨rfl, ho2, hg2⟩)
    have HO2 := Lib.hid ho2
    have HB2 := Lib.hid (Below.row HB1.out HO1.out hg2 (Nat.le_refl _) HB1.out.size)
    clear ho2 hg2
    go_ret2
    exact ⟨_, rfl, by rw [HE.out]; exact ⟨some ⟨g, 0, none⟩, c1, by rw [HL.out]; rfl, by rw [HL.out]; exact HO2.out⟩, HB2.out⟩

set_option maxHeartbeats 1000000 in
theorem specSampleOf_any (l : List Int) (n s : Int) (A : Option Addr) (c : Nat) (hA : A = none → c = 0) (w : World) (hr : Rd w 1 A l.length (cellsI l)) (hl : l.length ≤ 1048576) :
    Calls Try.prog 28 #[.slice A l.length c, .int .i64 n, .int .i64 s] w fun e w' => ∃ v, e = .returned (.tuple #[v, .bool (askB l n s)]) ∧ SlI w.heap.size w' (soOut l n s) v ∧ Below w.heap.size w w' := by
  have HI := fun W h => Lib.hid (l12Asked_any l n s A c W h hl)
  have HR := Lib.hid hr
  clear hr
  by_cases h1 : askB l n s = true
  · have HN := Lib.hid (otOut_nodup l n s)
    have hsm := otOut_small l n s
    have e0 : Hid (otOut l n s = (takeF l n.toNat s).1) := if_pos h1
    obtain ⟨q1, q2, q3⟩ := askB_true h1
    have hl20 := popB_len q1
    have hn2 := inB_true q2
    obtain ⟨n', hn'⟩ : ∃ n' : Nat, n = (n' : Int) := ⟨n.toNat, by omega⟩
    subst hn'
    have HT := fun W h => Lib.hid (l12Take_any l n' s A c W h hA hl20 (by omega) (inB_true q3))
    have e3 : Hid (soOut l n' s = sortF (takeF l n' s).1) := by show _ = _; rw [soOut, e0.out]; simp
    rw [e0.out] at HN hsm
    simp only [Int.toNat_natCast] at HN hsm
    generalize takeF l n' s = tk at HN hsm HT e3
    obtain ⟨out, sd⟩ := tk
    clear e0
    go_enter Try.func28, Try.ntmps28
    go_wp2_with fail
    refine (HI _ HR.out).out.mono ?_
    rintro e w1 ⟨rfl, hb1⟩
    rw [h1]
    have HR1 := Lib.hid (HR.out.below hb1)
    have HB1 := Lib.hid hb1
    clear hb1
    go_wp2_with fail
    refine (HT _ HR1.out).out.mono ?_
    rintro e w2 ⟨_, rfl, ⟨A2, c2, rfl, ho2⟩, hb2⟩
    have HO2 := Lib.hid ho2
    have HB2 := Lib.hid (Below.trans' HB1.out hb2)
    clear ho2 hb2
    go_wp2_with fail
    refine (l12Sorted_any out A2 c2 (by have h9 : out.length ≤ 20 := hsm; omega) HN.out _ (Rd.of_own HO2.out)).mono ?_
    rintro e w3 ⟨v3, rfl, hs3, hb3⟩
    have HB3 := Lib.hid (Below.transB HB2.out (Nat.le_refl _) hb3)
    have HS3 : Hid (SlI w.heap.size w3 (sortF out) v3) := by
      obtain ⟨A3, c3, rfl, ho3⟩ := hs3
      exact ⟨A3, c3, rfl, own_base ho3 HB2.out.size⟩
    clear hs3 hb3
    go_wp2
    go_ret2
    exact ⟨_, by rw [h1]; rfl, by rw [e3.out]; exact HS3.out, HB3.out⟩
  · have e1 : Hid (askB l n s = false) := by show _ = _; simpa using h1
    have e3 : Hid (soOut l n s = []) := by show _ = _; rw [soOut, otOut, if_neg h1]; rfl
    go_enter Try.func28, Try.ntmps28
    go_wp2_with fail
    refine (HI _ HR.out).out.mono ?_
    rintro e w1 ⟨rfl, hb1⟩
    rw [e1.out]
    have HB1 := Lib.hid hb1
    have E1 := Lib.hid (own_empty (B := w.heap.size) w1 3 1 hb1.size)
    have HB2 := Lib.hid (Below.alloc hb1 hb1.size (.cells #[] 3))
    clear hb1
    go_wp2
    go_ret2
    exact ⟨_, by rw [e1.out]; rfl, by rw [e3.out]; exact ⟨_, _, rfl, E1.out⟩, HB2.out⟩

end Go.Proofs.Ytnhcghlhicignaa
