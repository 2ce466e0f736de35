/-
  A draw's numbers in ascending order, by the reference.
  Conditions: those written at each theorem.
-/
import Derived.Test.YtfkpjfohkkilmaaP12p
namespace Go.Proofs.Ytfkpjfohkkilmaa
open Go.RowKit Go.BigFrame
set_option maxRecDepth 100000

set_option maxHeartbeats 1000000 in
theorem l12Sorted_any (l : List Int) (A : Option Addr) (c : Nat) (hl : l.length ≤ 100000) (hnd : l.Nodup) (w : World) (hr : Rd w 1 A l.length (cellsI l)) :
    Calls Try.prog 20 #[.slice A l.length c] w fun e w' => ∃ v, e = .returned v ∧ SlI w.heap.size w' (sortF l) v ∧ Below w.heap.size w w' := by
  have HR := Lib.hid hr
  have HD := Lib.hid hnd
  have E0 := Lib.hid (own_empty (B := w.heap.size) w 3 1 (Nat.le_refl _))
  have B0 := Lib.hid (Below.alloc (Below.refl w.heap.size w) (Nat.le_refl _) (.cells #[] 3))
  clear hr hnd
  go_enter Try.func20, Try.ntmps20
  go_wp2
  go_loopw [3, 4] (fun v3 v4 wr => ∃ (k g c' : Nat), k ≤ l.length ∧ v4 = .int .i64 k ∧ v3 = .slice (some ⟨g, 0, none⟩) k c' ∧ wr.ownsRow w.heap.size 3 1 (.slice (some ⟨g, 0, none⟩) k c') k (cellsI (sortF (l.take k))) ∧ Below w.heap.size w wr) (fun _ v4 _ => l.length - (intOf v4).toNat)
  case atStart => exact ⟨0, w.heap.size, 0, Nat.zero_le _, rfl, rfl, E0.out, B0.out⟩
  case round =>
    obtain ⟨k, g, c', hk, rfl, rfl, hown, hb⟩ := hrel
    by_cases hlt : k < l.length
    · obtain ⟨gb, go, rfl, hgb, hcell⟩ := (HR.out.below hb).2 (by omega)
      have c0 := cellsI_at hcell hlt
      clear hcell
      have hlt' : ((k : Int) < (l.length : Int)) := by omega
      have hcap : k ≤ c' ∧ c' ≤ 9223372036854775807 := by
        rcases hown.2 with ⟨hv, _⟩ | ⟨g', cap, cur, hv, _, _, hn', hm', _⟩
        · cases hv
        · cases hv; exact ⟨hn', hm'⟩
      have hg := (hown.lt g rfl).2
      have hlen : (sortF (l.take k)).length = k := by rw [len_sortF, List.length_take]; omega
      have P := Lib.hid (l1Put_any (sortF (l.take k)) l[k] k g c' hlen (by omega) (sortF_not_mem HD.out hlt) hcap wr (Rd.of_own hown) hg)
      have HS := Lib.hid (sortF_take hlt)
      have HB := Lib.hid hb
      have hsz := hb.size
      clear hown hb hlen hcap
      go_wp2_with (go_at_call 36; refine P.out.mono ?_; rintro e w2 ⟨g2, c2, rfl, ho2, hb2⟩)
      have HO2 := Lib.hid (own_base ho2 hsz)
      have HB2 := Lib.hid (Below.transB HB.out (Nat.le_refl _) hb2)
      clear ho2 hb2
      go_roundw
      case rel => exact ⟨k + 1, g2, c2, by omega, by go_num, rfl, by rw [HS.out]; exact HO2.out, HB2.out⟩
      case measure => simp [intOf]; omega
    · obtain rfl : k = l.length := by omega
      have HO : Hid (wr.ownsRow w.heap.size 3 1 (.slice (some ⟨g, 0, none⟩) (sortF l).length c') (sortF l).length (cellsI (sortF l))) := by
        rw [List.take_length] at hown; rw [len_sortF]; exact hown
      have HB := Lib.hid hb
      have hls := len_sortF l
      have HL := Lib.hid hls
      clear hown hb hls
      go_wp2
      go_ret
      exact ⟨_, rfl, ⟨some ⟨g, 0, none⟩, c', by rw [HL.out]; rfl, HO.out⟩, HB.out⟩

end Go.Proofs.Ytfkpjfohkkilmaa
