/-
  The walk of EveryNth by the reference.
  Conditions: those written at each theorem.
-/
import Derived.Test.YtnhcghlhicignaaP12c
namespace Go.Proofs.Ytnhcghlhicignaa
open Go.RowKit Go.BigFrame
set_option maxRecDepth 100000

/-- an empty slice of the call's own -/
theorem own_empty {B : Nat} (w : World) (e : TypeId) (sz : Nat) (hB : B ≤ w.heap.size) : (w.alloc (.cells #[] e)).ownsRow B e sz (.slice (some ⟨w.heap.size, 0, none⟩) 0 0) 0 [] :=
  World.ownsRow_lit w #[] 0 hB (Nat.zero_le _) (by simp)

set_option maxHeartbeats 400000 in
theorem specEveryNth_any (l : List Int) (k s : Int) (A : Option Addr) (c : Nat) (hl : l.length ≤ 1048576) (hk : I64 k) (w : World) (hr : Rd w 1 A l.length (cellsI l)) :
    Calls Try.prog 20 #[.slice A l.length c, .int .i64 k, .int .i64 s] w fun e w' => ∃ v, e = .returned (.tuple #[v, .bool (enOk l k s)]) ∧ SlI w.heap.size w' (enOut l k s) v ∧ Below w.heap.size w w' := by
  have HI := fun W h => Lib.hid (l12Good_any l A c (by omega) W h)
  have HR := Lib.hid hr
  clear hr
  obtain ⟨i0, hi, hz0, hz1, hz2⟩ := info_parts infoI
  have hown0 : (w.alloc (.cells #[] 3)).ownsRow w.heap.size 3 1 (.slice (some ⟨w.heap.size, 0, none⟩) 0 0) 0 [] := own_empty w _ _ (Nat.le_refl _)
  have HO0 := Lib.hid hown0
  have HB0 := Lib.hid (Below.alloc (Below.refl w.heap.size w) (Nat.le_refl _) (.cells #[] 3))
  clear hown0
  by_cases hok : enOk l k s = true
  · have e1 : Hid (enOk l k s = true) := hok
    have e2 : Hid (enOut l k s = everyF l k.toNat l.length s.toNat) := if_pos hok
    obtain ⟨h1, h2, h3⟩ := enOk_true hok
    clear hok
    have b2 := inB_true h2
    have b3 := inB_true h3
    obtain ⟨kn, rfl⟩ := Int.eq_ofNat_of_zero_le (show 0 ≤ k by omega)
    obtain ⟨sn, rfl⟩ := Int.eq_ofNat_of_zero_le (show 0 ≤ s by omega)
    simp only [Int.toNat_natCast] at e2
    have hln := popB_len h1
    go_enter Try.func20, Try.ntmps20
    go_wp2_with fail
    refine (HI _ (HR.out.below HB0.out)).out.mono ?_
    rintro e w1 ⟨rfl, hb1⟩
    have HB1 := Lib.hid (Below.transB HB0.out (by simp) hb1)
    have HO1 := Lib.hid (own_below HO0.out hb1)
    clear hb1
    go_wp2_with (
      (go_at_call 40; refine (l1In_any _ _ _ _).mono ?_; rintro e w' ⟨rfl, rfl⟩))
    go_loopw [8, 9] (fun v8 v9 wr => ∃ (i f : Nat) (acc : List Int) (A' : Option Addr) (c' : Nat), v9 = .int .i64 i ∧ v8 = .slice A' acc.length c' ∧ l.length ≤ i + f ∧ i ≤ 60 ∧ acc.length + f ≤ 20 ∧ wr.ownsRow w.heap.size 3 1 (.slice A' acc.length c') acc.length (cellsI acc) ∧ Below w.heap.size w wr ∧ Hid (everyF l kn l.length sn = acc ++ everyF l kn f i)) (fun _ v9 _ => 80 - (intOf v9).toNat)
    case atStart => exact ⟨sn, l.length, [], _, 0, rfl, rfl, by omega, by omega, by simp; omega, HO1.out, HB1.out, by show _ = _; rfl⟩
    case round =>
      obtain ⟨i, f, acc, A', c', rfl, rfl, hif, hi60, hac, hown, hb, K⟩ := hrel
      by_cases hlt : i < l.length
      · obtain ⟨gb, go, rfl, hgb, hcell⟩ := HR.out.2 (by omega)
        have c0 : wr.cell? ⟨gb, go + i, none⟩ = some (.int .i64 l[i]) := (hb.cell (p := ⟨gb, go + i, none⟩) hgb).trans (cellsI_at hcell hlt)
        have hlt' : ((i : Int) < (l.length : Int)) := by omega
        clear hcell
        obtain ⟨g, rfl⟩ : ∃ g, f = g + 1 := ⟨f - 1, by omega⟩
        have K2 : Hid (everyF l kn l.length sn = (acc ++ [l[i]]) ++ everyF l kn g (i + kn)) := by
          show _ = _; rw [K.out]; simp [everyF, hlt]
        have HB := Lib.hid hb
        have HO := Lib.hid hown
        have hsz := hb.size
        clear K hb hown
        go_wp2_with (at_builtin; refine wpList_push rfl _ _ 22 rfl w.heap.size 3 i0 (.int .i64 0) 1 8 Try.underlying22 hi hz0 hz1 hz2 rfl (by decide) (by decide) _ _ _ _ rfl HO.out #[.int .i64 l[i]] _ rfl rfl (by simp [Value.oneCell']) (by omega) hsz ?_; intro A2 c2 w2 hown2 hg2)
        go_roundw
        case rel => exact ⟨i + kn, g, acc ++ [l[i]], A2, c2, by go_num, by simp, by omega, by omega, by simp; omega, by simpa [cellsI] using hown2, Below.row HB.out HO.out hg2 (Nat.le_refl _) hsz, K2⟩
        case measure => simp [intOf]; omega
      · have K2 : Hid (everyF l kn l.length sn = acc) := by
          show _ = _; rw [K.out]
          cases f with
          | zero => simp [everyF]
          | succ f => simp [everyF, List.getElem?_eq_none (Nat.le_of_not_lt hlt)]
        have HB := Lib.hid hb
        have HO := Lib.hid hown
        clear K hb hown
        go_wp2
        go_ret2
        exact ⟨_, by rw [e1.out]; rfl, ⟨A', c', by rw [e2.out, K2.out]; rfl, by rw [e2.out, K2.out]; exact HO.out⟩, HB.out⟩
  · have e1 : Hid (enOk l k s = false) := by show _ = _; simpa using hok
    have e2 : Hid (enOut l k s = []) := if_neg hok
    have HK : Hid (¬ (popB l = true ∧ inB k 1 20 = true ∧ inB s 0 (k - 1) = true)) := fun h => hok (by simp [enOk, h])
    clear hok
    by_cases h2 : inB k 1 20 = true
    · have b2 := inB_true h2
      go_enter Try.func20, Try.ntmps20
      go_wp2_with fail
      refine (HI _ (HR.out.below HB0.out)).out.mono ?_
      rintro e w1 ⟨rfl, hb1⟩
      have HB1 := Lib.hid (Below.transB HB0.out (by simp) hb1)
      have HO1 := Lib.hid (own_below HO0.out hb1)
      clear hb1
      go_wp2_with (
        (go_at_call 40; refine (l1In_any _ _ _ _).mono ?_; rintro e w' ⟨rfl, rfl⟩))
      all_goals first
        | (go_ret2; exact ⟨_, by rw [e1.out]; rfl, by rw [e2.out]; exact ⟨_, _, rfl, HO1.out⟩, HB1.out⟩)
        | (exfalso; have := HK.out; clear HK e1 e2 HI HR HO0 HB0 HO1 HB1; simp_all; done)
    · go_enter Try.func20, Try.ntmps20
      go_wp2_with fail
      refine (HI _ (HR.out.below HB0.out)).out.mono ?_
      rintro e w1 ⟨rfl, hb1⟩
      have HB1 := Lib.hid (Below.transB HB0.out (by simp) hb1)
      have HO1 := Lib.hid (own_below HO0.out hb1)
      clear hb1
      go_wp2_with (
        (go_at_call 40; refine (l1In_any _ _ _ _).mono ?_; rintro e w' ⟨rfl, rfl⟩))
      all_goals first
        | (go_ret2; exact ⟨_, by rw [e1.out]; rfl, by rw [e2.out]; exact ⟨_, _, rfl, HO1.out⟩, HB1.out⟩)
        | (exfalso; have := HK.out; clear HK e1 e2 HI HR HO0 HB0 HO1 HB1; simp_all; done)

end Go.Proofs.Ytnhcghlhicignaa
