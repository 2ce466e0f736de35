/-
  NotSampled by the reference.
  Conditions: those written at each theorem.
-/
import Derived.Test.YtnhcghlhicignaaP12j
namespace Go.Proofs.Ytnhcghlhicignaa
open Go.RowKit Go.BigFrame
set_option maxRecDepth 100000

theorem nsOk_true {l s : List Int} (h : nsOk l s = true) : popB l = true ∧ popB s = true ∧ (s.all fun x => hasI l x) = true := by
  simp only [nsOk, Bool.and_eq_true] at h; exact ⟨h.1.1, h.1.2, h.2⟩
theorem ns_len (l s : List Int) (hl : l.length ≤ 1048576) : (nsOut l s).length ≤ 1048576 := by
  unfold nsOut; split
  · exact Nat.le_trans (List.length_filter_le _ _) hl
  · simp

set_option maxHeartbeats 1000000 in
theorem specNotSampled_any (l s : List Int) (A B : Option Addr) (c d : Nat) (hl : l.length ≤ 1048576) (hs : s.length ≤ 1048576) (w : World) (hr : Rd w 1 A l.length (cellsI l)) (hq : Rd w 1 B s.length (cellsI s)) :
    Calls Try.prog 26 #[.slice A l.length c, .slice B s.length d] w fun e w' => ∃ v, e = .returned (.tuple #[v, .bool (nsOk l s)]) ∧ SlI w.heap.size w' (nsOut l s) v ∧ Below w.heap.size w w' := by
  obtain ⟨i0, hi, hz0, hz1, hz2⟩ := info_parts infoI
  have HI := fun W h => Lib.hid (l12Good_any l A c (by omega) W h)
  have HJ := fun W h => Lib.hid (l12Good_any s B d (by omega) W h)
  have HL := fun W x h => Lib.hid (l1Has_any l x A c (by omega) W h)
  have HS := fun W x h => Lib.hid (l1Has_any s x B d (by omega) W h)
  have HR := Lib.hid hr
  have HQ := Lib.hid hq
  have HO0 := Lib.hid (own_empty (B := w.heap.size) w 3 1 (Nat.le_refl _))
  have HB0 := Lib.hid (Below.alloc (Below.refl w.heap.size w) (Nat.le_refl _) (.cells #[] 3))
  clear hr hq
  by_cases h1 : popB l = true
  · by_cases h2 : popB s = true
    · go_enter Try.func26, Try.ntmps26
      go_wp2_with fail
      refine (HI _ (HR.out.below HB0.out)).out.mono ?_
      rintro e w1 ⟨rfl, hb1⟩
      have HB1 := Lib.hid (Below.transB HB0.out (Nat.le_refl _) hb1)
      have HO1 := Lib.hid (own_below HO0.out hb1)
      clear hb1 HB0 HO0
      go_wp2_with fail
      refine (HJ _ (HQ.out.below HB1.out)).out.mono ?_
      rintro e w2 ⟨rfl, hb2⟩
      have HB2 := Lib.hid (Below.transB HB1.out (Nat.le_refl _) hb2)
      have HO2 := Lib.hid (own_below HO1.out hb2)
      clear hb2 HB1 HO1
      go_wp2_with fail
      go_loop [7] (fun v => ∃ k : Nat, k ≤ s.length ∧ v = .int .i64 k ∧ Hid ((s.all fun x => hasI l x) = ((s.drop k).all fun x => hasI l x))) (fun v => s.length - (intOf v).toNat)
      case atStart => exact ⟨0, Nat.zero_le _, rfl, by show _ = _; rfl⟩
      case round =>
        obtain ⟨k, hk, rfl, K⟩ := hrel
        by_cases hlt : k < s.length
        · obtain ⟨gb, go, rfl, hgb, hcell⟩ := (HQ.out.below HB2.out).2 (by omega)
          have c0 := cellsI_at hcell hlt
          clear hcell
          have hlt' : ((k : Int) < (s.length : Int)) := by omega
          have K1 := K.out
          rw [List.drop_eq_getElem_cons hlt, List.all_cons] at K1
          by_cases hp : hasI l s[k] = true
          · have K2 : Hid ((s.all fun x => hasI l x) = ((s.drop (k + 1)).all fun x => hasI l x)) := by show _ = _; rw [K1, hp, Bool.true_and]
            clear K K1
            go_wp2_with (go_at_call 48; refine (HL _ s[k] (HR.out.below HB2.out)).out.mono ?_; rw [hp]; rintro e w' ⟨rfl, rfl⟩)
            go_round
            case rel => exact ⟨k + 1, by omega, by go_num, K2⟩
            case measure => simp [intOf]; omega
          · have hp' : hasI l s[k] = false := by simpa using hp
            have e1 : Hid (nsOk l s = false) := by show _ = _; rw [nsOk, K1, hp']; simp
            have e2 : Hid (nsOut l s = []) := if_neg (by rw [e1.out]; simp)
            clear K K1 hp
            go_wp2_with (go_at_call 48; refine (HL _ s[k] (HR.out.below HB2.out)).out.mono ?_; rw [hp']; rintro e w' ⟨rfl, rfl⟩)
            go_ret2
            exact ⟨_, by rw [e1.out]; rfl, by rw [e2.out]; exact ⟨_, _, rfl, HO2.out⟩, HB2.out⟩
        · have K2 : (s.all fun x => hasI l x) = true := by rw [K.out, List.drop_of_length_le (by omega)]; rfl
          have e1 : Hid (nsOk l s = true) := by show _ = _; rw [nsOk, h1, h2, K2]; rfl
          have e2 : Hid (nsOut l s = l.filter fun x => !hasI s x) := if_pos e1.out
          clear K K2
          go_wp2_with fail
          go_loopw [6, 8] (fun v6 v8 wr => ∃ (j : Nat) (acc : List Int) (A' : Option Addr) (c' : Nat), j ≤ l.length ∧ acc.length ≤ j ∧ v8 = .int .i64 j ∧ v6 = .slice A' acc.length c' ∧ wr.ownsRow w.heap.size 3 1 (.slice A' acc.length c') acc.length (cellsI acc) ∧ Below w.heap.size w wr ∧ Hid ((l.filter fun x => !hasI s x) = acc ++ ((l.drop j).filter fun x => !hasI s x))) (fun _ v8 _ => l.length - (intOf v8).toNat)
          case atStart => exact ⟨0, [], _, 0, Nat.zero_le _, Nat.zero_le _, rfl, rfl, HO2.out, HB2.out, by show _ = _; rfl⟩
          case round =>
            obtain ⟨j, acc, A', c', hj, haj, rfl, rfl, hown, hb, M⟩ := hrel
            by_cases hjl : j < l.length
            · obtain ⟨gb, go, rfl, hgb, hcell⟩ := (HR.out.below hb).2 (by omega)
              have c0 := cellsI_at hcell hjl
              clear hcell
              have hjl' : ((j : Int) < (l.length : Int)) := by omega
              have M1 := M.out
              rw [List.drop_eq_getElem_cons hjl, List.filter_cons] at M1
              have HB := Lib.hid hb
              have HO := Lib.hid hown
              have HQ' := Lib.hid (HQ.out.below hb)
              have hsz := hb.size
              clear hb hown
              by_cases hp : hasI s l[j] = true
              · have M2 : Hid ((l.filter fun x => !hasI s x) = acc ++ ((l.drop (j + 1)).filter fun x => !hasI s x)) := by
                  show _ = _; rw [M1, if_neg (by rw [hp]; simp)]
                clear M M1
                go_wp2_with (go_at_call 48; refine (HS _ l[j] HQ'.out).out.mono ?_; rw [hp]; rintro e w' ⟨rfl, rfl⟩)
                go_roundw
                case rel => exact ⟨j + 1, acc, A', c', by omega, by omega, by go_num, rfl, HO.out, HB.out, M2⟩
                case measure => simp [intOf]; omega
              · have hp' : hasI s l[j] = false := by simpa using hp
                have M2 : Hid ((l.filter fun x => !hasI s x) = (acc ++ [l[j]]) ++ ((l.drop (j + 1)).filter fun x => !hasI s x)) := by
                  show _ = _; rw [M1, if_pos (by rw [hp']; rfl)]; simp only [List.append_assoc, List.singleton_append]
                clear M M1 hp
                go_wp2_with (first
                  | (go_at_call 48; refine (HS _ l[j] HQ'.out).out.mono ?_; rw [hp']; rintro e w' ⟨rfl, rfl⟩)
                  | (at_builtin; refine wpList_push rfl _ _ 22 rfl w.heap.size 3 i0 (.int .i64 0) 1 8 Try.underlying22 hi hz0 hz1 hz2 rfl (by decide) (by decide) _ _ _ _ rfl HO.out #[.int .i64 l[j]] _ rfl rfl (by simp [Value.oneCell']) (by omega) hsz ?_; intro A2 c2 w3 hown2 hg2))
                go_roundw
                case rel => exact ⟨j + 1, acc ++ [l[j]], A2, c2, by omega, by simp; omega, by go_num, by simp, by simpa [cellsI] using hown2, Below.row HB.out HO.out hg2 (Nat.le_refl _) hsz, M2⟩
                case measure => simp [intOf]; omega
            · have M2 : Hid ((l.filter fun x => !hasI s x) = acc) := by
                show _ = _; rw [M.out, List.drop_of_length_le (by omega)]; simp
              have HB := Lib.hid hb
              have HO := Lib.hid hown
              clear M hb hown
              go_wp2
              go_ret2
              exact ⟨_, by rw [e1.out]; rfl, ⟨A', c', by rw [e2.out, M2.out]; rfl, by rw [e2.out, M2.out]; exact HO.out⟩, HB.out⟩
    · have e1 : Hid (nsOk l s = false) := by show _ = _; rw [nsOk, show popB s = false by simpa using h2]; simp
      have e2 : Hid (nsOut l s = []) := if_neg (by rw [e1.out]; simp)
      go_enter Try.func26, Try.ntmps26
      go_wp2_with fail
      refine (HI _ (HR.out.below HB0.out)).out.mono ?_
      rintro e w1 ⟨rfl, hb1⟩
      have HB1 := Lib.hid (Below.transB HB0.out (Nat.le_refl _) hb1)
      have HO1 := Lib.hid (own_below HO0.out hb1)
      clear hb1 HB0 HO0
      go_wp2_with fail
      refine (HJ _ (HQ.out.below HB1.out)).out.mono ?_
      rintro e w2 ⟨rfl, hb2⟩
      have HB2 := Lib.hid (Below.transB HB1.out (Nat.le_refl _) hb2)
      have HO2 := Lib.hid (own_below HO1.out hb2)
      clear hb2 HB1 HO1
      go_wp2
      go_ret2
      exact ⟨_, by rw [e1.out]; rfl, by rw [e2.out]; exact ⟨_, _, rfl, HO2.out⟩, HB2.out⟩
  · have e1 : Hid (nsOk l s = false) := by show _ = _; rw [nsOk, show popB l = false by simpa using h1]; simp
    have e2 : Hid (nsOut l s = []) := if_neg (by rw [e1.out]; simp)
    go_enter Try.func26, Try.ntmps26
    go_wp2_with fail
    refine (HI _ (HR.out.below HB0.out)).out.mono ?_
    rintro e w1 ⟨rfl, hb1⟩
    have HB1 := Lib.hid (Below.transB HB0.out (Nat.le_refl _) hb1)
    have HO1 := Lib.hid (own_below HO0.out hb1)
    clear hb1 HB0 HO0
    go_wp2
    go_ret2
    exact ⟨_, by rw [e1.out]; rfl, by rw [e2.out]; exact ⟨_, _, rfl, HO1.out⟩, HB1.out⟩

end Go.Proofs.Ytnhcghlhicignaa
