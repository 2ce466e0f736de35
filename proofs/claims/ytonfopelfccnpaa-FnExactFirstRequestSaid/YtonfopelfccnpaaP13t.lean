/-
  OverdueOn by the program.
  Conditions: those written at each theorem.
-/
import Derived.Test.YtonfopelfccnpaaP13s
namespace Go.Proofs.Ytonfopelfccnpaa
open Go.RowKit Go.BigFrame
set_option maxRecDepth 100000

set_option maxHeartbeats 4000000 in
theorem implOverdueOn_any (L : List RQ) (day : Int) (A : Option Addr) (c : Nat) (hl : L.length ≤ 1048576) (hs : ∀ x ∈ L, x.r.stops.length ≤ 9223372036854775807) (w : World) (hr : RdQ w A L) :
    Calls Try.prog 11 #[.slice A L.length c, .int .i64 day] w fun e w' => ∃ v, e = .returned (.tuple #[v, .bool (odOk L day)]) ∧ SlI w.heap.size w' (odOut L day) v ∧ Below w.heap.size w w' := by
  obtain ⟨i0, hi, hz0, hz1, hz2⟩ := info_parts infoI
  have HL := Lib.hid (dueDays_any L A c w hr hl hs)
  have HR := Lib.hid hr
  clear hr hs
  by_cases h1 : goodQ L = true
  · have hdd : ddOut L = daysQ L := if_pos h1
    have hdn : (daysQ L).length = L.length := by simp [daysQ]
    rw [h1, hdd] at HL
    by_cases h2 : inB day 0 20000 = true
    · have e1 : Hid (odOk L day = true) := by show _ = _; rw [odOk, h1, h2]; rfl
      have e2 : Hid (odOut L day = odF day L) := if_pos e1.out
      have hl8 := (goodQ_ok h1).2
      clear h1 hdd
      go_enter Try.func11, Try.ntmps11
      go_wp2_with fail
      refine HL.out.mono ?_
      rintro e w1 ⟨_, rfl, ⟨A6, c6, rfl, ho⟩, hb1⟩
      rw [hdn] at ho ⊢
      have B1 := Lib.hid hb1
      have D1 := Lib.hid ho
      clear hb1 ho hdn
      go_wp2_with (go_at_call 25; refine (isDay_any _ _).mono ?_; rintro e w' ⟨rfl, rfl⟩; rw [h2])
      go_loopw [8, 25] (fun v8 v25 wr => ∃ (k : Nat) (acc : List Int) (A' : Option Addr) (c' : Nat), k ≤ L.length ∧ acc.length ≤ k ∧ v25 = .int .i64 k ∧ v8 = .slice A' acc.length c' ∧ Below w.heap.size w wr ∧
        wr.ownsRow w.heap.size 3 1 (.slice A' acc.length c') acc.length (cellsI acc) ∧ wr.ownsRow w.heap.size 3 1 (.slice A6 L.length c6) L.length (cellsI (daysQ L)) ∧
        Hid (∀ q, (Value.slice A6 L.length c6).ownBlock = some q → (Value.slice A' acc.length c').ownBlock ≠ some q) ∧ Hid (odF day L = acc ++ odF day (L.drop k))) (fun _ v25 _ => L.length - (intOf v25).toNat)
      case atStart => exact ⟨0, [], none, 0, Nat.zero_le _, Nat.le_refl _, rfl, rfl, B1.out, World.ownsRow_nil _ _ _ _, D1.out, Lib.hid (fun q _ h => by cases h), by show _ = _; rfl⟩
      case round =>
        clear B1 D1 HL
        obtain ⟨k, acc, A', c', hk, hak, rfl, rfl, hb, hown, hdy, NE, M⟩ := hrel
        by_cases hlt : k < L.length
        · have hlt' : ((k : Int) < (L.length : Int)) := by omega
          have hk0 : (0 : Int) ≤ (k : Int) := by omega
          obtain ⟨gb, go, rfl, hgb, hcell⟩ := (HR.out.below hb).1.2 (by omega)
          obtain ⟨h0, _, _, _, _⟩ := cellsRQ_at hcell hlt
          obtain ⟨gd, rfl⟩ := own_some hdy (by omega)
          obtain ⟨gd2, gdo, hgd, hgdl, hcd⟩ := (Rd.of_own hdy).2 (by omega)
          cases hgd
          have d0 := cellsI_at hcd (k := k) (by simp [daysQ]; exact hlt)
          have hdk : (daysQ L)[k]'(by simp [daysQ]; exact hlt) = dl L[k].r := by simp [daysQ]
          rw [hdk, Nat.zero_add] at d0
          have M1 := M.out
          rw [List.drop_eq_getElem_cons hlt, odF] at M1
          generalize dl L[k].r = D at d0 M1
          have hs0 := hb.size
          have HB := Lib.hid hb
          have HO := Lib.hid hown
          have HD := Lib.hid hdy
          clear hcell hcd hdk M hb hown hdy
          by_cases q : D < day
          · rw [if_pos q] at M1
            have M2 : Hid (odF day L = (acc ++ [L[k].r.id]) ++ odF day (L.drop (k + 1))) := by show _ = _; rw [M1, List.append_assoc]; rfl
            clear M1
            go_wp2_with (at_builtin; refine wpList_pushG rfl _ _ 30 rfl w.heap.size 3 i0 (.int .i64 0) 1 8 Try.underlying30 hi hz0 hz1 hz2 rfl (by decide) (by decide) _ _ _ _ rfl HO.out #[.int .i64 L[k].r.id] _ _ rfl (by simp) rfl (by simp [Value.oneCell']) (by omega) hs0 ?_; intro A5 c5 w5 hown5 hg5 hpl5)
            have hf : w5.ownsRow w.heap.size 3 1 (.slice A5 (acc ++ [L[k].r.id]).length c5) (acc ++ [L[k].r.id]).length (cellsI (acc ++ [L[k].r.id])) := by
              rw [cellsI_append]; simpa [cellsI] using hown5
            have hD5 := Lib.hid (HD.out.kept hg5 (.inr (fun e => NE.out gd rfl e.symm)))
            have hN5 : Hid (∀ q, (Value.slice (some ⟨gd, 0, none⟩) L.length c6).ownBlock = some q → (Value.slice A5 (acc ++ [L[k].r.id]).length c5).ownBlock ≠ some q) := Lib.hid (fun q hq e => by
              have e6 : (Value.slice A5 (acc ++ [L[k].r.id]).length c5).ownBlock = (Value.slice A5 (acc.length + 1) c5).ownBlock := by cases A5 <;> rfl
              rw [e6] at e
              rcases hpl5 with h | h
              · exact NE.out q hq (by rw [← h]; exact e)
              · have h5 : gd < wr.heap.size := (HD.out.lt gd rfl).2
                have h6 : gd = q := Option.some.inj hq
                have h7 := Option.some.inj (h.symm.trans e)
                omega)
            have HB5 := Lib.hid (Below.row HB.out HO.out hg5 (Nat.le_refl _) hs0)
            clear hg5 hpl5 hown5
            go_roundw
            case rel => exact ⟨k + 1, acc ++ [L[k].r.id], A5, c5, by omega, by simp; omega, by go_num, by simp, HB5.out, hf, hD5.out, hN5, M2⟩
            case measure => simp [intOf]; omega
          · rw [if_neg q] at M1
            have M2 := Lib.hid M1
            clear M1
            go_wp2
            go_roundw
            case rel => exact ⟨k + 1, acc, A', c', by omega, by omega, by go_num, rfl, HB.out, HO.out, HD.out, NE, M2⟩
            case measure => simp [intOf]; omega
        · have hge : ¬ ((k : Int) < (L.length : Int)) := by omega
          have K2 : Hid (odF day L = acc) := by show _ = _; rw [M.out, List.drop_of_length_le (by omega)]; simp [odF]
          have HO := Lib.hid hown
          have HB := Lib.hid hb
          clear M hb hown hdy NE
          go_wp2
          go_ret2
          exact ⟨_, by rw [e1.out]; rfl, by rw [e2.out, K2.out]; exact ⟨A', c', rfl, HO.out⟩, HB.out⟩
    · have h2' : inB day 0 20000 = false := by simpa using h2
      have e1 : Hid (odOk L day = false) := by show _ = _; rw [odOk, h2']; simp
      have e2 : Hid (odOut L day = []) := if_neg (by rw [e1.out]; simp)
      clear h1
      go_enter Try.func11, Try.ntmps11
      go_wp2_with fail
      refine HL.out.mono ?_
      rintro e w1 ⟨_, rfl, _, hb1⟩
      have B1 := Lib.hid hb1
      clear hb1
      go_wp2_with (go_at_call 25; refine (isDay_any _ _).mono ?_; rintro e w' ⟨rfl, rfl⟩; rw [h2'])
      go_ret2
      exact ⟨_, by rw [e1.out]; rfl, by rw [e2.out]; exact SlI.nil _ _, B1.out⟩
  · have h1' : goodQ L = false := by simpa using h1
    rw [h1'] at HL
    have e1 : Hid (odOk L day = false) := by show _ = _; rw [odOk, h1']; rfl
    have e2 : Hid (odOut L day = []) := if_neg (by rw [e1.out]; simp)
    clear h1 h1'
    go_enter Try.func11, Try.ntmps11
    go_wp2_with fail
    refine HL.out.mono ?_
    rintro e w1 ⟨_, rfl, _, hb1⟩
    have B1 := Lib.hid hb1
    clear hb1
    go_wp2
    go_ret2
    exact ⟨_, by rw [e1.out]; rfl, by rw [e2.out]; exact SlI.nil _ _, B1.out⟩

end Go.Proofs.Ytonfopelfccnpaa
