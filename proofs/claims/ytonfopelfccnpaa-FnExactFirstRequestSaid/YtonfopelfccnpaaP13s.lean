/-
  OverdueOn by the reference and by the program.
  Conditions: those written at each theorem.
-/
import Derived.Test.YtonfopelfccnpaaP13r
import Derived.Test.YtonfopelfccnpaaP13a
namespace Go.Proofs.Ytonfopelfccnpaa
open Go.RowKit Go.BigFrame
set_option maxRecDepth 100000

def odOk (L : List RQ) (day : Int) : Bool := goodQ L && inB day 0 20000
def odF (day : Int) : List RQ → List Int
  | [] => []
  | x :: t => if dl x.r < day then x.r.id :: odF day t else odF day t
def odOut (L : List RQ) (day : Int) : List Int := if odOk L day = true then odF day L else []
theorem len_odF (day : Int) : ∀ L, (odF day L).length ≤ L.length
  | [] => by simp [odF]
  | x :: t => by have := len_odF day t; rw [odF]; split <;> simp <;> omega
theorem len_od (L : List RQ) (day : Int) (hl : L.length ≤ 1048576) : (odOut L day).length ≤ 1048576 := by
  unfold odOut; split
  · have := len_odF day L; omega
  · simp
theorem listB_ok : ∀ {L : List RQ} {last : Int}, listB last L = true → ∀ x ∈ L, okQ x.r = true
  | [], _, _, x, hx => by cases hx
  | y :: t, last, h, x, hx => by
    rw [listB, Bool.and_eq_true, Bool.and_eq_true] at h
    rcases List.mem_cons.1 hx with rfl | hx
    · exact h.1
    · exact listB_ok h.2.2 x hx
theorem goodQ_ok {L : List RQ} (h : goodQ L = true) : (∀ x ∈ L, okQ x.r = true) ∧ L.length ≤ 8 := by
  rw [goodQ, Bool.and_eq_true, decide_eq_true_eq] at h
  exact ⟨listB_ok h.1, by omega⟩

set_option maxHeartbeats 4000000 in
theorem specOverdueOn_any (L : List RQ) (day : Int) (A : Option Addr) (c : Nat) (hl : L.length ≤ 1048576) (hs : ∀ x ∈ L, x.r.stops.length ≤ 9223372036854775807) (w : World) (hr : RdQ w A L) :
    Calls Try.prog 10 #[.slice A L.length c, .int .i64 day] w fun e w' => ∃ v, e = .returned (.tuple #[v, .bool (odOk L day)]) ∧ SlI w.heap.size w' (odOut L day) v ∧ Below w.heap.size w w' := by
  obtain ⟨i0, hi, hz0, hz1, hz2⟩ := info_parts infoI
  have HL := fun W k => Lib.hid (l13List_any L A c W k hl hs)
  have HR := Lib.hid hr
  have HS := Lib.hid hs
  have E0 := Lib.hid (own_empty (B := w.heap.size) w 3 1 (Nat.le_refl _))
  have B0 := Lib.hid (Below.alloc (Below.refl w.heap.size w) (Nat.le_refl _) (.cells #[] 3))
  clear hr hs
  by_cases h1 : goodQ L = true
  · have G1 := Lib.hid h1
    rw [h1] at HL
    by_cases h2 : inB day 0 20000 = true
    · have e1 : Hid (odOk L day = true) := by show _ = _; rw [odOk, h1, h2]; rfl
      have e2 : Hid (odOut L day = odF day L) := if_pos e1.out
      have hl8 := (goodQ_ok h1).2
      clear h1
      go_enter Try.func10, Try.ntmps10
      go_wp2_with fail
      refine (HL _ (HR.out.below B0.out)).out.mono ?_
      rintro e w1 ⟨rfl, hb1⟩
      have B1 := Lib.hid (Below.transB B0.out (Nat.le_refl _) hb1)
      have O1 : Hid (w1.ownsRow w.heap.size 3 1 (.slice (some ⟨w.heap.size, 0, none⟩) 0 0) 0 []) := Lib.hid (own_below E0.out hb1)
      clear hb1
      go_wp2_with (go_at_call 24; refine (l2Day_any _ _).mono ?_; rintro e w' ⟨rfl, rfl⟩; rw [h2])
      go_loopw [6, 7] (fun v6 v7 wr => ∃ (k : Nat) (acc : List Int) (A' : Option Addr) (c' : Nat), k ≤ L.length ∧ acc.length ≤ k ∧ v7 = .int .i64 k ∧ v6 = .slice A' acc.length c' ∧ Below w.heap.size w wr ∧
        wr.ownsRow w.heap.size 3 1 (.slice A' acc.length c') acc.length (cellsI acc) ∧ Hid (odF day L = acc ++ odF day (L.drop k))) (fun _ v7 _ => L.length - (intOf v7).toNat)
      case atStart => exact ⟨0, [], _, _, Nat.zero_le _, Nat.le_refl _, rfl, rfl, B1.out, O1.out, by show _ = _; rfl⟩
      case round =>
        clear B1 O1 HL E0 B0
        obtain ⟨k, acc, A', c', hk, hak, rfl, rfl, hb, hown, M⟩ := hrel
        by_cases hlt : k < L.length
        · have hlt' : ((k : Int) < (L.length : Int)) := by omega
          obtain ⟨gb, go, rfl, hgb, hcell⟩ := (HR.out.below hb).1.2 (by omega)
          obtain ⟨h0, h1, h2, h3, h4⟩ := cellsRQ_at hcell hlt
          obtain ⟨b1, b2, b3, _, b5, _⟩ := req_bounds (okQ_true ((goodQ_ok G1.out).1 _ (List.getElem_mem hlt))).1
          have HD := Lib.hid (l13Due_any L[k].r L[k].A L[k].c wr ((HR.out.below hb).2 _ (List.getElem_mem hlt)) (HS.out _ (List.getElem_mem hlt)) b1 b2 b3 (Lib.hid b5))
          have M1 := M.out
          rw [List.drop_eq_getElem_cons hlt, odF] at M1
          have hdl : dl L[k].r = dueOf L[k].r.stops L[k].r.came (L[k].r.working + L[k].r.extended) := rfl
          rw [hdl] at M1
          generalize dueOf L[k].r.stops L[k].r.came (L[k].r.working + L[k].r.extended) = D at HD M1
          have HB := Lib.hid hb
          have HO := Lib.hid hown
          clear hcell b1 b2 b3 b5 hdl M hb hown
          by_cases q : D < day
          · rw [if_pos q] at M1
            have M2 : Hid (odF day L = (acc ++ [L[k].r.id]) ++ odF day (L.drop (k + 1))) := by show _ = _; rw [M1, List.append_assoc]; rfl
            clear M1
            go_wp2_with fail
            refine HD.out.mono ?_
            rintro e w2 ⟨rfl, hb2⟩
            have B2 := Lib.hid (Below.transB HB.out (Nat.le_refl _) hb2)
            have O2 := Lib.hid (own_below HO.out hb2)
            have hs2 := B2.out.size
            have m0 := (hb2.cell (p := ⟨gb, go + k * 5, none⟩) hgb).trans h0
            clear hb2 h0 h1 h2 h3 h4
            go_wp2_with (at_builtin; refine wpList_pushG rfl _ _ 30 rfl w.heap.size 3 i0 (.int .i64 0) 1 8 Try.underlying30 hi hz0 hz1 hz2 rfl (by decide) (by decide) _ _ _ _ rfl O2.out #[.int .i64 L[k].r.id] _ _ rfl (by simp) rfl (by simp [Value.oneCell']) (by omega) hs2 ?_; intro A5 c5 w5 hown5 hg5 hpl5)
            have hf : w5.ownsRow w.heap.size 3 1 (.slice A5 (acc ++ [L[k].r.id]).length c5) (acc ++ [L[k].r.id]).length (cellsI (acc ++ [L[k].r.id])) := by
              rw [cellsI_append]; simpa [cellsI] using hown5
            go_roundw
            case rel => exact ⟨k + 1, acc ++ [L[k].r.id], A5, c5, by omega, by simp; omega, by go_num, by simp, Below.row B2.out O2.out hg5 (Nat.le_refl _) hs2, hf, M2⟩
            case measure => simp [intOf]; omega
          · rw [if_neg q] at M1
            have M2 := Lib.hid M1
            clear M1
            go_wp2_with fail
            refine HD.out.mono ?_
            rintro e w2 ⟨rfl, hb2⟩
            have B2 := Lib.hid (Below.transB HB.out (Nat.le_refl _) hb2)
            have O2 := Lib.hid (own_below HO.out hb2)
            clear hb2 h0 h1 h2 h3 h4
            go_wp2
            go_roundw
            case rel => exact ⟨k + 1, acc, A', c', by omega, by omega, by go_num, rfl, B2.out, O2.out, M2⟩
            case measure => simp [intOf]; omega
        · have hge : ¬ ((k : Int) < (L.length : Int)) := by omega
          have K2 : Hid (odF day L = acc) := by show _ = _; rw [M.out, List.drop_of_length_le (by omega)]; simp [odF]
          have HO := Lib.hid hown
          have HB := Lib.hid hb
          clear M hb hown
          go_wp2
          go_ret2
          exact ⟨_, by rw [e1.out]; rfl, by rw [e2.out, K2.out]; exact ⟨A', c', rfl, HO.out⟩, HB.out⟩
    · have h2' : inB day 0 20000 = false := by simpa using h2
      have e1 : Hid (odOk L day = false) := by show _ = _; rw [odOk, h2']; simp
      have e2 : Hid (odOut L day = []) := if_neg (by rw [e1.out]; simp)
      clear h1
      go_enter Try.func10, Try.ntmps10
      go_wp2_with fail
      refine (HL _ (HR.out.below B0.out)).out.mono ?_
      rintro e w1 ⟨rfl, hb1⟩
      have B1 := Lib.hid (Below.transB B0.out (Nat.le_refl _) hb1)
      have O1 : Hid (w1.ownsRow w.heap.size 3 1 (.slice (some ⟨w.heap.size, 0, none⟩) 0 0) 0 []) := Lib.hid (own_below E0.out hb1)
      clear hb1
      go_wp2_with (go_at_call 24; refine (l2Day_any _ _).mono ?_; rintro e w' ⟨rfl, rfl⟩; rw [h2'])
      go_ret2
      exact ⟨_, by rw [e1.out]; rfl, by rw [e2.out]; exact ⟨_, _, rfl, O1.out⟩, B1.out⟩
  · have h1' : goodQ L = false := by simpa using h1
    rw [h1'] at HL
    have e1 : Hid (odOk L day = false) := by show _ = _; rw [odOk, h1']; rfl
    have e2 : Hid (odOut L day = []) := if_neg (by rw [e1.out]; simp)
    clear h1 h1'
    go_enter Try.func10, Try.ntmps10
    go_wp2_with fail
    refine (HL _ (HR.out.below B0.out)).out.mono ?_
    rintro e w1 ⟨rfl, hb1⟩
    have B1 := Lib.hid (Below.transB B0.out (Nat.le_refl _) hb1)
    have O1 : Hid (w1.ownsRow w.heap.size 3 1 (.slice (some ⟨w.heap.size, 0, none⟩) 0 0) 0 []) := Lib.hid (own_below E0.out hb1)
    clear hb1
    go_wp2
    go_ret2
    exact ⟨_, by rw [e1.out]; rfl, by rw [e2.out]; exact ⟨_, _, rfl, O1.out⟩, B1.out⟩

end Go.Proofs.Ytonfopelfccnpaa
