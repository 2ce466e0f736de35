/-
  NotSampled by the program.
  Conditions: those written at each theorem.
-/
import Derived.Test.YtnhcghlhicignaaP12m
namespace Go.Proofs.Ytnhcghlhicignaa
open Go.RowKit Go.BigFrame
set_option maxRecDepth 100000

/-- the copy of a slice that is not nil is not nil -/
theorem cloneI_some (l : List Int) (ad : Addr) (c : Nat) (w : World) (hr : Rd w 1 (some ad) l.length (cellsI l)) (hl : l.length ≤ 1048576) :
    Calls Try.prog 53 #[.slice (some ad) l.length c] w fun e w' => ∃ g c', e = .returned (.slice (some ⟨g, 0, none⟩) l.length c') ∧ w'.ownsRow w.heap.size 3 1 (.slice (some ⟨g, 0, none⟩) l.length c') l.length (cellsI l) ∧ Below w.heap.size w w' := by
  obtain ⟨i0, hi, hz0, hz1, hz2⟩ := info_parts infoI
  have HR := Lib.hid hr
  clear hr
  have HO0 := Lib.hid (own_empty w 3 1 (Nat.le_refl _))
  have HB0 := Lib.hid (Below.alloc (Below.refl w.heap.size w) (Nat.le_refl _) (.cells #[] 3))
  have hnil := fun W : World => Lib.run_eql_slice_some_nil (P := Try.prog) W ad l.length c Try.underlying22
  go_enter Try.func53, Try.ntmps53
  go_wp2_with (at_builtin; refine wpList_appendMany' _ rfl _ _ 22 rfl w.heap.size 3 i0 (.int .i64 0) 1 8 Try.underlying22 hi hz0 hz1 hz2 rfl (by decide) (by decide) (some ⟨w.heap.size, 0, none⟩) 0 0 [] rfl HO0.out (some ad) l.length c (cellsI l) rfl (HR.out.below HB0.out) (by simp) (one_cellsI l) (by omega) (by simp) ?_; intro A2 c2 w2 hown2 hg2 hpl2)
  go_ret
  have hb : Below w.heap.size w w2 := Below.row HB0.out HO0.out hg2 (Nat.le_refl _) (by simp)
  rw [Nat.zero_add] at hown2 hpl2
  rcases hown2.2 with ⟨h0, _⟩ | ⟨g, cap, cur, hv, _⟩
  · exfalso
    rw [h0] at hpl2
    rcases hpl2 with h | h <;> simp [Value.ownBlock] at h
  · cases hv
    exact ⟨g, c2, by simp, by simpa using hown2, hb⟩

set_option maxHeartbeats 1000000 in
theorem implNotSampled_any (l s : List Int) (ad bd : Addr) (c d : Nat) (hl : l.length ≤ 1048576) (hs : s.length ≤ 1048576) (w : World) (hr : Rd w 1 (some ad) l.length (cellsI l)) (hq : Rd w 1 (some bd) s.length (cellsI s)) :
    Calls Try.prog 27 #[.slice (some ad) l.length c, .slice (some bd) s.length d] w fun e w' => ∃ v, e = .returned (.tuple #[v, .bool (nsOk l s)]) ∧ SlI w.heap.size w' (nsOut l s) v ∧ Below w.heap.size w w' := by
  have HI := fun W h => Lib.hid (implIsPopulation_any l (some ad) c (by omega) W h)
  have HJ := fun W h => Lib.hid (implIsPopulation_any s (some bd) d (by omega) W h)
  have X0 := (BX.new w #[.slice (some ad) l.length c] 22).alloc (.cells #[.slice (some bd) s.length d] 22)
  have Y0 := BX.new (w.alloc (.cells #[.slice (some ad) l.length c] 22)) #[.slice (some bd) s.length d] 22
  rw [World.size_alloc] at Y0
  have hb0 : Below w.heap.size w ((w.alloc (.cells #[.slice (some ad) l.length c] 22)).alloc (.cells #[.slice (some bd) s.length d] 22)) := by go_grown
  have HX0 := Lib.hid X0
  have HY0 := Lib.hid Y0
  have HB0 := Lib.hid hb0
  have HR := Lib.hid (hr.below hb0)
  have HQ := Lib.hid (hq.below hb0)
  clear X0 Y0 hb0 hr hq
  have x0 := HX0.out.cell 0 _ rfl
  have y0 := HY0.out.cell 0 _ rfl
  have HC := Lib.hid (containsFuncI_any s (some bd) d 50 #[.pointer (some ⟨w.heap.size, 0, none⟩)] (fun x => !hasI l x) _ HQ.out (by omega) (fun _ _ => by kernel_rfl)
    (fun p w1 _ hb => (ns1_any l p (some ad) c w.heap.size w1 ((HX0.out.below hb).cell 0 _ rfl) (HR.out.below hb) hl).mono fun e w2 h => ⟨h.1, h.2 ▸ Below.refl _ _⟩))
  by_cases h1 : popB l = true
  · by_cases h2 : popB s = true
    · by_cases h3 : (s.any fun x => !hasI l x) = false
      · have e1 : Hid (nsOk l s = true) := by
          show _ = _; rw [nsOk, h1, h2]
          simp only [Bool.true_and, List.all_eq_true]
          intro x hx
          have := List.any_eq_false.1 h3 x hx
          simpa using this
        have e2 : Hid (nsOut l s = l.filter fun x => !hasI s x) := if_pos e1.out
        rw [h3] at HC
        clear h3
        go_enter Try.func27, Try.ntmps27
        go_wp2_with fail
        refine (HI _ HR.out).out.mono ?_
        rintro e w' ⟨rfl, rfl⟩
        rw [h1]
        go_wp2_with fail
        refine (HJ _ HQ.out).out.mono ?_
        rintro e w' ⟨rfl, rfl⟩
        rw [h2]
        go_wp2_with fail
        refine HC.out.mono ?_
        rintro e w2 ⟨rfl, hb2⟩
        have HX2 := Lib.hid (HX0.out.below hb2)
        have HY2 := Lib.hid (HY0.out.below hb2)
        have HB2 := Lib.hid (Below.transB HB0.out (Nat.le_refl _) hb2)
        have HR2 := Lib.hid (HR.out.below hb2)
        have HQ2 := Lib.hid (HQ.out.below hb2)
        clear hb2 HX0 HY0 HB0 HR HQ x0 y0 HC HI HJ
        have x0 := HX2.out.cell 0 _ rfl
        have y0 := HY2.out.cell 0 _ rfl
        go_wp2_with fail
        refine (cloneI_some l ad c _ HR2.out hl).mono ?_
        rintro e w3 ⟨g, c3, rfl, ho3, hb3⟩
        have HY3 := Lib.hid (HY2.out.below hb3)
        have HB3 := Lib.hid (Below.transB HB2.out (Nat.le_refl _) hb3)
        have HQ3 := Lib.hid (HQ2.out.below hb3)
        have hgs : w2.heap.size ≤ g := (ho3.lt g rfl).1
        have hys : w.heap.size + 1 < w2.heap.size := HY2.out.lt
        have HO3 := Lib.hid (own_base ho3 HB2.out.size)
        have hqb : 0 < s.length → bd.block < w2.heap.size := fun h => by
          obtain ⟨b, o, hbo, hlt, _⟩ := HQ2.out.2 h
          cases hbo; exact hlt
        clear hb3 ho3 HX2 HY2 HR2 HQ2 HB2 x0 y0
        go_wp2_with fail
        refine (ownDeleteFunc w.heap.size l g c3 54 #[.pointer (some ⟨w.heap.size + 1, 0, none⟩)] (fun x => hasI s x) _ HO3.out hl (fun _ _ => by kernel_rfl) ?_).mono ?_
        · intro W x hW hWs
          have hys3 : w.heap.size + 1 < w3.heap.size := HY3.out.lt
          have hcy : W.cell? ⟨w.heap.size + 1, 0, none⟩ = some (.slice (some bd) s.length d) :=
            (World.cell?_of_block (a := ⟨w.heap.size + 1, 0, none⟩) (hW _ hys3 (by show w.heap.size + 1 ≠ g; omega))).trans (HY3.out.cell 0 _ rfl)
          have hrs : Rd W 1 (some bd) s.length (cellsI s) := by
            refine ⟨HQ3.out.1, fun h0 => ?_⟩
            obtain ⟨b, o, hbo, hlt, hcell⟩ := HQ3.out.2 h0
            have hb' := hqb h0
            cases hbo
            exact ⟨b, o, rfl, Nat.lt_of_lt_of_le hlt hWs, fun j u hu => (World.cell?_of_block (a := ⟨b, o + j, none⟩) (hW b hlt (by have : b < w2.heap.size := hb'; omega))).trans (hcell j u hu)⟩
          exact ns2_any s x (some bd) d _ W hcy hrs hs
        · rintro e w4 ⟨rfl, ho4, hg4⟩
          have HO4 := Lib.hid ho4
          have HB4 := Lib.hid (Below.row HB3.out HO3.out hg4 (Nat.le_refl _) HB3.out.size)
          clear ho4 hg4
          go_wp2
          go_ret2
          exact ⟨_, by rw [e1.out]; rfl, by rw [e2.out]; exact ⟨_, _, rfl, HO4.out⟩, HB4.out⟩
      · have h3' : (s.any fun x => !hasI l x) = true := by simpa using h3
        have e1 : Hid (nsOk l s = false) := by
          show _ = _; rw [nsOk]
          obtain ⟨x, hx, hp⟩ := List.any_eq_true.1 h3'
          have : (s.all fun x => hasI l x) = false := by
            rw [Bool.eq_false_iff]; intro h
            have := List.all_eq_true.1 h x hx
            simp [this] at hp
          rw [this]; simp
        have e2 : Hid (nsOut l s = []) := if_neg (by rw [e1.out]; simp)
        rw [h3'] at HC
        clear h3 h3'
        go_enter Try.func27, Try.ntmps27
        go_wp2_with fail
        refine (HI _ HR.out).out.mono ?_
        rintro e w' ⟨rfl, rfl⟩
        rw [h1]
        go_wp2_with fail
        refine (HJ _ HQ.out).out.mono ?_
        rintro e w' ⟨rfl, rfl⟩
        rw [h2]
        go_wp2_with fail
        refine HC.out.mono ?_
        rintro e w2 ⟨rfl, hb2⟩
        have HB2 := Lib.hid (Below.transB HB0.out (Nat.le_refl _) hb2)
        clear hb2
        go_wp2
        go_ret2
        exact ⟨_, by rw [e1.out]; rfl, by rw [e2.out]; exact SlI.nil _ _, HB2.out⟩
    · have e1 : Hid (nsOk l s = false) := by show _ = _; rw [nsOk, show popB s = false by simpa using h2]; simp
      have e2 : Hid (nsOut l s = []) := if_neg (by rw [e1.out]; simp)
      go_enter Try.func27, Try.ntmps27
      go_wp2_with fail
      refine (HI _ HR.out).out.mono ?_
      rintro e w' ⟨rfl, rfl⟩
      rw [h1]
      go_wp2_with fail
      refine (HJ _ HQ.out).out.mono ?_
      rintro e w' ⟨rfl, rfl⟩
      rw [show popB s = false by simpa using h2]
      go_wp2
      go_ret2
      exact ⟨_, by rw [e1.out]; rfl, by rw [e2.out]; exact SlI.nil _ _, HB0.out⟩
  · have e1 : Hid (nsOk l s = false) := by show _ = _; rw [nsOk, show popB l = false by simpa using h1]; simp
    have e2 : Hid (nsOut l s = []) := if_neg (by rw [e1.out]; simp)
    go_enter Try.func27, Try.ntmps27
    go_wp2_with fail
    refine (HI _ HR.out).out.mono ?_
    rintro e w' ⟨rfl, rfl⟩
    rw [show popB l = false by simpa using h1]
    go_wp2
    go_ret2
    exact ⟨_, by rw [e1.out]; rfl, by rw [e2.out]; exact SlI.nil _ _, HB0.out⟩

end Go.Proofs.Ytnhcghlhicignaa
