/-
  AppendHand by the program and by the reference. Written by mk17j.py.
  Conditions: those written at each theorem.
-/
import Derived.Test.YtcneipheipneaaaL17c
import Derived.Deep.RegionHeld3
namespace Go.Proofs.Ytcneipheipneaaa
open Go.RowKit Go.BigFrame
set_option maxRecDepth 100000

theorem BX.rdn {w : World} {g sz : Nat} {vs : List Value} (h : Go.Proofs.Ytcneipheipneaaa.BX w g vs) (hl : vs.length = 1 * sz) : Rd w sz (some ⟨g, 0, none⟩) 1 vs :=
  ⟨hl, fun _ => ⟨g, 0, rfl, h.lt, fun j u hu => by rw [Nat.zero_add]; exact h.cell j u hu⟩⟩
theorem cellsHand_snoc (l : List Hand) (h : Hand) : cellsHand (l ++ [h]) = cellsHand l ++ [.int .i64 h.record, .int .i64 h.giver, .int .i64 h.taker, .int .i64 h.day, .int .i64 h.sum, .bool h.sealed] := by
  rw [cellsHand_append]; rfl


set_option maxHeartbeats 2000000 in
theorem implAppendHand_any (l : List Hand) (h : Hand) (A : Option Addr) (c : Nat) (hA : A = none → c = 0) (hl : l.length ≤ 1048576) (w : World) (hr : Rd w 6 A l.length (cellsHand l)) :
    Calls Try.prog 22 #[.slice A l.length c, aggHand h] w fun e w' => ∃ v, e = .returned (.tuple #[v, .bool (custB (l ++ [h]))]) ∧ SlHand w.heap.size w' (ahOut l h) v ∧ Below w.heap.size w w' := by
  obtain ⟨i0, hi, hz0, hz1, hz2⟩ := info_parts infoHand
  have HA := fun W k => Lib.hid (implIsCustody_any l A c (by omega) W k)
  have HA2 := fun A' c' W k => Lib.hid (implIsCustody_any (l ++ [h]) A' c' (by simp; omega) W k)
  have HR := Lib.hid hr
  have hb0 : Below w.heap.size w (w.alloc (.cells #[.int .i64 h.record, .int .i64 h.giver, .int .i64 h.taker, .int .i64 h.day, .int .i64 h.sum, .bool h.sealed] 25)) := (Below.refl _ _).alloc (Nat.le_refl _) _
  have B0 := Lib.hid hb0
  have X0 := Lib.hid (BXT.new w #[.int .i64 h.record, .int .i64 h.giver, .int .i64 h.taker, .int .i64 h.day, .int .i64 h.sum, .bool h.sealed] 25)
  have hlen : (l ++ [h]).length = l.length + 1 := by simp
  rw [hlen] at HA2
  clear hr hb0
  unfold aggHand
  go_enter Try.func22, Try.ntmps22
  go_wp2_with fail
  obtain ⟨x0, x1, x2, x3, x4, x5⟩ := X0.out.six
  have nb : BX ((w.alloc (.cells #[.int .i64 h.record, .int .i64 h.giver, .int .i64 h.taker, .int .i64 h.day, .int .i64 h.sum, .bool h.sealed] 25)).drew.alloc (.cells #[.int .i64 h.record, .int .i64 h.giver, .int .i64 h.taker, .int .i64 h.day, .int .i64 h.sum, .bool h.sealed] 25)) (w.heap.size + 1) [.int .i64 h.record, .int .i64 h.giver, .int .i64 h.taker, .int .i64 h.day, .int .i64 h.sum, .bool h.sealed] := by
    have h9 := BX.new (w.alloc (.cells #[.int .i64 h.record, .int .i64 h.giver, .int .i64 h.taker, .int .i64 h.day, .int .i64 h.sum, .bool h.sealed] 25)).drew #[.int .i64 h.record, .int .i64 h.giver, .int .i64 h.taker, .int .i64 h.day, .int .i64 h.sum, .bool h.sealed] 25
    simp only [World.size_alloc, drew_size] at h9
    exact h9
  have NB := Lib.hid nb
  clear nb
  go_region_held3 (fun w' => w'.cell? ⟨w.heap.size, 0, none⟩ = some (.int .i64 h.record) ∧ w'.cell? ⟨w.heap.size, 1, none⟩ = some (.int .i64 h.giver) ∧ w'.cell? ⟨w.heap.size, 2, none⟩ = some (.int .i64 h.taker) ∧ w'.cell? ⟨w.heap.size, 3, none⟩ = some (.int .i64 h.day) ∧ w'.cell? ⟨w.heap.size, 4, none⟩ = some (.int .i64 h.sum) ∧ w'.cell? ⟨w.heap.size, 5, none⟩ = some (.bool h.sealed)) (go_keep)
    (first
      | (go_at_call 43
         refine (cloneHand_any l A c _ (HR.out.below (show Below w.heap.size w _ by go_grown)) hA hl).mono ?_
         rintro e w2 ⟨_, rfl, ⟨A2, c2, rfl, ho2⟩, hb2⟩
         have HB2 : Hid (Below w.heap.size w w2) := Lib.hid (Below.transB (show Below w.heap.size w _ by go_grown) (Nat.le_refl _) hb2)
         have HO2 : Hid (w2.ownsRow (w.heap.size + 1) 25 6 (.slice A2 l.length c2) l.length (cellsHand l)) := Lib.hid (own_base ho2 (by (first | assumption | omega | (simp only [World.size_alloc, drew_size]; omega))))
         have HX2 : Hid (BXT 25 w2 w.heap.size [.int .i64 h.record, .int .i64 h.giver, .int .i64 h.taker, .int .i64 h.day, .int .i64 h.sum, .bool h.sealed]) := by
           first
           | exact Lib.hid (BXT.below (w := (w.alloc (.cells #[.int .i64 h.record, .int .i64 h.giver, .int .i64 h.taker, .int .i64 h.day, .int .i64 h.sum, .bool h.sealed] 25)).drew) X0.out hb2)
           | exact Lib.hid (BXT.below (w := (w.alloc (.cells #[.int .i64 h.record, .int .i64 h.giver, .int .i64 h.taker, .int .i64 h.day, .int .i64 h.sum, .bool h.sealed] 25)).drew.alloc (.cells #[.int .i64 h.record, .int .i64 h.giver, .int .i64 h.taker, .int .i64 h.day, .int .i64 h.sum, .bool h.sealed] 25)) (BXT.alloc (w := (w.alloc (.cells #[.int .i64 h.record, .int .i64 h.giver, .int .i64 h.taker, .int .i64 h.day, .int .i64 h.sum, .bool h.sealed] 25)).drew) X0.out (.cells #[.int .i64 h.record, .int .i64 h.giver, .int .i64 h.taker, .int .i64 h.day, .int .i64 h.sum, .bool h.sealed] 25)) hb2)
         have HN2 : True ∨ True := .inl trivial
         have hs2 : w.heap.size ≤ w2.heap.size := HB2.out.size
         have hs2' : w.heap.size + 1 ≤ w2.heap.size := Nat.le_trans (by (first | assumption | omega | (simp only [World.size_alloc, drew_size]; omega))) hb2.size
         clear x0 x1 x2 x3 x4 x5
         obtain ⟨x0, x1, x2, x3, x4, x5⟩ := HX2.out.six)
      | (refine step_appendT rfl _ _ 31 rfl (w.heap.size + 1) 25 i0 (.agg #[.int .i64 0, .int .i64 0, .int .i64 0, .int .i64 0, .int .i64 0, .bool false]) 6 48 Try.underlying31 hi hz0 hz1 hz2 rfl (by decide) (by decide) A2 l.length c2 (cellsHand l) rfl _ 1 _ [.int .i64 h.record, .int .i64 h.giver, .int .i64 h.taker, .int .i64 h.day, .int .i64 h.sum, .bool h.sealed] rfl (l.length + 1) rfl ?_ ?_ ?_ (fun h => by cases h) (by simp [Value.oneCell']) (by omega) ?_
         · first
           | exact HO2.out
           | exact HO2.out.alloc _
         · first
           | exact (BX.new w2 #[.int .i64 h.record, .int .i64 h.giver, .int .i64 h.taker, .int .i64 h.day, .int .i64 h.sum, .bool h.sealed] 25).rdn (by simp)
           | exact (NB.out.below hb2).rdn (by simp)
         · (first | assumption | omega | (simp only [World.size_alloc, drew_size]; omega))
         intro A3 c3 w3 hown3 hg3 hpl3
         have HO3 := Lib.hid hown3
         have hf3 := own_far HO2.out (Nat.lt_succ_self w.heap.size)
         have HX3 : Hid (BXT 25 w3 w.heap.size [.int .i64 h.record, .int .i64 h.giver, .int .i64 h.taker, .int .i64 h.day, .int .i64 h.sum, .bool h.sealed]) := by
           first
           | exact Lib.hid (HX2.out.grown hg3 hf3)
           | exact Lib.hid ((HX2.out.alloc (.cells #[.int .i64 h.record, .int .i64 h.giver, .int .i64 h.taker, .int .i64 h.day, .int .i64 h.sum, .bool h.sealed] 25)).grown hg3 hf3)
         have HB3 : Hid (Below w.heap.size w w3) := by
           first
           | exact Lib.hid (Below.row HB2.out HO2.out hg3 (Nat.le_succ _) hs2)
           | exact Lib.hid (Below.row (Below.alloc HB2.out hs2 (.cells #[.int .i64 h.record, .int .i64 h.giver, .int .i64 h.taker, .int .i64 h.day, .int .i64 h.sum, .bool h.sealed] 25)) (HO2.out.alloc (.cells #[.int .i64 h.record, .int .i64 h.giver, .int .i64 h.taker, .int .i64 h.day, .int .i64 h.sum, .bool h.sealed] 25)) hg3 (Nat.le_succ _) (by (first | assumption | omega | (simp only [World.size_alloc, drew_size]; omega))))
         clear x0 x1 x2 x3 x4 x5
         obtain ⟨x0, x1, x2, x3, x4, x5⟩ := HX3.out.six))
  all_goals
    have HO := Lib.hid (own_base (base' := w.heap.size) HO3.out (Nat.le_succ _))
    rw [← cellsHand_snoc] at HO
    clear hown3 hg3 hpl3 HO3 hf3 HO2 HB2 HX2 hb2
    by_cases h2 : custB (l ++ [h]) = true
    · have h1 : custB l = true := custB_pre h2
      have e2 : Hid (ahOut l h = l ++ [h]) := if_pos h2
      go_wp2_with fail
      refine (HA _ (HR.out.below HB3.out)).out.mono ?_
      rintro e w4 ⟨rfl, hb4⟩
      rw [h1]
      have HO4 := Lib.hid (own_below HO.out hb4)
      have B4 := Lib.hid (Below.transB HB3.out (Nat.le_refl _) hb4)
      clear hb4
      go_wp2_with fail
      refine (HA2 A3 c3 _ (Rd.of_own HO4.out)).out.mono ?_
      rintro e w5 ⟨rfl, hb5⟩
      rw [h2]
      have HO5 := Lib.hid (own_below HO4.out hb5)
      have B5 := Lib.hid (Below.transB B4.out (Nat.le_refl _) hb5)
      clear hb5
      go_wp2
      go_ret2
      exact ⟨_, by rw [h2]; rfl, by rw [e2.out]; exact ⟨A3, c3, by rw [hlen]; rfl, by rw [hlen]; exact HO5.out⟩, B5.out⟩
    · have h2' : custB (l ++ [h]) = false := by simpa using h2
      have e2 : Hid (ahOut l h = []) := if_neg h2
      by_cases h1 : custB l = true
      · go_wp2_with fail
        refine (HA _ (HR.out.below HB3.out)).out.mono ?_
        rintro e w4 ⟨rfl, hb4⟩
        rw [h1]
        have HO4 := Lib.hid (own_below HO.out hb4)
        have B4 := Lib.hid (Below.transB HB3.out (Nat.le_refl _) hb4)
        clear hb4
        go_wp2_with fail
        refine (HA2 A3 c3 _ (Rd.of_own HO4.out)).out.mono ?_
        rintro e w5 ⟨rfl, hb5⟩
        rw [h2']
        have B5 := Lib.hid (Below.transB B4.out (Nat.le_refl _) hb5)
        clear hb5
        go_wp2
        go_ret2
        exact ⟨_, by rw [h2']; rfl, by rw [e2.out]; exact SlHand.nil _ _, B5.out⟩
      · go_wp2_with fail
        refine (HA _ (HR.out.below HB3.out)).out.mono ?_
        rintro e w4 ⟨rfl, hb4⟩
        rw [show custB l = false by simpa using h1]
        have B4 := Lib.hid (Below.transB HB3.out (Nat.le_refl _) hb4)
        clear hb4
        go_wp2
        go_ret2
        exact ⟨_, by rw [h2']; rfl, by rw [e2.out]; exact SlHand.nil _ _, B4.out⟩

set_option maxHeartbeats 2000000 in
theorem specAppendHand_any (l : List Hand) (h : Hand) (A : Option Addr) (c : Nat) (hA : A = none → c = 0) (hl : l.length ≤ 1048576) (w : World) (hr : Rd w 6 A l.length (cellsHand l)) :
    Calls Try.prog 21 #[.slice A l.length c, aggHand h] w fun e w' => ∃ v, e = .returned (.tuple #[v, .bool (custB (l ++ [h]))]) ∧ SlHand w.heap.size w' (ahOut l h) v ∧ Below w.heap.size w w' := by
  obtain ⟨i0, hi, hz0, hz1, hz2⟩ := info_parts infoHand
  have HA2 := fun A' c' W k => Lib.hid (l17Good_any (l ++ [h]) A' c' (by simp; omega) W k)
  have HR := Lib.hid hr
  have X0 := Lib.hid (BXT.new w #[.int .i64 h.record, .int .i64 h.giver, .int .i64 h.taker, .int .i64 h.day, .int .i64 h.sum, .bool h.sealed] 25)
  have hlen : (l ++ [h]).length = l.length + 1 := by simp
  rw [hlen] at HA2
  clear hr
  unfold aggHand
  go_enter Try.func21, Try.ntmps21
  go_wp2_with fail
  obtain ⟨x0, x1, x2, x3, x4, x5⟩ := X0.out.six
  have n0 := World.new_ne (w.alloc (.cells #[.int .i64 h.record, .int .i64 h.giver, .int .i64 h.taker, .int .i64 h.day, .int .i64 h.sum, .bool h.sealed] 25)) ⟨w.heap.size, 0, none⟩ x0
  have n1 := World.new_ne (w.alloc (.cells #[.int .i64 h.record, .int .i64 h.giver, .int .i64 h.taker, .int .i64 h.day, .int .i64 h.sum, .bool h.sealed] 25)) ⟨w.heap.size, 1, none⟩ x1
  have ea := own_empty (B := w.heap.size + 1) (w.alloc (.cells #[.int .i64 h.record, .int .i64 h.giver, .int .i64 h.taker, .int .i64 h.day, .int .i64 h.sum, .bool h.sealed] 25)).drew 25 6 (by simp only [World.size_alloc, drew_size]; omega)
  have eb := own_empty (B := w.heap.size + 1) ((w.alloc (.cells #[.int .i64 h.record, .int .i64 h.giver, .int .i64 h.taker, .int .i64 h.day, .int .i64 h.sum, .bool h.sealed] 25)).drew.alloc (.cells #[.int .i64 h.record, .int .i64 h.giver, .int .i64 h.taker, .int .i64 h.day, .int .i64 h.sum, .bool h.sealed] 25)) 25 6 (by simp only [World.size_alloc, drew_size]; omega)
  have na := BX.new ((w.alloc (.cells #[.int .i64 h.record, .int .i64 h.giver, .int .i64 h.taker, .int .i64 h.day, .int .i64 h.sum, .bool h.sealed] 25)).drew.alloc (.cells #[] 25)) #[.int .i64 h.record, .int .i64 h.giver, .int .i64 h.taker, .int .i64 h.day, .int .i64 h.sum, .bool h.sealed] 25
  have nb := (BX.new (w.alloc (.cells #[.int .i64 h.record, .int .i64 h.giver, .int .i64 h.taker, .int .i64 h.day, .int .i64 h.sum, .bool h.sealed] 25)).drew #[.int .i64 h.record, .int .i64 h.giver, .int .i64 h.taker, .int .i64 h.day, .int .i64 h.sum, .bool h.sealed] 25).alloc (.cells #[] 25)
  simp only [World.size_alloc, drew_size] at ea eb na nb
  have EA := Lib.hid ea
  have EB := Lib.hid eb
  have NA := Lib.hid na
  have NB := Lib.hid nb
  clear ea eb na nb
  go_region_held3 (fun w' => w'.cell? ⟨w.heap.size, 0, none⟩ = some (.int .i64 h.record) ∧ w'.cell? ⟨w.heap.size, 1, none⟩ = some (.int .i64 h.giver) ∧ w'.cell? ⟨w.heap.size, 2, none⟩ = some (.int .i64 h.taker) ∧ w'.cell? ⟨w.heap.size, 3, none⟩ = some (.int .i64 h.day) ∧ w'.cell? ⟨w.heap.size, 4, none⟩ = some (.int .i64 h.sum) ∧ w'.cell? ⟨w.heap.size, 5, none⟩ = some (.bool h.sealed)) (go_keep)
    (first
      | (refine step_appendT rfl _ _ 31 rfl (w.heap.size + 1) 25 i0 (.agg #[.int .i64 0, .int .i64 0, .int .i64 0, .int .i64 0, .int .i64 0, .bool false]) 6 48 Try.underlying31 hi hz0 hz1 hz2 rfl (by decide) (by decide) _ 0 0 [] rfl A l.length c (cellsHand l) rfl l.length (Nat.zero_add _) ?_ ?_ ?_ hA (one_cellsHand l) (by omega) ?_
         · first
           | exact EA.out
           | exact EA.out.alloc _
           | exact EB.out
         · exact HR.out.below (show Below w.heap.size w _ by go_grown)
         · (first | assumption | omega | (simp only [World.size_alloc, drew_size]; omega))
         intro A2 c2 w2 hown2 hg2 hpl2
         rw [List.nil_append] at hown2
         have hs2' : w.heap.size + 1 ≤ w2.heap.size := Nat.le_trans (by (first | assumption | omega | (simp only [World.size_alloc, drew_size]; omega))) hg2.size
         have hs2 : w.heap.size ≤ w2.heap.size := by omega
         have HO2 := Lib.hid hown2
         have HB2 : Hid (Below w.heap.size w w2) := Lib.hid (Below.grown (show Below w.heap.size w _ by go_grown) hg2 (by (first | assumption | omega | (simp only [World.size_alloc, drew_size]; omega))) (fun j hj => by simp [Value.ownBlock] at hj; omega))
         have HX2 : Hid (BXT 25 w2 w.heap.size [.int .i64 h.record, .int .i64 h.giver, .int .i64 h.taker, .int .i64 h.day, .int .i64 h.sum, .bool h.sealed]) := by
           first
           | exact Lib.hid (BXT.grown (w := (w.alloc (.cells #[.int .i64 h.record, .int .i64 h.giver, .int .i64 h.taker, .int .i64 h.day, .int .i64 h.sum, .bool h.sealed] 25)).drew.alloc (.cells #[] 25)) (BXT.alloc (w := (w.alloc (.cells #[.int .i64 h.record, .int .i64 h.giver, .int .i64 h.taker, .int .i64 h.day, .int .i64 h.sum, .bool h.sealed] 25)).drew) X0.out (.cells #[] 25)) hg2 (by simp [Value.ownBlock] <;> omega))
           | exact Lib.hid (BXT.grown (w := ((w.alloc (.cells #[.int .i64 h.record, .int .i64 h.giver, .int .i64 h.taker, .int .i64 h.day, .int .i64 h.sum, .bool h.sealed] 25)).drew.alloc (.cells #[] 25)).alloc (.cells #[.int .i64 h.record, .int .i64 h.giver, .int .i64 h.taker, .int .i64 h.day, .int .i64 h.sum, .bool h.sealed] 25)) (BXT.alloc (BXT.alloc (w := (w.alloc (.cells #[.int .i64 h.record, .int .i64 h.giver, .int .i64 h.taker, .int .i64 h.day, .int .i64 h.sum, .bool h.sealed] 25)).drew) X0.out (.cells #[] 25)) (.cells #[.int .i64 h.record, .int .i64 h.giver, .int .i64 h.taker, .int .i64 h.day, .int .i64 h.sum, .bool h.sealed] 25)) hg2 (by simp [Value.ownBlock] <;> omega))
           | exact Lib.hid (BXT.grown (w := ((w.alloc (.cells #[.int .i64 h.record, .int .i64 h.giver, .int .i64 h.taker, .int .i64 h.day, .int .i64 h.sum, .bool h.sealed] 25)).drew.alloc (.cells #[.int .i64 h.record, .int .i64 h.giver, .int .i64 h.taker, .int .i64 h.day, .int .i64 h.sum, .bool h.sealed] 25)).alloc (.cells #[] 25)) (BXT.alloc (BXT.alloc (w := (w.alloc (.cells #[.int .i64 h.record, .int .i64 h.giver, .int .i64 h.taker, .int .i64 h.day, .int .i64 h.sum, .bool h.sealed] 25)).drew) X0.out (.cells #[.int .i64 h.record, .int .i64 h.giver, .int .i64 h.taker, .int .i64 h.day, .int .i64 h.sum, .bool h.sealed] 25)) (.cells #[] 25)) hg2 (by simp [Value.ownBlock] <;> omega))
         clear x0 x1 x2 x3 x4 x5
         obtain ⟨x0, x1, x2, x3, x4, x5⟩ := HX2.out.six)
      | (refine step_appendT rfl _ _ 31 rfl (w.heap.size + 1) 25 i0 (.agg #[.int .i64 0, .int .i64 0, .int .i64 0, .int .i64 0, .int .i64 0, .bool false]) 6 48 Try.underlying31 hi hz0 hz1 hz2 rfl (by decide) (by decide) A2 l.length c2 (cellsHand l) rfl _ 1 _ [.int .i64 h.record, .int .i64 h.giver, .int .i64 h.taker, .int .i64 h.day, .int .i64 h.sum, .bool h.sealed] rfl (l.length + 1) rfl ?_ ?_ ?_ (fun h => by cases h) (by simp [Value.oneCell']) (by omega) ?_
         · first
           | exact HO2.out
           | exact HO2.out.alloc _
         · first
           | exact (NA.out.grown hg2 (by simp [Value.ownBlock] <;> omega)).rdn (by simp)
           | exact (NB.out.grown hg2 (by simp [Value.ownBlock] <;> omega)).rdn (by simp)
           | exact (BX.new w2 #[.int .i64 h.record, .int .i64 h.giver, .int .i64 h.taker, .int .i64 h.day, .int .i64 h.sum, .bool h.sealed] 25).rdn (by simp)
         · (first | assumption | omega | (simp only [World.size_alloc, drew_size]; omega))
         intro A3 c3 w3 hown3 hg3 hpl3
         have HO3 := Lib.hid hown3
         have hf3 := own_far HO2.out (Nat.lt_succ_self w.heap.size)
         have HX3 : Hid (BXT 25 w3 w.heap.size [.int .i64 h.record, .int .i64 h.giver, .int .i64 h.taker, .int .i64 h.day, .int .i64 h.sum, .bool h.sealed]) := by
           first
           | exact Lib.hid (HX2.out.grown hg3 hf3)
           | exact Lib.hid ((HX2.out.alloc (.cells #[.int .i64 h.record, .int .i64 h.giver, .int .i64 h.taker, .int .i64 h.day, .int .i64 h.sum, .bool h.sealed] 25)).grown hg3 hf3)
         have HB3 : Hid (Below w.heap.size w w3) := by
           first
           | exact Lib.hid (Below.row HB2.out HO2.out hg3 (Nat.le_succ _) hs2)
           | exact Lib.hid (Below.row (Below.alloc HB2.out hs2 (.cells #[.int .i64 h.record, .int .i64 h.giver, .int .i64 h.taker, .int .i64 h.day, .int .i64 h.sum, .bool h.sealed] 25)) (HO2.out.alloc (.cells #[.int .i64 h.record, .int .i64 h.giver, .int .i64 h.taker, .int .i64 h.day, .int .i64 h.sum, .bool h.sealed] 25)) hg3 (Nat.le_succ _) (by (first | assumption | omega | (simp only [World.size_alloc, drew_size]; omega))))
         clear x0 x1 x2 x3 x4 x5
         obtain ⟨x0, x1, x2, x3, x4, x5⟩ := HX3.out.six))
  all_goals
    have HO := Lib.hid (own_base (base' := w.heap.size) HO3.out (Nat.le_succ _))
    rw [← cellsHand_snoc] at HO
    clear hown3 hg3 hpl3 HO3 hf3 HO2 HB2 HX2 hown2 hg2 hpl2 EA EB NA NB
    by_cases h2 : custB (l ++ [h]) = true
    · have h1 : custB l = true := custB_pre h2
      have e2 : Hid (ahOut l h = l ++ [h]) := if_pos h2
      go_wp2_with fail
      refine (HA2 A3 c3 _ (Rd.of_own HO.out)).out.mono ?_
      rintro e w5 ⟨rfl, hb5⟩
      rw [h2]
      have HO5 := Lib.hid (own_below HO.out hb5)
      have B5 := Lib.hid (Below.transB HB3.out (Nat.le_refl _) hb5)
      clear hb5
      go_wp2
      go_ret2
      exact ⟨_, by rw [h2]; rfl, by rw [e2.out]; exact ⟨A3, c3, by rw [hlen]; rfl, by rw [hlen]; exact HO5.out⟩, B5.out⟩
    · have h2' : custB (l ++ [h]) = false := by simpa using h2
      have e2 : Hid (ahOut l h = []) := if_neg h2
      go_wp2_with fail
      refine (HA2 A3 c3 _ (Rd.of_own HO.out)).out.mono ?_
      rintro e w5 ⟨rfl, hb5⟩
      rw [h2']
      have B5 := Lib.hid (Below.transB HB3.out (Nat.le_refl _) hb5)
      have E6 := Lib.hid (own_empty (B := w.heap.size) w5 25 6 B5.out.size)
      have B6 := Lib.hid (Below.alloc B5.out B5.out.size (.cells #[] 25))
      clear hb5
      go_wp2
      go_ret2
      exact ⟨_, by rw [h2']; rfl, by rw [e2.out]; exact ⟨_, _, rfl, E6.out⟩, B6.out⟩

end Go.Proofs.Ytcneipheipneaaa
