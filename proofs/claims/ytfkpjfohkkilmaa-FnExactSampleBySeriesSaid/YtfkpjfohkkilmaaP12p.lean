/-
  A number put to its place by the reference; a draw's numbers in ascending order by the reference.
  Conditions: those written at each theorem.
-/
import Derived.Test.YtfkpjfohkkilmaaL12c
import Derived.Test.YtfkpjfohkkilmaaBx
import Derived.Deep.RegionHeld3
namespace Go.Proofs.Ytfkpjfohkkilmaa
open Go.RowKit Go.BigFrame
set_option maxRecDepth 100000

theorem rd_suffix_if' {w : World} {g n i : Nat} {l : List Int} (h : Rd w 1 (some ⟨g, 0, none⟩) n (cellsI l)) (hi : i ≤ n) : Rd w 1 (some ⟨g, i, none⟩) (n - i) (cellsI (l.drop i)) := by
  have h2 := rd_suffix h hi
  rw [Nat.zero_add] at h2
  have e : (cellsI l).drop i = cellsI (l.drop i) := by simp [cellsI]
  rwa [e] at h2
theorem rd_prefix' {w : World} {g n i : Nat} {l : List Int} (h : Rd w 1 (some ⟨g, 0, none⟩) n (cellsI l)) (hi : i ≤ n) : Rd w 1 (some ⟨g, 0, none⟩) i (cellsI (l.take i)) := by
  have h2 := rd_prefix h hi
  simpa [cellsI] using h2
theorem rd_zero {w : World} {g n : Nat} {l : List Int} (h : Rd w 1 (some ⟨g, 0, none⟩) n (cellsI l)) : Rd w 1 (some ⟨g, 0, none⟩) 0 (cellsI (l.drop n)) := by
  refine ⟨?_, fun h => absurd h (by omega)⟩
  have := h.1
  simp [cellsI] at this ⊢; omega

theorem rd_zero' {w : World} {g n : Nat} {l : List Int} (h : Rd w 1 (some ⟨g, 0, none⟩) n (cellsI l)) : Rd w 1 (some ⟨g, n, none⟩) 0 (cellsI (l.drop n)) := ⟨(rd_zero h).1, fun h => absurd h (by omega)⟩
theorem putF_at {l : List Int} {x : Int} {k : Nat} (h1 : l.takeWhile (fun y => decide (y < x)) = l.take k ++ (l.drop k).takeWhile (fun y => decide (y < x)))
    (h2 : l.dropWhile (fun y => decide (y < x)) = (l.drop k).dropWhile (fun y => decide (y < x))) (h3 : ∀ h : k < l.length, ¬ l[k] < x) : putF x l = l.take k ++ x :: l.drop k := by
  unfold putF
  rw [h1, h2]
  by_cases hk : k < l.length
  · rw [List.drop_eq_getElem_cons hk, List.takeWhile_cons, List.dropWhile_cons]
    simp [h3 hk]
  · rw [List.drop_of_length_le (by omega)]; simp

set_option maxHeartbeats 1000000 in
theorem l1Put_any (l : List Int) (x : Int) (n g c : Nat) (hn : l.length = n) (hl : n ≤ 1000000) (hx : x ∉ l) (hc : n ≤ c ∧ c ≤ 9223372036854775807) (w : World) (hr : Rd w 1 (some ⟨g, 0, none⟩) n (cellsI l)) (hgw : g < w.heap.size) :
    Calls Try.prog 36 #[.slice (some ⟨g, 0, none⟩) n c, .int .i64 x] w fun e w' => ∃ g' c', e = .returned (.slice (some ⟨g', 0, none⟩) (n + 1) c') ∧ w'.ownsRow w.heap.size 3 1 (.slice (some ⟨g', 0, none⟩) (n + 1) c') (n + 1) (cellsI (putF x l)) ∧ Below w.heap.size w w' := by
  obtain ⟨i0, hi, hz0, hz1, hz2⟩ := info_parts infoI
  have HR := Lib.hid hr
  have HN := Lib.hid hn
  clear hr hn
  go_enter Try.func36, Try.ntmps36
  go_wp2
  go_loop [5] (fun v => ∃ k : Nat, k ≤ n ∧ v = .int .i64 k ∧ Hid (l.takeWhile (fun y => decide (y < x)) = l.take k ++ (l.drop k).takeWhile (fun y => decide (y < x))) ∧ Hid (l.dropWhile (fun y => decide (y < x)) = (l.drop k).dropWhile (fun y => decide (y < x)))) (fun v => n - (intOf v).toNat)
  case atStart => exact ⟨0, Nat.zero_le _, rfl, by show _ = _; simp, by show _ = _; simp⟩
  case round =>
    obtain ⟨k, hk, rfl, K1, K2⟩ := hrel
    have hfin : (∀ h : k < l.length, ¬ l[k] < x) → Hid (cellsI (putF x l) = cellsI (l.take k) ++ [.int .i64 x] ++ cellsI (l.drop k)) := fun h3 => by
      show _ = _; rw [putF_at K1.out K2.out h3]; simp [cellsI]
    have HF := Lib.hid hfin
    clear hfin
    have hk0 : (0 : Int) ≤ (k : Int) := by omega
    have hkn : (k : Int) ≤ (n : Int) := by omega
    have hkc : (k : Int) ≤ (c : Int) := by omega
    have hnc : (n : Int) ≤ (c : Int) := by omega
    have step : k < n → (h : k < l.length) → l[k] < x → Hid (l.takeWhile (fun y => decide (y < x)) = l.take (k + 1) ++ (l.drop (k + 1)).takeWhile (fun y => decide (y < x))) ∧ Hid (l.dropWhile (fun y => decide (y < x)) = (l.drop (k + 1)).dropWhile (fun y => decide (y < x))) := fun _ h hp => by
      constructor
      · show _ = _; rw [K1.out, List.drop_eq_getElem_cons h, List.takeWhile_cons, if_pos (by simpa using hp), List.take_succ_eq_append_getElem h]; simp only [List.append_assoc, List.singleton_append]
      · show _ = _; rw [K2.out, List.drop_eq_getElem_cons h, List.dropWhile_cons, if_pos (by simpa using hp)]
    have ST := Lib.hid step
    clear step
    have main : (∀ h : k < l.length, ¬ l[k] < x) → True := fun _ => trivial
    clear main
    by_cases hlt : k < n
    · have hkl : k < l.length := by have := HN.out; omega
      have hlt' : ((k : Int) < (n : Int)) := by omega
      obtain ⟨gb, go, hbo, hgb, hcell⟩ := HR.out.2 (by omega)
      cases hbo
      have c0 := cellsI_at hcell hkl
      rw [Nat.zero_add] at c0
      clear hcell
      by_cases hp : l[k] < x
      · obtain ⟨S1, S2⟩ := ST.out hlt hkl hp
        clear K1 K2 ST HF
        go_wp2
        go_round
        case rel => exact ⟨k + 1, by omega, by go_num, S1, S2⟩
        case measure => simp [intOf]; omega
      · have hne : (l[k] == x) = false := by
          rw [beq_eq_false_iff_ne]; intro he; exact hx (he ▸ List.getElem_mem hkl)
        have F := HF.out (fun _ => hp)
        clear K1 K2 ST HF
        go_wp2
        have hck : ¬ c = k := by omega
        have HP := Lib.hid (rd_prefix' HR.out hk)
        have ee := own_empty (B := w.heap.size) (w.drew.alloc (.cells #[.int .i64 x] 3)) 3 1 (by simp only [World.size_alloc, drew_size]; omega)
        have na := BX.new (w.drew.alloc (.cells #[] 3)) #[.int .i64 x] 3
        simp only [World.size_alloc, drew_size] at ee na
        have nb : BX ((w.drew.alloc (.cells #[.int .i64 x] 3)).alloc (.cells #[] 3)) w.heap.size [.int .i64 x] := (BX.new w.drew #[.int .i64 x] 3).alloc (.cells #[] 3)
        have EE := Lib.hid ee
        have NA := Lib.hid na
        have NB := Lib.hid nb
        clear ee na nb
        go_region_held3 (fun w' => w.heap.size ≤ w'.heap.size) (first | assumption | omega | (simp only [World.size_alloc, drew_size]; omega))
          (first
            | (refine step_appendT rfl _ _ 24 rfl w.heap.size 3 i0 (.int .i64 0) 1 8 Try.underlying24 hi hz0 hz1 hz2 rfl (by decide) (by decide) _ 0 0 [] rfl _ k _ (cellsI (l.take k)) rfl k (Nat.zero_add k) ?_ ?_ ?_ (fun h => by cases h) (one_cellsI _) (by omega) ?_
               · first
                 | exact own_empty w.drew _ _ (Nat.le_refl _)
                 | exact (own_empty w.drew _ _ (Nat.le_refl _)).alloc _
                 | exact EE.out
               · refine Rd.below HP.out ?_
                 go_grown
               · (first | assumption | omega | (simp only [World.size_alloc, drew_size]; omega))
               intro A3 c3 w3 hown3 hg3 hpl3
               rw [List.nil_append] at hown3
               have hs3 : w.heap.size ≤ w3.heap.size := Nat.le_trans (by (first | assumption | omega | (simp only [World.size_alloc, drew_size]; omega))) hg3.size
               have hf3 := own_far (g := g) hown3 hgw
               have HR3 := Lib.hid (Rd.grown (Rd.below HR.out (show Below w.heap.size w _ by go_grown)) hg3 (by simp [Value.ownBlock]; omega))
               have HB3 : Hid (Below w.heap.size w w3) := Lib.hid (Below.grown (show Below w.heap.size w _ by go_grown) hg3 (by (first | assumption | omega | (simp only [World.size_alloc, drew_size]; omega))) (fun j hj => by simp [Value.ownBlock] at hj; omega)))
            | (refine step_appendT rfl _ _ 24 rfl w.heap.size 3 i0 (.int .i64 0) 1 8 Try.underlying24 hi hz0 hz1 hz2 rfl (by decide) (by decide) A3 k c3 (cellsI (l.take k)) rfl _ 1 _ [.int .i64 x] rfl (k + 1) rfl ?_ ?_ ?_ (fun h => by cases h) (by simp [Value.oneCell']) (by omega) ?_
               · first
                 | exact hown3
                 | exact hown3.alloc _
               · first
                 | exact (NA.out.grown hg3 (by simp [Value.ownBlock])).rd1
                 | exact (NB.out.grown hg3 (by simp [Value.ownBlock])).rd1
                 | exact (BX.new w3 #[.int .i64 x] 3).rd1
               · (first | assumption | omega | (simp only [World.size_alloc, drew_size]; omega))
               intro A4 c4 w4 hown4 hg4 hpl4
               have hs4 : w.heap.size ≤ w4.heap.size := Nat.le_trans (by (first | assumption | omega | (simp only [World.size_alloc, drew_size]; omega))) hg4.size
               have HR4 : Hid (Rd w4 1 (some ⟨g, 0, none⟩) n (cellsI l)) := by
                 first
                 | exact Lib.hid (HR3.out.grown hg4 hf3)
                 | exact Lib.hid ((HR3.out.below ((Below.refl _ _).alloc (Nat.le_refl _) (.cells #[.int .i64 x] 3))).grown hg4 hf3)
               have HB4 : Hid (Below w.heap.size w w4) := by
                 first
                 | exact Lib.hid (Below.row HB3.out hown3 hg4 (Nat.le_refl _) hs3)
                 | exact Lib.hid (Below.row (Below.alloc HB3.out hs3 (.cells #[.int .i64 x] 3)) (hown3.alloc (.cells #[.int .i64 x] 3)) hg4 (Nat.le_refl _) (by (first | assumption | omega | (simp only [World.size_alloc, drew_size]; omega)))))
            | (refine step_appendT rfl _ _ 24 rfl w.heap.size 3 i0 (.int .i64 0) 1 8 Try.underlying24 hi hz0 hz1 hz2 rfl (by decide) (by decide) A4 (k + 1) c4 (cellsI (l.take k) ++ [.int .i64 x]) rfl _ (n - k) _ (cellsI (l.drop k)) rfl (n + 1) (by omega) hown4 ?_ hs4 (fun h => by cases h) (one_cellsI _) (by omega) ?_
               · exact rd_suffix_if' HR4.out hk
               intro A5 c5 w5 hown5 hg5 hpl5
               have hs5 : w.heap.size ≤ w5.heap.size := Nat.le_trans hs4 hg5.size
               have HB5 := Lib.hid (Below.row HB4.out hown4 hg5 (Nat.le_refl _) hs4)
               have HO5 := Lib.hid hown5))
        all_goals
          obtain ⟨g5, rfl⟩ := own_some HO5.out (by omega)
          clear hown5 hown4 hown3 hg3 hg4 hg5 hpl3 hpl4 hpl5 EE NA NB hf3
          go_wp2
          go_ret
          exact ⟨g5, c5, rfl, by rw [F.out]; exact HO5.out, HB5.out⟩
    · have F := HF.out (fun h => absurd h (by have := HN.out; omega))
      have hge : ¬ ((k : Int) < (n : Int)) := by omega
      clear K1 K2 ST HF
      obtain rfl : k = n := by omega
      have hz : k - k = 0 := Nat.sub_self k
      by_cases hck : c = k
      · subst hck
        go_wp2
        have HP := Lib.hid (rd_prefix' HR.out hk)
        have ee := own_empty (B := w.heap.size) (w.drew.alloc (.cells #[.int .i64 x] 3)) 3 1 (by simp only [World.size_alloc, drew_size]; omega)
        have na := BX.new (w.drew.alloc (.cells #[] 3)) #[.int .i64 x] 3
        simp only [World.size_alloc, drew_size] at ee na
        have nb : BX ((w.drew.alloc (.cells #[.int .i64 x] 3)).alloc (.cells #[] 3)) w.heap.size [.int .i64 x] := (BX.new w.drew #[.int .i64 x] 3).alloc (.cells #[] 3)
        have EE := Lib.hid ee
        have NA := Lib.hid na
        have NB := Lib.hid nb
        clear ee na nb
        go_region_held3 (fun w' => w.heap.size ≤ w'.heap.size) (first | assumption | omega | (simp only [World.size_alloc, drew_size]; omega))
          (first
            | (refine step_appendT rfl _ _ 24 rfl w.heap.size 3 i0 (.int .i64 0) 1 8 Try.underlying24 hi hz0 hz1 hz2 rfl (by decide) (by decide) _ 0 0 [] rfl _ c _ (cellsI (l.take c)) rfl c (Nat.zero_add c) ?_ ?_ ?_ (fun h => by cases h) (one_cellsI _) (by omega) ?_
               · first
                 | exact own_empty w.drew _ _ (Nat.le_refl _)
                 | exact (own_empty w.drew _ _ (Nat.le_refl _)).alloc _
                 | exact EE.out
               · refine Rd.below HP.out ?_
                 go_grown
               · (first | assumption | omega | (simp only [World.size_alloc, drew_size]; omega))
               intro A3 c3 w3 hown3 hg3 hpl3
               rw [List.nil_append] at hown3
               have hs3 : w.heap.size ≤ w3.heap.size := Nat.le_trans (by (first | assumption | omega | (simp only [World.size_alloc, drew_size]; omega))) hg3.size
               have hf3 := own_far (g := g) hown3 hgw
               have HR3 := Lib.hid (Rd.grown (Rd.below HR.out (show Below w.heap.size w _ by go_grown)) hg3 (by simp [Value.ownBlock]; omega))
               have HB3 : Hid (Below w.heap.size w w3) := Lib.hid (Below.grown (show Below w.heap.size w _ by go_grown) hg3 (by (first | assumption | omega | (simp only [World.size_alloc, drew_size]; omega))) (fun j hj => by simp [Value.ownBlock] at hj; omega)))
            | (refine step_appendT rfl _ _ 24 rfl w.heap.size 3 i0 (.int .i64 0) 1 8 Try.underlying24 hi hz0 hz1 hz2 rfl (by decide) (by decide) A3 c c3 (cellsI (l.take c)) rfl _ 1 _ [.int .i64 x] rfl (c + 1) rfl ?_ ?_ ?_ (fun h => by cases h) (by simp [Value.oneCell']) (by omega) ?_
               · first
                 | exact hown3
                 | exact hown3.alloc _
               · first
                 | exact (NA.out.grown hg3 (by simp [Value.ownBlock])).rd1
                 | exact (NB.out.grown hg3 (by simp [Value.ownBlock])).rd1
                 | exact (BX.new w3 #[.int .i64 x] 3).rd1
               · (first | assumption | omega | (simp only [World.size_alloc, drew_size]; omega))
               intro A4 c4 w4 hown4 hg4 hpl4
               have hs4 : w.heap.size ≤ w4.heap.size := Nat.le_trans (by (first | assumption | omega | (simp only [World.size_alloc, drew_size]; omega))) hg4.size
               have HR4 : Hid (Rd w4 1 (some ⟨g, 0, none⟩) c (cellsI l)) := by
                 first
                 | exact Lib.hid (HR3.out.grown hg4 hf3)
                 | exact Lib.hid ((HR3.out.below ((Below.refl _ _).alloc (Nat.le_refl _) (.cells #[.int .i64 x] 3))).grown hg4 hf3)
               have HB4 : Hid (Below w.heap.size w w4) := by
                 first
                 | exact Lib.hid (Below.row HB3.out hown3 hg4 (Nat.le_refl _) hs3)
                 | exact Lib.hid (Below.row (Below.alloc HB3.out hs3 (.cells #[.int .i64 x] 3)) (hown3.alloc (.cells #[.int .i64 x] 3)) hg4 (Nat.le_refl _) (by (first | assumption | omega | (simp only [World.size_alloc, drew_size]; omega)))))
            | (refine step_appendT rfl _ _ 24 rfl w.heap.size 3 i0 (.int .i64 0) 1 8 Try.underlying24 hi hz0 hz1 hz2 rfl (by decide) (by decide) A4 (c + 1) c4 (cellsI (l.take c) ++ [.int .i64 x]) rfl _ (0) _ (cellsI (l.drop c)) rfl (c + 1) (by omega) hown4 ?_ hs4 (fun h => by cases h) (one_cellsI _) (by omega) ?_
               · exact rd_zero HR4.out
               intro A5 c5 w5 hown5 hg5 hpl5
               have hs5 : w.heap.size ≤ w5.heap.size := Nat.le_trans hs4 hg5.size
               have HB5 := Lib.hid (Below.row HB4.out hown4 hg5 (Nat.le_refl _) hs4)
               have HO5 := Lib.hid hown5))
        all_goals
          obtain ⟨g5, rfl⟩ := own_some HO5.out (by omega)
          clear hown5 hown4 hown3 hg3 hg4 hg5 hpl3 hpl4 hpl5 EE NA NB hf3
          go_wp2
          go_ret
          exact ⟨g5, c5, rfl, by rw [F.out]; exact HO5.out, HB5.out⟩
      · go_wp2
        have HP := Lib.hid (rd_prefix' HR.out hk)
        have ee := own_empty (B := w.heap.size) (w.drew.alloc (.cells #[.int .i64 x] 3)) 3 1 (by simp only [World.size_alloc, drew_size]; omega)
        have na := BX.new (w.drew.alloc (.cells #[] 3)) #[.int .i64 x] 3
        simp only [World.size_alloc, drew_size] at ee na
        have nb : BX ((w.drew.alloc (.cells #[.int .i64 x] 3)).alloc (.cells #[] 3)) w.heap.size [.int .i64 x] := (BX.new w.drew #[.int .i64 x] 3).alloc (.cells #[] 3)
        have EE := Lib.hid ee
        have NA := Lib.hid na
        have NB := Lib.hid nb
        clear ee na nb
        go_region_held3 (fun w' => w.heap.size ≤ w'.heap.size) (first | assumption | omega | (simp only [World.size_alloc, drew_size]; omega))
          (first
            | (refine step_appendT rfl _ _ 24 rfl w.heap.size 3 i0 (.int .i64 0) 1 8 Try.underlying24 hi hz0 hz1 hz2 rfl (by decide) (by decide) _ 0 0 [] rfl _ k _ (cellsI (l.take k)) rfl k (Nat.zero_add k) ?_ ?_ ?_ (fun h => by cases h) (one_cellsI _) (by omega) ?_
               · first
                 | exact own_empty w.drew _ _ (Nat.le_refl _)
                 | exact (own_empty w.drew _ _ (Nat.le_refl _)).alloc _
                 | exact EE.out
               · refine Rd.below HP.out ?_
                 go_grown
               · (first | assumption | omega | (simp only [World.size_alloc, drew_size]; omega))
               intro A3 c3 w3 hown3 hg3 hpl3
               rw [List.nil_append] at hown3
               have hs3 : w.heap.size ≤ w3.heap.size := Nat.le_trans (by (first | assumption | omega | (simp only [World.size_alloc, drew_size]; omega))) hg3.size
               have hf3 := own_far (g := g) hown3 hgw
               have HR3 := Lib.hid (Rd.grown (Rd.below HR.out (show Below w.heap.size w _ by go_grown)) hg3 (by simp [Value.ownBlock]; omega))
               have HB3 : Hid (Below w.heap.size w w3) := Lib.hid (Below.grown (show Below w.heap.size w _ by go_grown) hg3 (by (first | assumption | omega | (simp only [World.size_alloc, drew_size]; omega))) (fun j hj => by simp [Value.ownBlock] at hj; omega)))
            | (refine step_appendT rfl _ _ 24 rfl w.heap.size 3 i0 (.int .i64 0) 1 8 Try.underlying24 hi hz0 hz1 hz2 rfl (by decide) (by decide) A3 k c3 (cellsI (l.take k)) rfl _ 1 _ [.int .i64 x] rfl (k + 1) rfl ?_ ?_ ?_ (fun h => by cases h) (by simp [Value.oneCell']) (by omega) ?_
               · first
                 | exact hown3
                 | exact hown3.alloc _
               · first
                 | exact (NA.out.grown hg3 (by simp [Value.ownBlock])).rd1
                 | exact (NB.out.grown hg3 (by simp [Value.ownBlock])).rd1
                 | exact (BX.new w3 #[.int .i64 x] 3).rd1
               · (first | assumption | omega | (simp only [World.size_alloc, drew_size]; omega))
               intro A4 c4 w4 hown4 hg4 hpl4
               have hs4 : w.heap.size ≤ w4.heap.size := Nat.le_trans (by (first | assumption | omega | (simp only [World.size_alloc, drew_size]; omega))) hg4.size
               have HR4 : Hid (Rd w4 1 (some ⟨g, 0, none⟩) k (cellsI l)) := by
                 first
                 | exact Lib.hid (HR3.out.grown hg4 hf3)
                 | exact Lib.hid ((HR3.out.below ((Below.refl _ _).alloc (Nat.le_refl _) (.cells #[.int .i64 x] 3))).grown hg4 hf3)
               have HB4 : Hid (Below w.heap.size w w4) := by
                 first
                 | exact Lib.hid (Below.row HB3.out hown3 hg4 (Nat.le_refl _) hs3)
                 | exact Lib.hid (Below.row (Below.alloc HB3.out hs3 (.cells #[.int .i64 x] 3)) (hown3.alloc (.cells #[.int .i64 x] 3)) hg4 (Nat.le_refl _) (by (first | assumption | omega | (simp only [World.size_alloc, drew_size]; omega)))))
            | (refine step_appendT rfl _ _ 24 rfl w.heap.size 3 i0 (.int .i64 0) 1 8 Try.underlying24 hi hz0 hz1 hz2 rfl (by decide) (by decide) A4 (k + 1) c4 (cellsI (l.take k) ++ [.int .i64 x]) rfl _ (0) _ (cellsI (l.drop k)) rfl (k + 1) (by omega) hown4 ?_ hs4 (fun h => by cases h) (one_cellsI _) (by omega) ?_
               · exact rd_zero' HR4.out
               intro A5 c5 w5 hown5 hg5 hpl5
               have hs5 : w.heap.size ≤ w5.heap.size := Nat.le_trans hs4 hg5.size
               have HB5 := Lib.hid (Below.row HB4.out hown4 hg5 (Nat.le_refl _) hs4)
               have HO5 := Lib.hid hown5))
        all_goals
          obtain ⟨g5, rfl⟩ := own_some HO5.out (by omega)
          clear hown5 hown4 hown3 hg3 hg4 hg5 hpl3 hpl4 hpl5 EE NA NB hf3
          go_wp2
          go_ret
          exact ⟨g5, c5, rfl, by rw [F.out]; exact HO5.out, HB5.out⟩

end Go.Proofs.Ytfkpjfohkkilmaa
