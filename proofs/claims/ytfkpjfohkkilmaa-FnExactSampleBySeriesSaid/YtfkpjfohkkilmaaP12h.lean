/-
  A draw by the reference.
  Conditions: those written at each theorem.
-/
import Derived.Test.YtfkpjfohkkilmaaP12g
namespace Go.Proofs.Ytfkpjfohkkilmaa
open Go.RowKit Go.BigFrame
set_option maxRecDepth 100000

theorem rd_prefix {w : World} {sz g o n i : Nat} {xs : List Value} (h : Rd w sz (some ⟨g, o, none⟩) n xs) (hi : i ≤ n) : Rd w sz (some ⟨g, o, none⟩) i (xs.take (i * sz)) := by
  refine ⟨?_, fun hi0 => ?_⟩
  · have := h.1
    have h2 : i * sz ≤ n * sz := Nat.mul_le_mul_right _ hi
    simp; omega
  · obtain ⟨b, o', he, hb, hc⟩ := h.2 (by omega)
    refine ⟨b, o', he, hb, fun j u hu => hc j u ?_⟩
    rw [List.getElem?_take] at hu
    split at hu
    · exact hu
    · cases hu
theorem rd_suffix {w : World} {g o n i : Nat} {xs : List Value} (h : Rd w 1 (some ⟨g, o, none⟩) n xs) (hi : i ≤ n) : Rd w 1 (some ⟨g, o + i, none⟩) (n - i) (xs.drop i) := by
  refine ⟨?_, fun hi0 => ?_⟩
  · have := h.1
    simp; omega
  · obtain ⟨b, o', he, hb, hc⟩ := h.2 (by omega)
    cases he
    refine ⟨g, o + i, rfl, hb, fun j u hu => ?_⟩
    rw [List.getElem?_drop] at hu
    rw [Nat.add_assoc]
    exact hc _ u hu

theorem rd_suffix_if {w : World} {g n c i : Nat} {l : List Int} (h : Rd w 1 (some ⟨g, 0, none⟩) n (cellsI l)) (hi : i < n) (hc : n ≤ c) :
    Rd w 1 (if c = i + 1 then some ⟨g, 0, none⟩ else some ⟨g, i + 1, none⟩) (n - (i + 1)) (cellsI (l.drop (i + 1))) := by
  have h2 := rd_suffix h (show i + 1 ≤ n by omega)
  rw [Nat.zero_add] at h2
  have e : (cellsI l).drop (i + 1) = cellsI (l.drop (i + 1)) := by simp [cellsI]
  rw [e] at h2
  split
  · exact ⟨h2.1, fun h => absurd h (by omega)⟩
  · exact h2

theorem rd_suffix_neg {w : World} {g n i : Nat} {l : List Int} (h : Rd w 1 (some ⟨g, 0, none⟩) n (cellsI l)) (hi : i < n) :
    Rd w 1 (some ⟨g, i + 1, none⟩) (n - (i + 1)) (cellsI (l.drop (i + 1))) := by
  have h2 := rd_suffix h (show i + 1 ≤ n by omega)
  rw [Nat.zero_add] at h2
  have e : (cellsI l).drop (i + 1) = cellsI (l.drop (i + 1)) := by simp [cellsI]
  rwa [e] at h2
theorem rd_suffix_pos {w : World} {g n i : Nat} {l : List Int} (h : Rd w 1 (some ⟨g, 0, none⟩) n (cellsI l)) (hi : n = i + 1) :
    Rd w 1 (some ⟨g, 0, none⟩) 0 (cellsI (l.drop (i + 1))) :=
  ⟨by have := h.1; simp [cellsI] at this ⊢; omega, fun h => absurd h (by omega)⟩

theorem l1Own_at (l : List Int) (m : Nat) (hm : l.length = m) (A : Option Addr) (c : Nat) (w : World) (hr : Rd w 1 A m (cellsI l)) (hA : A = none → c = 0) (hl : m ≤ 1048576) :
    Calls Try.prog 32 #[.slice A m c] w fun e w' => ∃ A' c', e = .returned (.slice A' m c') ∧ w'.ownsRow w.heap.size 3 1 (.slice A' m c') m (cellsI l) ∧ Below w.heap.size w w' := by
  subst hm
  refine (l1Own_any l A c w hr hA hl).mono ?_
  rintro e w' ⟨_, rfl, ⟨A', c', rfl, ho⟩, hb⟩
  exact ⟨A', c', rfl, ho, hb⟩

set_option maxHeartbeats 1000000 in
theorem l12Take_any (l : List Int) (n : Nat) (s : Int) (A : Option Addr) (c : Nat) (w : World) (hr : Rd w 1 A l.length (cellsI l)) (hA : A = none → c = 0) (hl : l.length ≤ 20) (hn : n ≤ l.length) (hs : 0 ≤ s ∧ s ≤ 99999) :
    Calls Try.prog 18 #[.slice A l.length c, .int .i64 n, .int .i64 s] w
      fun e w' => ∃ v, e = .returned (.tuple #[v, .int .i64 (takeF l n s).2]) ∧ SlI w.heap.size w' (takeF l n s).1 v ∧ Below w.heap.size w w' := by
  obtain ⟨i0, hi, hz0, hz1, hz2⟩ := info_parts infoI
  have HC := Lib.hid (l1Own_any l A c w hr hA (by omega))
  clear hr hA
  go_enter Try.func18, Try.ntmps18
  go_wp2_with fail
  refine HC.out.mono ?_
  rintro e w1 ⟨_, rfl, ⟨A1, c1, rfl, ho1⟩, hb1⟩
  have hne0 : ∀ b, (Value.slice A1 l.length c1).ownBlock = some b → (Value.slice (some ⟨w1.heap.size, 0, none⟩) 0 0).ownBlock ≠ some b := fun b hb he => by
    have := (ho1.lt b hb).2
    simp only [Value.ownBlock, Option.some.injEq] at he
    omega
  have HO1 := Lib.hid (ho1.alloc (.cells #[] 3))
  have HE1 := Lib.hid (own_empty (B := w.heap.size) w1 3 1 hb1.size)
  have HB1 := Lib.hid (Below.alloc hb1 hb1.size (.cells #[] 3))
  clear ho1 hb1 HC
  go_wp2_with fail
  go_loopw [2, 8, 9, 10, 11] (fun v2 v8 v9 v10 _ wr => ∃ (k : Nat) (left acc : List Int) (A1 A2 : Option Addr) (c1 c2 : Nat) (t : Int), v2 = .int .i64 t ∧ v8 = .slice A1 left.length c1 ∧ v9 = .slice A2 acc.length c2 ∧ v10 = .int .i64 k ∧ k ≤ n ∧ left.length + k = l.length ∧ Hid (acc.length = k) ∧ (0 ≤ t ∧ t ≤ 99999) ∧
      wr.ownsRow w.heap.size 3 1 (.slice A1 left.length c1) left.length (cellsI left) ∧ wr.ownsRow w.heap.size 3 1 (.slice A2 acc.length c2) acc.length (cellsI acc) ∧ (∀ b, (Value.slice A1 left.length c1).ownBlock = some b → (Value.slice A2 acc.length c2).ownBlock ≠ some b) ∧
      Below w.heap.size w wr ∧ Hid (takeF l n s = (acc ++ (takeF left (n - k) t).1, (takeF left (n - k) t).2))) (fun _ _ _ v10 _ _ => n - (intOf v10).toNat)
  case atStart => exact ⟨0, l, [], A1, some ⟨w1.heap.size, 0, none⟩, c1, 0, s, rfl, rfl, rfl, rfl, Nat.zero_le _, rfl, rfl, hs, HO1.out, HE1.out, hne0, HB1.out, by show _ = _; simp⟩
  case round =>
    clear HO1 HB1 HE1 hne0
    obtain ⟨k, left, acc, A1, A2, c1, c2, t, rfl, rfl, rfl, rfl, hk, hlk, hac, ht, ho1, ho2, hne, hb, K⟩ := hrel
    have hac' : acc.length ≤ 20 := by have := hac.out; omega
    by_cases hlt : k < n
    · have hlt' : ((k : Int) < (n : Int)) := by omega
      obtain ⟨g, rfl, hcap⟩ : ∃ g, A1 = some ⟨g, 0, none⟩ ∧ (left.length ≤ c1 ∧ c1 ≤ 9223372036854775807) := by
        rcases ho1.2 with ⟨_, h0⟩ | ⟨g, cap, cur, hv, _, _, hn', hm', _⟩
        · omega
        · cases hv; exact ⟨g, rfl, hn', hm'⟩
      obtain ⟨i, hi1⟩ : ∃ i : Nat, t % (left.length : Int) = i := ⟨(t % (left.length : Int)).toNat, by have := Int.emod_nonneg t (show (left.length : Int) ≠ 0 by omega); omega⟩
      have hil : i < left.length := by have := Int.emod_lt_of_pos t (show (0 : Int) < (left.length : Int) by omega); omega
      have hmod : t.tmod (left.length : Int) = (i : Int) := by rw [Int.tmod_eq_emod_of_nonneg ht.1]; exact hi1
      have hnz : ¬ (left.length : Int) = 0 := by omega
      have hi0 : (0 : Int) ≤ (i : Int) := by omega
      have hil' : (i : Int) < (left.length : Int) := by omega
      have hic : (i : Int) ≤ (c1 : Int) := by omega
      have hi1' : (0 : Int) ≤ (i : Int) + 1 := by omega
      have hin : (i : Int) + 1 ≤ (left.length : Int) := by omega
      have hnc : (left.length : Int) ≤ (c1 : Int) := by omega
      have hw1 : IntKind.i64.wrap ((i : Int) + 1) = (i : Int) + 1 := by rw [IntKind.wrap_i64]; omega
      obtain ⟨b0, o0, hbo, hgb, hcell⟩ := (Rd.of_own ho1).2 (by omega)
      cases hbo
      have c0 := cellsI_at hcell hil
      rw [Nat.zero_add] at c0
      clear hcell
      obtain ⟨m, hm⟩ : ∃ m, n - k = m + 1 := ⟨n - k - 1, by omega⟩
      have K2 : Hid (takeF l n s = ((acc ++ [left[i]]) ++ (takeF (left.eraseIdx i) (n - (k + 1)) (nextF t)).1, (takeF (left.eraseIdx i) (n - (k + 1)) (nextF t)).2)) := by
        show _ = _; rw [K.out, hm, takeF_step left m t i hil hi1, show n - (k + 1) = m by omega]; simp
      have HB := Lib.hid hb
      have HO1 := Lib.hid ho1
      have HO2 := Lib.hid ho2
      have hsz := hb.size
      clear K hb ho1 ho2 hi1
      go_wp2_with (first
        | (at_builtin; refine wpList_push' rfl _ _ 24 rfl w.heap.size 3 i0 (.int .i64 0) 1 8 Try.underlying24 hi hz0 hz1 hz2 rfl (by decide) (by decide) _ _ _ _ rfl HO2.out #[.int .i64 left[i]] _ rfl rfl (by simp [Value.oneCell']) (by omega) hsz ?_
           intro A3 c3 w2 hown2 hg2 hpl))
      have HW2 := Lib.hid (HO1.out.kept hg2 (.inr fun h => hne g rfl h.symm))
      have HA2 := Lib.hid hown2
      have HB2 := Lib.hid (Below.row HB.out HO2.out hg2 (Nat.le_refl _) hsz)
      clear hown2 hg2 hpl HO1 HO2 HB c0 hgb
      have hti : (left.take i).length = i := by simp; omega
      have hp2 : Rd w2.drew 1 (some ⟨g, 0, none⟩) i (cellsI (left.take i)) := by
        have h9 := (rd_prefix (Rd.of_own HW2.out) (Nat.le_of_lt hil)).below (Below.refl w2.heap.size w2).drew
        simpa [cellsI] using h9
      have HP2 := Lib.hid hp2
      clear hp2
      have hn9 : i + (left.length - (i + 1)) ≤ 1000000000 := by omega
      have HL := fun W h => Lib.hid (l1Own_at (left.take i) i hti (some ⟨g, 0, none⟩) c1 W h (by simp) (by omega))
      have hs2 : w.heap.size ≤ w2.heap.size := HB2.out.size
      have hblk : ∀ b, (Value.slice A3 (acc.length + 1) c3).ownBlock = some b → b < w2.heap.size := fun b hb => (HA2.out.lt b hb).2
      by_cases hc1 : c1 = i + 1
      · subst hc1
        have hic2 : (i : Int) ≤ (i : Int) + 1 := by omega
        have hnc2 : (left.length : Int) ≤ (i : Int) + 1 := by omega
        have hll : Hid (left.length = i + 1) := by show _ = _; omega
        go_region_held3 (fun w' => w.heap.size ≤ w'.heap.size) (first | assumption | (simp [World.drew]; omega))
          (first
            | (go_at_call 32
               refine (HL _ HP2.out).out.mono ?_
               rintro e w3 ⟨A4, c4, rfl, ho3, hb3⟩
               replace hb3 := below_ofDrew (a := w) hb3
               have HW3 := Lib.hid (own_below HW2.out hb3)
               have HA3 := Lib.hid (own_below HA2.out hb3)
               have HB3 := Lib.hid (Below.transB HB2.out (Nat.le_refl _) hb3)
               have HT3 := Lib.hid ho3
               have hs3 : w.heap.size ≤ w3.heap.size := HB3.out.size
               have hs4 : w2.heap.size ≤ w3.heap.size := hb3.size
               clear ho3 hb3 HW2 HA2 HB2 HP2)
            | (refine step_appendMany' rfl _ _ 24 rfl w2.heap.size 3 i0 (.int .i64 0) 1 8 Try.underlying24 hi hz0 hz1 hz2 rfl (by decide) (by decide) A4 i c4 (cellsI (left.take i)) rfl HT3.out _ _ _ (cellsI (left.drop (i + 1))) rfl (rd_suffix_pos (Rd.of_own HW3.out) hll.out) (fun h => by cases h) (one_cellsI _) (by omega) hs4 ?_
               intro A5 c5 w4 hown4 hg4 hpl4
               have hs5 : w.heap.size ≤ w4.heap.size := Nat.le_trans hs3 hg4.size))
        go_wp2_with (go_at_call 33; refine (l12Next_any t ht _).mono ?_; rintro e w' ⟨rfl, rfl⟩)
        have HW4 := Lib.hid hown4
        have hA4 : (Value.slice A3 (acc.length + 1) c3).ownBlock = none ∨ (Value.slice A3 (acc.length + 1) c3).ownBlock ≠ (Value.slice A4 i c4).ownBlock := by
          cases hv : (Value.slice A3 (acc.length + 1) c3).ownBlock with
          | none => exact .inl rfl
          | some b =>
            refine .inr fun he => ?_
            have h1 := (HT3.out.lt b he.symm).1
            have h2 := hblk b hv
            have h3 : w2.heap.size ≤ b := h1
            omega
        have HA4 := Lib.hid (HA3.out.kept hg4 hA4)
        have HB4 := Lib.hid (Below.row HB3.out HT3.out hg4 hs2 hs3)
        have hne4 : ∀ b, (Value.slice A5 (i + 0) c5).ownBlock = some b → (Value.slice A3 (acc.length + 1) c3).ownBlock ≠ some b := by
          intro b hb5 hb6
          have h2 := hblk b hb6
          rcases hpl4 with h | h
          · have h1 := (HT3.out.lt b (h.symm.trans hb5)).1
            have h3 : w2.heap.size ≤ b := h1
            omega
          · have := h.symm.trans hb5
            simp only [Option.some.injEq] at this
            omega
        have hel : (left.eraseIdx i).length = i + 0 := by rw [List.length_eraseIdx_of_lt hil]; have := hll.out; omega
        have hec : cellsI (left.eraseIdx i) = cellsI (left.take i) ++ cellsI (left.drop (i + 1)) := by rw [List.eraseIdx_eq_take_drop_succ, cellsI_append]
        go_roundw
        case rel => exact ⟨k + 1, left.eraseIdx i, acc ++ [left[i]], A5, A3, c5, c3, nextF t, rfl, by rw [hel]; rfl, by simp, by go_num, by omega, by omega, (by show _ = _; have := hac.out; simp; omega), nextF_bd t, by rw [hel, hec]; exact own_base HW4.out hs2, by simpa [cellsI] using HA4.out, by rw [hel]; simpa using hne4, HB4.out, K2⟩
        case measure => simp [intOf]; omega
      ·
        go_region_held3 (fun w' => w.heap.size ≤ w'.heap.size) (first | assumption | (simp [World.drew]; omega))
          (first
            | (go_at_call 32
               refine (HL _ HP2.out).out.mono ?_
               rintro e w3 ⟨A4, c4, rfl, ho3, hb3⟩
               replace hb3 := below_ofDrew (a := w) hb3
               have HW3 := Lib.hid (own_below HW2.out hb3)
               have HA3 := Lib.hid (own_below HA2.out hb3)
               have HB3 := Lib.hid (Below.transB HB2.out (Nat.le_refl _) hb3)
               have HT3 := Lib.hid ho3
               have hs3 : w.heap.size ≤ w3.heap.size := HB3.out.size
               have hs4 : w2.heap.size ≤ w3.heap.size := hb3.size
               clear ho3 hb3 HW2 HA2 HB2 HP2)
            | (refine step_appendMany' rfl _ _ 24 rfl w2.heap.size 3 i0 (.int .i64 0) 1 8 Try.underlying24 hi hz0 hz1 hz2 rfl (by decide) (by decide) A4 i c4 (cellsI (left.take i)) rfl HT3.out _ _ _ (cellsI (left.drop (i + 1))) rfl (rd_suffix_neg (Rd.of_own HW3.out) hil) (fun h => by cases h) (one_cellsI _) hn9 hs4 ?_
               intro A5 c5 w4 hown4 hg4 hpl4
               have hs5 : w.heap.size ≤ w4.heap.size := Nat.le_trans hs3 hg4.size))
        go_wp2_with (go_at_call 33; refine (l12Next_any t ht _).mono ?_; rintro e w' ⟨rfl, rfl⟩)
        have HW4 := Lib.hid hown4
        have hA4 : (Value.slice A3 (acc.length + 1) c3).ownBlock = none ∨ (Value.slice A3 (acc.length + 1) c3).ownBlock ≠ (Value.slice A4 i c4).ownBlock := by
          cases hv : (Value.slice A3 (acc.length + 1) c3).ownBlock with
          | none => exact .inl rfl
          | some b =>
            refine .inr fun he => ?_
            have h1 := (HT3.out.lt b he.symm).1
            have h2 := hblk b hv
            have h3 : w2.heap.size ≤ b := h1
            omega
        have HA4 := Lib.hid (HA3.out.kept hg4 hA4)
        have HB4 := Lib.hid (Below.row HB3.out HT3.out hg4 hs2 hs3)
        have hne4 : ∀ b, (Value.slice A5 (i + (left.length - (i + 1))) c5).ownBlock = some b → (Value.slice A3 (acc.length + 1) c3).ownBlock ≠ some b := by
          intro b hb5 hb6
          have h2 := hblk b hb6
          rcases hpl4 with h | h
          · have h1 := (HT3.out.lt b (h.symm.trans hb5)).1
            have h3 : w2.heap.size ≤ b := h1
            omega
          · have := h.symm.trans hb5
            simp only [Option.some.injEq] at this
            omega
        have hel : (left.eraseIdx i).length = i + (left.length - (i + 1)) := by rw [List.length_eraseIdx_of_lt hil]; omega
        have hec : cellsI (left.eraseIdx i) = cellsI (left.take i) ++ cellsI (left.drop (i + 1)) := by rw [List.eraseIdx_eq_take_drop_succ, cellsI_append]
        go_roundw
        case rel => exact ⟨k + 1, left.eraseIdx i, acc ++ [left[i]], A5, A3, c5, c3, nextF t, rfl, by rw [hel], by simp, by go_num, by omega, by omega, (by show _ = _; have := hac.out; simp; omega), nextF_bd t, by rw [hel, hec]; exact own_base HW4.out hs2, by simpa [cellsI] using HA4.out, by rw [hel]; simpa using hne4, HB4.out, K2⟩
        case measure => simp [intOf]; omega
    · have hk2 : n - k = 0 := by omega
      have hlt' : ¬ ((k : Int) < (n : Int)) := by omega
      have K2 : Hid (takeF l n s = (acc, t)) := by show _ = _; rw [K.out, hk2]; simp [takeF]
      have HB := Lib.hid hb
      have HO := Lib.hid ho2
      clear K hb ho1 ho2
      go_wp2
      go_ret2
      exact ⟨_, by rw [K2.out]; rfl, ⟨A2, c2, by rw [K2.out]; rfl, by rw [K2.out]; exact HO.out⟩, HB.out⟩

end Go.Proofs.Ytfkpjfohkkilmaa
