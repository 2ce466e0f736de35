/-
  A draw: what it takes, and the seed that is left; by the program and by the reference.
  Conditions: those written at each theorem.
-/
import Derived.Test.YtfkpjfohkkilmaaP12f
import Derived.Deep.RegionHeld3
namespace Go.Proofs.Ytfkpjfohkkilmaa
open Go.RowKit Go.BigFrame
set_option maxRecDepth 100000

/-- the next seed -/
def nextF (s : Int) : Int := (5 * s + 1) % 100000
theorem nextF_bd (s : Int) : 0 ≤ nextF s ∧ nextF s ≤ 99999 := by unfold nextF; omega

theorem nextSeed_any (s : Int) (h : 0 ≤ s ∧ s ≤ 99999) (w : World) : Calls Try.prog 41 #[.int .i64 s] w fun e w' => e = .returned (.int .i64 (nextF s)) ∧ w = w' := by
  go_enter Try.func41, Try.ntmps41
  go_wp2
  go_ret
  exact ⟨rfl, rfl⟩
theorem l12Next_any (s : Int) (h : 0 ≤ s ∧ s ≤ 99999) (w : World) : Calls Try.prog 33 #[.int .i64 s] w fun e w' => e = .returned (.int .i64 (nextF s)) ∧ w = w' := by
  go_enter Try.func33, Try.ntmps33
  go_wp2
  go_ret
  exact ⟨rfl, rfl⟩

/-- what a draw takes, and the seed that is left -/
def takeF : List Int → Nat → Int → List Int × Int
  | _, 0, s => ([], s)
  | l, n + 1, s => match l[(s % (l.length : Int)).toNat]? with
    | some x => (x :: (takeF (l.eraseIdx (s % (l.length : Int)).toNat) n (nextF s)).1, (takeF (l.eraseIdx (s % (l.length : Int)).toNat) n (nextF s)).2)
    | none => ([], s)

theorem takeF_step (l : List Int) (n : Nat) (s : Int) (i : Nat) (hi : i < l.length) (hs : s % (l.length : Int) = i) :
    takeF l (n + 1) s = (l[i] :: (takeF (l.eraseIdx i) n (nextF s)).1, (takeF (l.eraseIdx i) n (nextF s)).2) := by
  have h : (s % (l.length : Int)).toNat = i := by omega
  simp [takeF, h, hi]

theorem len_takeF : ∀ (n : Nat) (l : List Int) (s : Int), (takeF l n s).1.length ≤ n
  | 0, l, s => by simp [takeF]
  | n + 1, l, s => by
    unfold takeF
    split
    · have := len_takeF n (l.eraseIdx (s % (l.length : Int)).toNat) (nextF s); simp; omega
    · simp

set_option maxHeartbeats 1000000 in
theorem taken_any (l : List Int) (n : Nat) (s : Int) (A : Option Addr) (c : Nat) (w : World) (hr : Rd w 1 A l.length (cellsI l)) (hA : A = none → c = 0) (hl : l.length ≤ 20) (hn : n ≤ l.length) (hs : 0 ≤ s ∧ s ≤ 99999) :
    Calls Try.prog 25 #[.slice A l.length c, .int .i64 n, .int .i64 s] w
      fun e w' => ∃ v, e = .returned (.tuple #[v, .int .i64 (takeF l n s).2]) ∧ SlI w.heap.size w' (takeF l n s).1 v ∧ Below w.heap.size w w' := by
  obtain ⟨i0, hi, hz0, hz1, hz2⟩ := info_parts infoI
  have HC := Lib.hid (cloneI_any l A c w hr hA (by omega))
  clear hr hA
  go_enter Try.func25, Try.ntmps25
  go_wp2_with fail
  refine HC.out.mono ?_
  rintro e w1 ⟨_, rfl, ⟨A1, c1, rfl, ho1⟩, hb1⟩
  have HO1 := Lib.hid ho1
  have HB1 := Lib.hid hb1
  clear ho1 hb1 HC
  go_wp2_with fail
  go_loopw [2, 8, 9, 10, 14] (fun v2 v8 v9 _ v14 wr => ∃ (k : Nat) (left acc : List Int) (A1 A2 : Option Addr) (c1 c2 : Nat) (t : Int), v2 = .int .i64 t ∧ v8 = .slice A1 left.length c1 ∧ v9 = .slice A2 acc.length c2 ∧ v14 = .int .i64 k ∧ k ≤ n ∧ left.length + k = l.length ∧ Hid (acc.length = k) ∧ (0 ≤ t ∧ t ≤ 99999) ∧
      wr.ownsRow w.heap.size 3 1 (.slice A1 left.length c1) left.length (cellsI left) ∧ wr.ownsRow w.heap.size 3 1 (.slice A2 acc.length c2) acc.length (cellsI acc) ∧ (∀ b, (Value.slice A1 left.length c1).ownBlock = some b → (Value.slice A2 acc.length c2).ownBlock ≠ some b) ∧
      Below w.heap.size w wr ∧ Hid (takeF l n s = (acc ++ (takeF left (n - k) t).1, (takeF left (n - k) t).2))) (fun _ _ _ _ v14 _ => n - (intOf v14).toNat)
  case atStart => exact ⟨0, l, [], A1, none, c1, 0, s, rfl, rfl, rfl, rfl, Nat.zero_le _, rfl, rfl, hs, HO1.out, World.ownsRow_nil _ _ _ _, fun b _ => by simp [Value.ownBlock], HB1.out, by show _ = _; simp⟩
  case round =>
    clear HO1 HB1
    obtain ⟨k, left, acc, A1, A2, c1, c2, t, rfl, rfl, rfl, rfl, hk, hlk, hac, ht, ho1, ho2, hne, hb, K⟩ := hrel
    have hac' : acc.length ≤ 20 := by have := hac.out; omega
    by_cases hlt : k < n
    · have hlt' : ((k : Int) < (n : Int)) := by omega
      obtain ⟨g, rfl⟩ : ∃ g, A1 = some ⟨g, 0, none⟩ := by
        rcases ho1.2 with ⟨_, h0⟩ | ⟨g, cap, cur, hv, _⟩
        · omega
        · cases hv; exact ⟨g, rfl⟩
      obtain ⟨i, hi1⟩ : ∃ i : Nat, t % (left.length : Int) = i := ⟨(t % (left.length : Int)).toNat, by have := Int.emod_nonneg t (show (left.length : Int) ≠ 0 by omega); omega⟩
      have hil : i < left.length := by have := Int.emod_lt_of_pos t (show (0 : Int) < (left.length : Int) by omega); omega
      have hmod : t.tmod (left.length : Int) = (i : Int) := by rw [Int.tmod_eq_emod_of_nonneg ht.1]; exact hi1
      have hnz : ¬ (left.length : Int) = 0 := by omega
      have hi0 : (0 : Int) ≤ (i : Int) := by omega
      have hil' : (i : Int) < (left.length : Int) := by omega
      obtain ⟨b0, o0, hbo, hgb, hcell⟩ := (Rd.of_own ho1).2 (by omega)
      cases hbo
      have c0 := cellsI_at hcell hil
      rw [Nat.zero_add] at c0
      clear hcell
      obtain ⟨m, hm⟩ : ∃ m, n - k = m + 1 := ⟨n - k - 1, by omega⟩
      have K2 : Hid (takeF l n s = ((acc ++ [left[i]]) ++ (takeF (left.eraseIdx i) (n - (k + 1)) (nextF t)).1, (takeF (left.eraseIdx i) (n - (k + 1)) (nextF t)).2)) := by
        show _ = _; rw [K.out, hm, takeF_step left m t i hil hi1, show n - (k + 1) = m by omega]; simp
      have HB := Lib.hid hb
      have HO1 := Lib.hid ho1
      have HO2 := Lib.hid ho2
      have hsz := hb.size
      clear K hb ho1 ho2 hi1
      go_wp2_with (first
        | (at_builtin; refine wpList_push' rfl _ _ 24 rfl w.heap.size 3 i0 (.int .i64 0) 1 8 Try.underlying24 hi hz0 hz1 hz2 rfl (by decide) (by decide) _ _ _ _ rfl HO2.out #[.int .i64 left[i]] _ rfl rfl (by simp [Value.oneCell']) (by omega) hsz ?_
           intro A3 c3 w2 hown2 hg2 hpl))
      have HW2 := Lib.hid (HO1.out.kept hg2 (.inr fun h => hne g rfl h.symm))
      have HA2 := Lib.hid hown2
      have HB2 := Lib.hid (Below.row HB.out HO2.out hg2 (Nat.le_refl _) hsz)
      have hne2 : (Value.slice A3 (acc.length + 1) c3).ownBlock ≠ some g := by
        rcases hpl with h | h <;> rw [h]
        · exact hne g rfl
        · exact fun he => by have h2 := Option.some.inj he; have := (HO1.out.lt g rfl).2; omega
      clear hown2 hg2 hpl HO1 HO2 HB c0 hgb
      refine (ownDelete w.heap.size left g c1 i _ HW2.out hil).mono ?_
      rintro e w3 ⟨rfl, ho3, hg3⟩
      have HW3 := Lib.hid ho3
      have HA3 := Lib.hid (HA2.out.kept hg3 (.inr hne2))
      have HB3 := Lib.hid (Below.row HB2.out HW2.out hg3 (Nat.le_refl _) HB2.out.size)
      clear ho3 hg3 HW2 HA2 HB2
      go_wp2_with (go_at_call 41; refine (nextSeed_any t ht _).mono ?_; rintro e w' ⟨rfl, rfl⟩)
      have he : (left.eraseIdx i).length = left.length - 1 := List.length_eraseIdx_of_lt hil
      go_roundw
      case rel => exact ⟨k + 1, left.eraseIdx i, acc ++ [left[i]], some ⟨g, 0, none⟩, A3, c1, c3, nextF t, rfl, by rw [he], by simp, by go_num, by omega, by omega, (by show _ = _; have := hac.out; simp; omega), nextF_bd t, by rw [he]; exact HW3.out, by simpa [cellsI] using HA3.out, fun b hb' => by cases hb'; simpa using hne2, HB3.out, K2⟩
      case measure => simp [intOf]; omega
    · have hk2 : n - k = 0 := by omega
      have hlt' : ¬ ((k : Int) < (n : Int)) := by omega
      have K2 : Hid (takeF l n s = (acc, t)) := by show _ = _; rw [K.out, hk2]; simp [takeF]
      have HB := Lib.hid hb
      have HO := Lib.hid ho2
      clear K hb ho1 ho2
      go_wp2
      go_ret2
      exact ⟨_, by rw [K2.out]; rfl, ⟨A2, c2, by rw [K2.out]; rfl, by rw [K2.out]; exact HO.out⟩, HB.out⟩

end Go.Proofs.Ytfkpjfohkkilmaa
