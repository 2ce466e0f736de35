/-
  Chapter 16: ledgers, by the reference and by the program.
  Conditions: those written at each theorem.
-/
import Derived.Test.YtcajnbjonilljaaDoorP16d
import Derived.Test.YtcajnbjonilljaaDoorShStr
namespace Go.Proofs.YtcajnbjonilljaaDoor
open Go.RowKit Go.BigFrame
set_option maxRecDepth 100000

/-- a list of entries is a ledger -/
def goodL (l : List ByteArray) : Bool := inB l.length 1 8 && l.all entryB

set_option maxHeartbeats 800000 in
theorem l16Good_any (l : List ByteArray) (A : Option Addr) (c : Nat) (hl : l.length ≤ 1048577) (hbd : ∀ y ∈ l, y.size ≤ 9223372036854775807) (w : World) (hr : Rd w 1 A l.length (cellsS l)) :
    Calls Tryd.prog 16 #[.slice A l.length c] w fun e w' => e = .returned (.bool (goodL l)) ∧ w = w' := by
  have HE : Hid (goodL l = (inB l.length 1 8 && l.all entryB)) := rfl
  obtain ⟨hx, hrd⟩ := hr
  have HR := Lib.hid hrd
  have HD := Lib.hid hbd
  clear hx hrd hbd
  go_enter Tryd.func16, Tryd.ntmps16
  go_wp2
  go_loop [3] (fun v => ∃ k : Nat, k ≤ l.length ∧ v = .int .i64 k ∧ Hid (l.all entryB = (l.drop k).all entryB)) (fun v => l.length - (intOf v).toNat)
  case atStart => exact ⟨0, Nat.zero_le _, rfl, by show _ = _; rfl⟩
  case round =>
    obtain ⟨k, hk, rfl, K⟩ := hrel
    by_cases hlt : k < l.length
    · have hlt' : ((k : Int) < (l.length : Int)) := by omega
      obtain ⟨gb, go, rfl, hgb, hcell⟩ := HR.out (by omega)
      have c0 := cellsS_at hcell hlt
      clear hcell
      have hd := HD.out _ (List.getElem_mem hlt)
      have K1 := K.out
      rw [List.drop_eq_getElem_cons hlt, List.all_cons] at K1
      have HK := Lib.hid K1
      clear K K1
      have HQ := fun W => Lib.hid (l16Entry_any l[k] hd W)
      by_cases g : entryB l[k] = true
      · have K2 : Hid (l.all entryB = (l.drop (k + 1)).all entryB) := by
          show _ = _; rw [HK.out, g]; rfl
        rw [g] at HQ
        clear HK g hd
        go_wp2_with (go_at_call 27; refine (HQ _).out.mono ?_; rintro e w' ⟨rfl, rfl⟩)
        go_round
        case rel => exact ⟨k + 1, by omega, by go_num, K2⟩
        case measure => simp [intOf]; omega
      · have g' : entryB l[k] = false := by simpa using g
        have K2 : Hid (goodL l = false) := by
          show _ = _; rw [HE.out, HK.out, g']; simp
        rw [g'] at HQ
        clear HK g g' hd
        go_wp2_with (go_at_call 27; refine (HQ _).out.mono ?_; rintro e w' ⟨rfl, rfl⟩)
        go_ret
        exact ⟨by rw [K2.out]; rfl, rfl⟩
    · have K2 : Hid (goodL l = inB l.length 1 8) := by
        show _ = _; rw [HE.out, K.out, List.drop_of_length_le (by omega)]; simp
      clear K
      go_wp2_with (go_at_call 21; refine (l1In_any _ _ _ _).mono ?_; rintro e w' ⟨rfl, rfl⟩)
      go_ret
      exact ⟨by rw [K2.out]; rfl, rfl⟩


theorem isLedger1_any (s : ByteArray) (hs : s.size ≤ 9223372036854775807) (w : World) :
    Calls Tryd.prog 29 #[.string s] w fun e w' => e = .returned (.bool (!entryB s)) ∧ Below w.heap.size w w' := by
  go_enter Tryd.func29, Tryd.ntmps29
  go_wp2_with (go_at_call 30; refine (isEntry_any s hs _).mono ?_; rintro e w2 ⟨rfl, hb2⟩)
  go_ret
  exact ⟨rfl, hb2⟩

theorem any_notS (l : List ByteArray) : (l.any fun p => !entryB p) = !l.all entryB := by
  induction l with
  | nil => rfl
  | cons x r ih => rw [List.any_cons, List.all_cons, ih]; cases entryB x <;> rfl

theorem implIsLedger_any (l : List ByteArray) (A : Option Addr) (c : Nat) (hl : l.length ≤ 1048577) (hbd : ∀ y ∈ l, y.size ≤ 9223372036854775807) (w : World) (hr : Rd w 1 A l.length (cellsS l)) :
    Calls Tryd.prog 18 #[.slice A l.length c] w fun e w' => e = .returned (.bool (goodL l)) ∧ Below w.heap.size w w' := by
  have HC := Lib.hid (containsFuncStr_any l A c 29 #[] (fun p => !entryB p) w hr (by omega) (fun _ _ => by kernel_rfl) (fun p w1 hp _ => isLedger1_any p (hbd p hp) w1))
  have HP : Hid (goodL l = (inB l.length 1 8 && l.all entryB)) := rfl
  rw [any_notS] at HC
  clear hr hbd
  generalize l.all entryB = q at HC HP
  by_cases h8 : inB l.length 1 8 = true
  · cases q
    all_goals
      go_enter Tryd.func18, Tryd.ntmps18
      go_wp2_with (go_at_call 24; refine (within_any _ _ _ _).mono ?_; rintro e w' ⟨rfl, rfl⟩; rw [h8])
      refine HC.out.mono ?_
      rintro e w1 ⟨rfl, hb1⟩
      have HB := Lib.hid hb1
      clear hb1
      go_wp2
      go_ret
      exact ⟨by rw [HP.out, h8]; rfl, HB.out⟩
  · have h8' : inB l.length 1 8 = false := by simpa using h8
    go_enter Tryd.func18, Tryd.ntmps18
    go_wp2_with (go_at_call 24; refine (within_any _ _ _ _).mono ?_; rintro e w' ⟨rfl, rfl⟩; rw [h8'])
    go_ret
    exact ⟨by rw [HP.out, h8']; rfl, Below.refl _ _⟩

end Go.Proofs.YtcajnbjonilljaaDoor
