/-
  The library's IndexFunc and ContainsFunc at a slice of numbers.
  Conditions: those written at each theorem.
-/
import Derived.Test.YtllnnkiehckegaaDoorSi
namespace Go.Proofs.YtllnnkiehckegaaDoor
open Go.RowKit Go.BigFrame
set_option maxRecDepth 100000

theorem indexFuncI_any (S : List Int) (A : Option Addr) (c : Nat) (F : Nat) (caps : Array Value) (P : Int → Bool) (w : World) (hr : Rd w 1 A S.length (cellsI S)) (hl : S.length ≤ 9223372036854775807)
    (hF : ∀ (args : Array Value) (w : World), (callFunc F args).run Tryd.prog w = .ok (Next.enter F args) w)
    (hcl : Hid (∀ (p : Int) (w1 : World), p ∈ S → Below w.heap.size w w1 → Calls Tryd.prog F (#[.int .i64 p] ++ caps) w1 fun e w2 => e = .returned (.bool (P p)) ∧ Below w1.heap.size w1 w2)) :
    Calls Tryd.prog 51 #[.slice A S.length c, .func (.func F) #[] caps] w
      fun e w' => e = .returned (.int .i64 (idxF P S 0)) ∧ Below w.heap.size w w' := by
  obtain ⟨hx, hrd⟩ := hr
  have HRD := Lib.hid hrd
  clear hx hrd
  have H0 : Hid (idxF P S 0 = idxF P (S.drop 0) 0) := rfl
  go_enter Tryd.func51, Tryd.ntmps51
  go_wp2
  go_loopw [8] (fun i wr => ∃ k : Nat, k ≤ S.length ∧ i = .int .i64 k ∧ Below w.heap.size w wr ∧ Hid (idxF P S 0 = idxF P (S.drop k) k)) (fun i _ => S.length - (intOf i).toNat)
  case atStart => exact ⟨0, Nat.zero_le _, rfl, Below.refl _ _, H0⟩
  case round =>
    obtain ⟨k, hk, rfl, hb, K⟩ := hrel
    by_cases hlt : k < S.length
    · obtain ⟨gb, go, rfl, hgb, hcell⟩ := HRD.out (by omega)
      have h0 := cellsI_at hcell hlt
      have c0 : wr.cell? ⟨gb, go + k, none⟩ = some (.int .i64 S[k]) := (hb.cell (p := ⟨gb, go + k, none⟩) hgb).trans h0
      clear h0 hcell
      have hlt' : ((k : Int) < (S.length : Int)) := by omega
      have K' : Hid (idxF P S 0 = if P S[k] = true then (k : Int) else idxF P (S.drop (k + 1)) (k + 1)) := by
        have := K.out
        rw [List.drop_eq_getElem_cons hlt] at this
        exact this
      by_cases hP : P S[k] = true
      · rw [if_pos hP] at K'
        go_wp2_with fail
        refine (hcl.out _ _ (List.getElem_mem hlt) hb).mono ?_
        rintro e w2 ⟨rfl, hb2⟩
        have hb3 := Below.trans' hb hb2
        rw [hP]
        go_wp2
        go_ret
        exact ⟨by rw [K'.out]; rfl, hb3⟩
      · rw [if_neg hP] at K'
        go_wp2_with fail
        refine (hcl.out _ _ (List.getElem_mem hlt) hb).mono ?_
        rintro e w2 ⟨rfl, hb2⟩
        have hb3 := Below.trans' hb hb2
        rw [show P S[k] = false by simpa using hP]
        go_wp2
        go_roundw
        case rel => exact ⟨k + 1, by omega, by go_num, hb3, K'⟩
        case measure => simp [intOf]; omega
    · obtain rfl : k = S.length := by omega
      have K' : Hid (idxF P S 0 = -1) := by
        have := K.out
        show _ = _
        simpa [idxF] using this
      go_wp2
      go_ret
      exact ⟨by rw [K'.out]; rfl, hb⟩

theorem containsFuncI_any (S : List Int) (A : Option Addr) (c : Nat) (F : Nat) (caps : Array Value) (P : Int → Bool) (w : World) (hr : Rd w 1 A S.length (cellsI S)) (hl : S.length ≤ 9223372036854775807)
    (hF : ∀ (args : Array Value) (w : World), (callFunc F args).run Tryd.prog w = .ok (Next.enter F args) w)
    (hcl : Hid (∀ (p : Int) (w1 : World), p ∈ S → Below w.heap.size w w1 → Calls Tryd.prog F (#[.int .i64 p] ++ caps) w1 fun e w2 => e = .returned (.bool (P p)) ∧ Below w1.heap.size w1 w2)) :
    Calls Tryd.prog 39 #[.slice A S.length c, .func (.func F) #[] caps] w
      fun e w' => e = .returned (.bool (S.any P)) ∧ Below w.heap.size w w' := by
  have H := Lib.hid (idxF_any P S 0)
  go_enter Tryd.func39, Tryd.ntmps39
  go_wp2_with (go_at_call 51; refine (indexFuncI_any _ _ _ _ _ P _ hr hl hF hcl).mono ?_; rintro e w1 ⟨rfl, hb1⟩)
  go_ret
  exact ⟨by rw [← H.out]; rfl, hb1⟩

end Go.Proofs.YtllnnkiehckegaaDoor
