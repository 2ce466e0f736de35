/-
  NotSampled: by the reference and by the program .
  Conditions: those written at each theorem.
-/
import Derived.Test.YtnhcghlhicignaaP12i
import Derived.Test.YtnhcghlhicignaaBx
namespace Go.Proofs.Ytnhcghlhicignaa
open Go.RowKit Go.BigFrame
set_option maxRecDepth 100000

/-- whether a number is in a list -/
def hasI (l : List Int) (x : Int) : Bool := l.any fun y => decide (x = y)
def nsOk (l s : List Int) : Bool := popB l && popB s && s.all fun x => hasI l x
def nsOut (l s : List Int) : List Int := if nsOk l s = true then l.filter fun x => !hasI s x else []

theorem contains_any (l : List Int) (x : Int) (A : Option Addr) (c : Nat) (hl : l.length ≤ 9223372036854775806) (w : World) (hr : Rd w 1 A l.length (cellsI l)) :
    Calls Try.prog 51 #[.slice A l.length c, .int .i64 x] w fun e w' => e = .returned (.bool (hasI l x)) ∧ w = w' := by
  have H := Lib.hid (idxF_any (eqI x) l 0)
  go_enter Try.func51, Try.ntmps51
  go_wp2_with (go_at_call 43; refine (index_any l x A c hl _ hr).mono ?_; rintro e w' ⟨rfl, rfl⟩)
  go_ret
  refine ⟨?_, rfl⟩
  have := H.out
  show _ = Ending.returned (.bool (l.any (eqI x)))
  rw [← this]; rfl

theorem l1Has_any (l : List Int) (x : Int) (A : Option Addr) (c : Nat) (hl : l.length ≤ 9223372036854775806) (w : World) (hr : Rd w 1 A l.length (cellsI l)) :
    Calls Try.prog 48 #[.slice A l.length c, .int .i64 x] w fun e w' => e = .returned (.bool (hasI l x)) ∧ w = w' := by
  obtain ⟨hx, hrd⟩ := hr
  have HR := Lib.hid hrd
  clear hx hrd
  go_enter Try.func48, Try.ntmps48
  go_wp2
  go_loop [5] (fun v => ∃ k : Nat, k ≤ l.length ∧ v = .int .i64 k ∧ Hid (hasI l x = hasI (l.drop k) x)) (fun v => l.length - (intOf v).toNat)
  case atStart => exact ⟨0, Nat.zero_le _, rfl, by show _ = _; rfl⟩
  case round =>
    obtain ⟨k, hk, rfl, K⟩ := hrel
    by_cases hlt : k < l.length
    · obtain ⟨gb, go, rfl, hgb, hcell⟩ := HR.out (by omega)
      have c0 := cellsI_at hcell hlt
      clear hcell
      have hlt' : ((k : Int) < (l.length : Int)) := by omega
      have K1 := K.out
      rw [List.drop_eq_getElem_cons hlt] at K1
      by_cases hp : x = l[k]
      · have K2 : Hid (hasI l x = true) := by show _ = _; rw [K1]; simp only [hasI, List.any_cons, decide_eq_true hp, Bool.true_or]
        have hpb : (l[k] == x) = true := by simpa using hp.symm
        clear K K1 hp
        go_wp2
        go_ret
        exact ⟨by rw [K2.out]; rfl, rfl⟩
      · have K2 : Hid (hasI l x = hasI (l.drop (k + 1)) x) := by show _ = _; rw [K1]; simp only [hasI, List.any_cons, decide_eq_false hp, Bool.false_or]
        have hpb : (l[k] == x) = false := by simpa using fun h => hp h.symm
        clear K K1
        go_wp2
        go_round
        case rel => exact ⟨k + 1, by omega, by go_num, K2⟩
        case measure => simp [intOf]; omega
    · have K2 : Hid (hasI l x = false) := by show _ = _; rw [K.out, List.drop_of_length_le (by omega)]; rfl
      go_wp2
      go_ret
      exact ⟨by rw [K2.out]; rfl, rfl⟩

theorem indexFuncI_any (S : List Int) (A : Option Addr) (c : Nat) (F : Nat) (caps : Array Value) (P : Int → Bool) (w : World) (hr : Rd w 1 A S.length (cellsI S)) (hl : S.length ≤ 9223372036854775807)
    (hF : ∀ (args : Array Value) (w : World), (callFunc F args).run Try.prog w = .ok (Next.enter F args) w)
    (hcl : Hid (∀ (p : Int) (w1 : World), p ∈ S → Below w.heap.size w w1 → Calls Try.prog F (#[.int .i64 p] ++ caps) w1 fun e w2 => e = .returned (.bool (P p)) ∧ Below w1.heap.size w1 w2)) :
    Calls Try.prog 75 #[.slice A S.length c, .func (.func F) #[] caps] w
      fun e w' => e = .returned (.int .i64 (idxF P S 0)) ∧ Below w.heap.size w w' := by
  obtain ⟨hx, hrd⟩ := hr
  have HRD := Lib.hid hrd
  clear hx hrd
  have H0 : Hid (idxF P S 0 = idxF P (S.drop 0) 0) := rfl
  go_enter Try.func75, Try.ntmps75
  go_wp2
  go_loopw [8] (fun i wr => ∃ k : Nat, k ≤ S.length ∧ i = .int .i64 k ∧ Below w.heap.size w wr ∧ Hid (idxF P S 0 = idxF P (S.drop k) k)) (fun i _ => S.length - (intOf i).toNat)
  case atStart => exact ⟨0, Nat.zero_le _, rfl, Below.refl _ _, H0⟩
  case round =>
    obtain ⟨k, hk, rfl, hb, K⟩ := hrel
    by_cases hlt : k < S.length
    · obtain ⟨gb, go, rfl, hgb, hcell⟩ := HRD.out (by omega)
      have h0 := cellsI_at hcell hlt
      have c0 : wr.cell? ⟨gb, go + k, none⟩ = some (.int .i64 S[k]) := (hb.cell (p := ⟨gb, go + k, none⟩) hgb).trans h0
      clear h0 hcell
      have hlt' : ((k : Int) < (S.length : Int)) := by omega
      have K' : Hid (idxF P S 0 = if P S[k] = true then (k : Int) else idxF P (S.drop (k + 1)) (k + 1)) := by
        have := K.out
        rw [List.drop_eq_getElem_cons hlt] at this
        exact this
      by_cases hP : P S[k] = true
      · rw [if_pos hP] at K'
        go_wp2_with fail
        refine (hcl.out _ _ (List.getElem_mem hlt) hb).mono ?_
        rintro e w2 ⟨rfl, hb2⟩
        have hb3 := Below.trans' hb hb2
        rw [hP]
        go_wp2
        go_ret
        exact ⟨by rw [K'.out]; rfl, hb3⟩
      · rw [if_neg hP] at K'
        go_wp2_with fail
        refine (hcl.out _ _ (List.getElem_mem hlt) hb).mono ?_
        rintro e w2 ⟨rfl, hb2⟩
        have hb3 := Below.trans' hb hb2
        rw [show P S[k] = false by simpa using hP]
        go_wp2
        go_roundw
        case rel => exact ⟨k + 1, by omega, by go_num, hb3, K'⟩
        case measure => simp [intOf]; omega
    · obtain rfl : k = S.length := by omega
      have K' : Hid (idxF P S 0 = -1) := by
        have := K.out
        show _ = _
        simpa [idxF] using this
      go_wp2
      go_ret
      exact ⟨by rw [K'.out]; rfl, hb⟩

theorem containsFuncI_any (S : List Int) (A : Option Addr) (c : Nat) (F : Nat) (caps : Array Value) (P : Int → Bool) (w : World) (hr : Rd w 1 A S.length (cellsI S)) (hl : S.length ≤ 9223372036854775807)
    (hF : ∀ (args : Array Value) (w : World), (callFunc F args).run Try.prog w = .ok (Next.enter F args) w)
    (hcl : Hid (∀ (p : Int) (w1 : World), p ∈ S → Below w.heap.size w w1 → Calls Try.prog F (#[.int .i64 p] ++ caps) w1 fun e w2 => e = .returned (.bool (P p)) ∧ Below w1.heap.size w1 w2)) :
    Calls Try.prog 49 #[.slice A S.length c, .func (.func F) #[] caps] w
      fun e w' => e = .returned (.bool (S.any P)) ∧ Below w.heap.size w w' := by
  have H := Lib.hid (idxF_any P S 0)
  go_enter Try.func49, Try.ntmps49
  go_wp2_with (go_at_call 75; refine (indexFuncI_any _ _ _ _ _ P _ hr hl hF hcl).mono ?_; rintro e w1 ⟨rfl, hb1⟩)
  go_ret
  exact ⟨by rw [← H.out]; rfl, hb1⟩

end Go.Proofs.Ytnhcghlhicignaa
