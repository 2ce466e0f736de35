/-
  The walks of SeedFor and EveryNth: by the reference and by the program.
  Conditions: those written at each theorem.
-/
import Derived.Test.YtnhcghlhicignaaP12b
import Derived.Test.YtnhcghlhicignaaOwn
namespace Go.Proofs.Ytnhcghlhicignaa
open Go.RowKit Go.BigFrame
set_option maxRecDepth 100000

/-- a slice of the call's own that holds numbers -/
def SlI (base : Nat) (w' : World) (out : List Int) (v : Value) : Prop :=
  ∃ (A : Option Addr) (c : Nat), v = .slice A out.length c ∧ w'.ownsRow base 3 1 (.slice A out.length c) out.length (cellsI out)

theorem SlI.nil (base : Nat) (w : World) : SlI base w [] (.slice none 0 0) := ⟨none, 0, rfl, World.ownsRow_nil _ _ _ _⟩

/-- what a search by value answers -/
def eqI (x y : Int) : Bool := decide (x = y)

theorem index_any (l : List Int) (x : Int) (A : Option Addr) (c : Nat) (hl : l.length ≤ 9223372036854775806) (w : World) (hr : Rd w 1 A l.length (cellsI l)) :
    Calls Try.prog 43 #[.slice A l.length c, .int .i64 x] w fun e w' => e = .returned (.int .i64 (idxF (eqI x) l 0)) ∧ w = w' := by
  obtain ⟨hx, hrd⟩ := hr
  have HR := Lib.hid hrd
  clear hx hrd
  go_enter Try.func43, Try.ntmps43
  go_wp2
  go_loop [8] (fun v => ∃ k : Nat, k ≤ l.length ∧ v = .int .i64 k ∧ Hid (idxF (eqI x) l 0 = idxF (eqI x) (l.drop k) k)) (fun v => l.length - (intOf v).toNat)
  case atStart => exact ⟨0, Nat.zero_le _, rfl, by show _ = _; rfl⟩
  case round =>
    obtain ⟨k, hk, rfl, K⟩ := hrel
    by_cases hlt : k < l.length
    · obtain ⟨gb, go, rfl, hgb, hcell⟩ := HR.out (by omega)
      have c0 := cellsI_at hcell hlt
      clear hcell
      have hlt' : ((k : Int) < (l.length : Int)) := by omega
      have K1 := K.out
      rw [List.drop_eq_getElem_cons hlt] at K1
      by_cases hp : x = l[k]
      · have K2 : Hid (idxF (eqI x) l 0 = k) := by show _ = _; rw [K1]; simp [idxF, eqI, hp]
        have hpb : (x == l[k]) = true := by simpa using hp
        clear K K1 hp
        go_wp2
        go_ret
        exact ⟨by rw [K2.out]; rfl, rfl⟩
      · have K2 : Hid (idxF (eqI x) l 0 = idxF (eqI x) (l.drop (k + 1)) (k + 1)) := by show _ = _; rw [K1]; simp [idxF, eqI, hp]
        have hpb : (x == l[k]) = false := by simpa using hp
        clear K K1
        go_wp2
        go_round
        case rel => exact ⟨k + 1, by omega, by go_num, K2⟩
        case measure => simp [intOf]; omega
    · have K2 : Hid (idxF (eqI x) l 0 = -1) := by show _ = _; rw [K.out, List.drop_of_length_le (by omega)]; rfl
      go_wp2
      go_ret
      exact ⟨by rw [K2.out]; rfl, rfl⟩

/-- what SeedFor answers -/
def sfAns (l : List Int) (x : Int) : Value := if popB l = true ∧ 0 ≤ idxF (eqI x) l 0 then .tuple #[.int .i64 (idxF (eqI x) l 0), .bool true] else .tuple #[.int .i64 0, .bool false]
theorem sfAns_form (l : List Int) (x : Int) : ∃ (a : Int) (y : Bool), sfAns l x = .tuple #[.int .i64 a, .bool y] := by
  unfold sfAns; split <;> exact ⟨_, _, rfl⟩

set_option maxHeartbeats 400000 in
theorem implSeedFor_any (l : List Int) (x : Int) (A : Option Addr) (c : Nat) (hl : l.length ≤ 1048576) (w : World) (hr : Rd w 1 A l.length (cellsI l)) :
    Calls Try.prog 19 #[.slice A l.length c, .int .i64 x] w fun e w' => e = .returned (sfAns l x) ∧ Below w.heap.size w w' := by
  have HX := fun W h => Lib.hid (index_any l x A c (by omega) W h)
  have HI := fun W h => Lib.hid (implIsPopulation_any l A c (by omega) W h)
  have HR := Lib.hid hr
  clear hr
  by_cases h1 : popB l = true
  · by_cases h2 : 0 ≤ idxF (eqI x) l 0
    · have hans : Hid (sfAns l x = .tuple #[.int .i64 (idxF (eqI x) l 0), .bool true]) := if_pos ⟨h1, h2⟩
      generalize idxF (eqI x) l 0 = j at HX h2 hans
      go_enter Try.func19, Try.ntmps19
      go_wp2_with (first
        | (go_at_call 43; refine (HX _ HR.out).out.mono ?_; rintro e w' ⟨rfl, rfl⟩)
        | (go_at_call 14; refine (HI _ HR.out).out.mono ?_; rintro e w' ⟨rfl, rfl⟩))
      go_ret2
      exact ⟨by rw [hans.out]; rfl, Below.refl _ _⟩
    · have hans : Hid (sfAns l x = .tuple #[.int .i64 0, .bool false]) := if_neg fun h => h2 h.2
      generalize idxF (eqI x) l 0 = j at HX h2
      go_enter Try.func19, Try.ntmps19
      go_wp2_with (first
        | (go_at_call 43; refine (HX _ HR.out).out.mono ?_; rintro e w' ⟨rfl, rfl⟩)
        | (go_at_call 14; refine (HI _ HR.out).out.mono ?_; rintro e w' ⟨rfl, rfl⟩))
      go_ret2
      exact ⟨by rw [hans.out]; rfl, Below.refl _ _⟩
  · have hans : Hid (sfAns l x = .tuple #[.int .i64 0, .bool false]) := if_neg fun h => h1 h.1
    go_enter Try.func19, Try.ntmps19
    go_wp2_with (first
      | (go_at_call 43; refine (HX _ HR.out).out.mono ?_; rintro e w' ⟨rfl, rfl⟩)
      | (go_at_call 14; refine (HI _ HR.out).out.mono ?_; rintro e w' ⟨rfl, rfl⟩))
    go_ret2
    exact ⟨by rw [hans.out]; rfl, Below.refl _ _⟩

set_option maxHeartbeats 400000 in
theorem specSeedFor_any (l : List Int) (x : Int) (A : Option Addr) (c : Nat) (hl : l.length ≤ 1048576) (w : World) (hr : Rd w 1 A l.length (cellsI l)) :
    Calls Try.prog 18 #[.slice A l.length c, .int .i64 x] w fun e w' => e = .returned (sfAns l x) ∧ Below w.heap.size w w' := by
  by_cases h1 : popB l = true
  · go_enter Try.func18, Try.ntmps18
    go_wp2_with fail
    refine (l12Good_any l A c (by omega) _ hr).mono ?_
    rintro e w1 ⟨rfl, hb1⟩
    obtain ⟨hx, hrd⟩ := hr.below hb1
    have HR := Lib.hid hrd
    have HB := Lib.hid hb1
    clear hx hrd hr hb1
    go_wp2_with fail
    go_loop [6] (fun v => ∃ k : Nat, k ≤ l.length ∧ v = .int .i64 k ∧ Hid (idxF (eqI x) l 0 = idxF (eqI x) (l.drop k) k)) (fun v => l.length - (intOf v).toNat)
    case atStart => exact ⟨0, Nat.zero_le _, rfl, by show _ = _; rfl⟩
    case round =>
      obtain ⟨k, hk, rfl, K⟩ := hrel
      by_cases hlt : k < l.length
      · obtain ⟨gb, go, rfl, hgb, hcell⟩ := HR.out (by omega)
        have c0 := cellsI_at hcell hlt
        clear hcell
        have hlt' : ((k : Int) < (l.length : Int)) := by omega
        have K1 := K.out
        rw [List.drop_eq_getElem_cons hlt] at K1
        by_cases hp : x = l[k]
        · have K2 : Hid (sfAns l x = .tuple #[.int .i64 k, .bool true]) := by
            have : idxF (eqI x) l 0 = k := by rw [K1]; simp [idxF, eqI, hp]
            show _ = _; unfold sfAns; rw [this, if_pos ⟨h1, by omega⟩]
          have hpb : (l[k] == x) = true := by simpa using hp.symm
          clear K K1 hp
          go_wp2
          go_ret2
          exact ⟨by rw [K2.out]; rfl, HB.out⟩
        · have K2 : Hid (idxF (eqI x) l 0 = idxF (eqI x) (l.drop (k + 1)) (k + 1)) := by show _ = _; rw [K1]; simp [idxF, eqI, hp]
          have hpb : (l[k] == x) = false := by simpa using fun h => hp h.symm
          clear K K1
          go_wp2
          go_round
          case rel => exact ⟨k + 1, by omega, by go_num, K2⟩
          case measure => simp [intOf]; omega
      · have K2 : Hid (sfAns l x = .tuple #[.int .i64 0, .bool false]) := by
          have : idxF (eqI x) l 0 = -1 := by rw [K.out, List.drop_of_length_le (by omega)]; rfl
          show _ = _; unfold sfAns; rw [this, if_neg (by omega)]
        go_wp2
        go_ret2
        exact ⟨by rw [K2.out]; rfl, HB.out⟩
  · have hans : Hid (sfAns l x = .tuple #[.int .i64 0, .bool false]) := if_neg fun h => h1 h.1
    go_enter Try.func18, Try.ntmps18
    go_wp2_with fail
    refine (l12Good_any l A c (by omega) _ hr).mono ?_
    rintro e w1 ⟨rfl, hb1⟩
    go_wp2
    go_ret2
    exact ⟨by rw [hans.out]; rfl, hb1⟩

/-- every k-th number from place i on -/
def everyF (l : List Int) (k : Nat) : Nat → Nat → List Int
  | 0, _ => []
  | f + 1, i => match l[i]? with
    | some x => x :: everyF l k f (i + k)
    | none => []

/-- where EveryNth answers -/
def enOk (l : List Int) (k s : Int) : Bool := popB l && inB k 1 20 && inB s 0 (k - 1)
theorem enOk_true {l : List Int} {k s : Int} (h : enOk l k s = true) : popB l = true ∧ inB k 1 20 = true ∧ inB s 0 (k - 1) = true := by simpa [enOk, and_assoc] using h
def enOut (l : List Int) (k s : Int) : List Int := if enOk l k s = true then everyF l k.toNat l.length s.toNat else []

set_option maxHeartbeats 400000 in
theorem implEveryNth_yes (l : List Int) (k s : Int) (A : Option Addr) (c : Nat) (hl : l.length ≤ 1048576) (w : World) (hr : Rd w 1 A l.length (cellsI l)) (hok : enOk l k s = true) :
    Calls Try.prog 21 #[.slice A l.length c, .int .i64 k, .int .i64 s] w fun e w' => ∃ v, e = .returned (.tuple #[v, .bool true]) ∧ SlI w.heap.size w' (everyF l k.toNat l.length s.toNat) v ∧ Below w.heap.size w w' := by
  have HI := fun W h => Lib.hid (implIsPopulation_any l A c (by omega) W h)
  have HR := Lib.hid hr
  clear hr
  obtain ⟨h1, h2, h3⟩ := enOk_true hok
  clear hok
  have b2 := inB_true h2
  have b3 := inB_true h3
  obtain ⟨i0, hi, hz0, hz1, hz2⟩ := info_parts infoI
  obtain ⟨kn, rfl⟩ := Int.eq_ofNat_of_zero_le (show 0 ≤ k by omega)
  obtain ⟨sn, rfl⟩ := Int.eq_ofNat_of_zero_le (show 0 ≤ s by omega)
  simp only [Int.toNat_natCast]
  have hln := popB_len h1
  go_enter Try.func21, Try.ntmps21
  go_wp2_with (first
    | (go_at_call 39; refine (within_any _ _ _ _).mono ?_; rintro e w' ⟨rfl, rfl⟩)
    | (go_at_call 14; refine (HI _ HR.out).out.mono ?_; rintro e w' ⟨rfl, rfl⟩))
  go_loopw [8, 9] (fun v8 v9 wr => ∃ (i f : Nat) (acc : List Int) (A' : Option Addr) (c' : Nat), v9 = .int .i64 i ∧ v8 = .slice A' acc.length c' ∧ l.length ≤ i + f ∧ i ≤ 60 ∧ acc.length + f ≤ 20 ∧ wr.ownsRow w.heap.size 3 1 (.slice A' acc.length c') acc.length (cellsI acc) ∧ Below w.heap.size w wr ∧ Hid (everyF l kn l.length sn = acc ++ everyF l kn f i)) (fun _ v9 _ => 80 - (intOf v9).toNat)
  case atStart => exact ⟨sn, l.length, [], none, 0, rfl, rfl, by omega, by omega, by simp; omega, World.ownsRow_nil _ _ _ _, Below.refl _ _, by show _ = _; rfl⟩
  case round =>
    obtain ⟨i, f, acc, A', c', rfl, rfl, hif, hi60, hac, hown, hb, K⟩ := hrel
    by_cases hlt : i < l.length
    · obtain ⟨gb, go, rfl, hgb, hcell⟩ := HR.out.2 (by omega)
      have c0 : wr.cell? ⟨gb, go + i, none⟩ = some (.int .i64 l[i]) := (hb.cell (p := ⟨gb, go + i, none⟩) hgb).trans (cellsI_at hcell hlt)
      have hlt' : ((i : Int) < (l.length : Int)) := by omega
      clear hcell
      obtain ⟨g, rfl⟩ : ∃ g, f = g + 1 := ⟨f - 1, by omega⟩
      have K2 : Hid (everyF l kn l.length sn = (acc ++ [l[i]]) ++ everyF l kn g (i + kn)) := by
        show _ = _; rw [K.out]; simp [everyF, hlt]
      have HB := Lib.hid hb
      have HO := Lib.hid hown
      have hsz := hb.size
      clear K hb hown
      go_wp2_with (at_builtin; refine wpList_push rfl _ _ 22 rfl w.heap.size 3 i0 (.int .i64 0) 1 8 Try.underlying22 hi hz0 hz1 hz2 rfl (by decide) (by decide) _ _ _ _ rfl HO.out #[.int .i64 l[i]] _ rfl rfl (by simp [Value.oneCell']) (by omega) hsz ?_; intro A2 c2 w2 hown2 hg2)
      go_roundw
      case rel => exact ⟨i + kn, g, acc ++ [l[i]], A2, c2, by go_num, by simp, by omega, by omega, by simp; omega, by simpa [cellsI] using hown2, Below.row HB.out HO.out hg2 (Nat.le_refl _) hsz, K2⟩
      case measure => simp [intOf]; omega
    · have K2 : Hid (everyF l kn l.length sn = acc) := by
        show _ = _; rw [K.out]
        cases f with
        | zero => simp [everyF]
        | succ f => simp [everyF, List.getElem?_eq_none (Nat.le_of_not_lt hlt)]
      have HB := Lib.hid hb
      have HO := Lib.hid hown
      clear K hb hown
      go_wp2
      go_ret2
      exact ⟨_, rfl, ⟨A', c', by rw [K2.out]; rfl, by rw [K2.out]; exact HO.out⟩, HB.out⟩


set_option maxHeartbeats 400000 in
theorem implEveryNth_any (l : List Int) (k s : Int) (A : Option Addr) (c : Nat) (hl : l.length ≤ 1048576) (hk : I64 k) (w : World) (hr : Rd w 1 A l.length (cellsI l)) :
    Calls Try.prog 21 #[.slice A l.length c, .int .i64 k, .int .i64 s] w fun e w' => ∃ v, e = .returned (.tuple #[v, .bool (enOk l k s)]) ∧ SlI w.heap.size w' (enOut l k s) v ∧ Below w.heap.size w w' := by
  by_cases hok : enOk l k s = true
  · rw [hok, enOut, if_pos hok]
    exact implEveryNth_yes l k s A c hl w hr hok
  · have e1 : Hid (enOk l k s = false) := by show _ = _; simpa using hok
    have e2 : Hid (enOut l k s = []) := if_neg hok
    have HK : Hid (¬ (popB l = true ∧ inB k 1 20 = true ∧ inB s 0 (k - 1) = true)) := fun h => hok (by simp [enOk, h])
    have HI := fun W h => Lib.hid (implIsPopulation_any l A c (by omega) W h)
    have HR := Lib.hid hr
    clear hok hr
    by_cases h2 : inB k 1 20 = true
    · have b2 := inB_true h2
      go_enter Try.func21, Try.ntmps21
      go_wp2_with (first
        | (go_at_call 39; refine (within_any _ _ _ _).mono ?_; rintro e w' ⟨rfl, rfl⟩)
        | (go_at_call 14; refine (HI _ HR.out).out.mono ?_; rintro e w' ⟨rfl, rfl⟩))
      all_goals first
        | (go_ret2; exact ⟨_, by rw [e1.out]; rfl, by rw [e2.out]; exact SlI.nil _ _, Below.refl _ _⟩)
        | (exfalso; have := HK.out; clear HK e1 e2 HI HR; simp_all; done)
    · go_enter Try.func21, Try.ntmps21
      go_wp2_with (first
        | (go_at_call 39; refine (within_any _ _ _ _).mono ?_; rintro e w' ⟨rfl, rfl⟩)
        | (go_at_call 14; refine (HI _ HR.out).out.mono ?_; rintro e w' ⟨rfl, rfl⟩))
      all_goals first
        | (go_ret2; exact ⟨_, by rw [e1.out]; rfl, by rw [e2.out]; exact SlI.nil _ _, Below.refl _ _⟩)
        | (exfalso; have := HK.out; clear HK e1 e2 HI HR; simp_all; done)

end Go.Proofs.Ytnhcghlhicignaa
