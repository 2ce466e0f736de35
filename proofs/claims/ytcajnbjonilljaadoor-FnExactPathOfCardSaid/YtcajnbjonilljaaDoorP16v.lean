/-
  The hashes of entries and the root of a ledger, by the reference and by the program. Written by mk16v.py.
  Conditions: those written at each theorem; the program's way asks the library's table.
-/
import Derived.Test.YtcajnbjonilljaaDoorP16u
namespace Go.Proofs.YtcajnbjonilljaaDoor
open Go.RowKit Go.BigFrame
set_option maxRecDepth 100000

/-- rounds, till one hash is left -/
def rootN : Nat → List Int → Int
  | 0, l => l.headD 0
  | n + 1, l => if l.length ≤ 1 then l.headD 0 else rootN n (roundF l)
theorem rootN_one (n : Nat) (l : List Int) (h : l.length ≤ 1) : rootN n l = l.headD 0 := by
  cases n with
  | zero => rfl
  | succ n => rw [rootN, if_pos h]
theorem rootN_more (n : Nat) (l : List Int) (h : ¬ l.length ≤ 1) (hn : l.length ≤ n) : ∃ m, n = m + 1 ∧ rootN n l = rootN m (roundF l) ∧ (roundF l).length ≤ m := by
  obtain ⟨m, rfl⟩ : ∃ m, n = m + 1 := ⟨n - 1, by omega⟩
  exact ⟨m, rfl, by rw [rootN, if_neg h], by rw [len_round]; omega⟩
def lenV : Value → Nat
  | .slice _ n _ => n
  | _ => 0
theorem goodL_true {l : List ByteArray} (h : goodL l = true) : (1 ≤ l.length ∧ l.length ≤ 8) ∧ ∀ y ∈ l, y.size ≤ 40 := by
  simp only [goodL, Bool.and_eq_true, List.all_eq_true] at h
  have h1 := inB_true h.1
  exact ⟨by omega, fun y hy => (entryB_true (h.2 y hy)).2⟩
def rtAns (l : List ByteArray) : Value := if goodL l = true then .tuple #[.int .i64 (rootN 8 (l.map leafF)), .bool true] else .tuple #[.int .i64 0, .bool false]
theorem rtAns_form (l : List ByteArray) : ∃ (x : Int) (y : Bool), rtAns l = .tuple #[.int .i64 x, .bool y] := by
  unfold rtAns; split <;> exact ⟨_, _, rfl⟩

set_option maxHeartbeats 1000000 in
theorem l16Leaves_any (l : List ByteArray) (A : Option Addr) (c : Nat) (hl : l.length ≤ 8) (hbd : ∀ y ∈ l, y.size ≤ 40) (w : World) (hr : Rd w 1 A l.length (cellsS l)) :
    Calls Tryd.prog 22 #[.slice A l.length c] w fun e w' => ∃ v, e = .returned v ∧ SlI w.heap.size w' (l.map leafF) v ∧ Below w.heap.size w w' := by
  obtain ⟨i0, hi, hz0, hz1, hz2⟩ := info_parts infoI
  have E0 := Lib.hid (own_empty (B := w.heap.size) w 3 1 (Nat.le_refl _))
  have B0 := Lib.hid (Below.alloc (Below.refl w.heap.size w) (Nat.le_refl _) (.cells #[] 3))
  have HR := Lib.hid hr
  clear hr
  go_enter Tryd.func22, Tryd.ntmps22
  go_wp2_with fail
  go_loopw [3, 4] (fun v3 v4 wr => ∃ (k : Nat) (A' : Option Addr) (c' : Nat), k ≤ l.length ∧ v4 = .int .i64 k ∧ v3 = .slice A' k c' ∧ wr.ownsRow w.heap.size 3 1 (.slice A' k c') k (cellsI ((l.take k).map leafF)) ∧ Below w.heap.size w wr) (fun _ v4 _ => l.length - (intOf v4).toNat)
  case atStart => exact ⟨0, _, _, Nat.zero_le _, rfl, rfl, E0.out, B0.out⟩
  case round =>
    clear E0 B0
    obtain ⟨k, A', c', hk, rfl, rfl, hown, hb⟩ := hrel
    by_cases hlt : k < l.length
    · have hlt' : (k : Int) < (l.length : Int) := by omega
      obtain ⟨gb, go, rfl, hgb, hcell⟩ := (HR.out.below hb).2 (by omega)
      have c0 := cellsS_at hcell hlt
      have hy := hbd _ (List.getElem_mem hlt)
      have HL := fun W => Lib.hid (l16Leaf_any l[k] (by omega) W)
      have HT : Hid ((l.take (k + 1)).map leafF = (l.take k).map leafF ++ [leafF l[k]]) := by show _ = _; rw [take_succ' l k hlt, List.map_append]; rfl
      have hsz := hb.size
      have HO := Lib.hid hown
      have HB := Lib.hid hb
      clear hcell hown hb
      go_wp2_with (first
        | (go_at_call 34; refine (HL _).out.mono ?_; rintro e w' ⟨rfl, rfl⟩)
        | (at_builtin; refine wpList_pushG rfl _ _ 36 rfl w.heap.size 3 i0 (.int .i64 0) 1 8 Tryd.underlying36 hi hz0 hz1 hz2 rfl (by decide) (by decide) _ _ _ _ rfl HO.out #[.int .i64 (leafF l[k])] _ _ rfl (by simp) rfl (by simp [Value.oneCell']) (by omega) hsz ?_; intro A5 c5 w5 hown5 hg5 hpl5))
      go_roundw
      case rel => exact ⟨k + 1, A5, c5, by omega, by go_num, by simp, by rw [HT.out]; simpa [cellsI] using hown5, Below.row HB.out HO.out hg5 (Nat.le_refl _) hsz⟩
      case measure => simp [intOf]; omega
    · obtain rfl : k = l.length := by omega
      have HO := Lib.hid hown
      have HB := Lib.hid hb
      clear hown hb
      go_wp2
      go_ret
      exact ⟨_, rfl, ⟨A', c', by simp, by simpa using HO.out⟩, HB.out⟩

set_option maxHeartbeats 1000000 in
theorem hashesOf_any (l : List ByteArray) (A : Option Addr) (c : Nat) (hl : l.length ≤ 8) (hbd : ∀ y ∈ l, y.size ≤ 40) (w : World) (hr : Rd w 1 A l.length (cellsS l)) :
    Calls Tryd.prog 19 #[.slice A l.length c] w fun e w' => ∃ v, e = .returned v ∧ SlI w.heap.size w' (l.map leafF) v ∧ Below w.heap.size w w' := by
  obtain ⟨i0, hi, hz0, hz1, hz2⟩ := info_parts infoI
  have E0 := Lib.hid (own_empty (B := w.heap.size) w 3 1 (Nat.le_refl _))
  have B0 := Lib.hid (Below.alloc (Below.refl w.heap.size w) (Nat.le_refl _) (.cells #[] 3))
  have HR := Lib.hid hr
  clear hr
  go_enter Tryd.func19, Tryd.ntmps19
  go_wp2_with fail
  go_loopw [3, 8] (fun v3 v8 wr => ∃ (k : Nat) (A' : Option Addr) (c' : Nat), k ≤ l.length ∧ v8 = .int .i64 k ∧ v3 = .slice A' k c' ∧ wr.ownsRow w.heap.size 3 1 (.slice A' k c') k (cellsI ((l.take k).map leafF)) ∧ Below w.heap.size w wr) (fun _ v8 _ => l.length - (intOf v8).toNat)
  case atStart => exact ⟨0, _, _, Nat.zero_le _, rfl, rfl, World.ownsRow_nil _ _ _ _, Below.refl _ _⟩
  case round =>
    clear E0 B0
    obtain ⟨k, A', c', hk, rfl, rfl, hown, hb⟩ := hrel
    by_cases hlt : k < l.length
    · have hlt' : (k : Int) < (l.length : Int) := by omega
      obtain ⟨gb, go, rfl, hgb, hcell⟩ := (HR.out.below hb).2 (by omega)
      have c0 := cellsS_at hcell hlt
      have hy := hbd _ (List.getElem_mem hlt)
      have HL := fun W => Lib.hid (entryHash_any l[k] (by omega) W)
      have HT : Hid ((l.take (k + 1)).map leafF = (l.take k).map leafF ++ [leafF l[k]]) := by show _ = _; rw [take_succ' l k hlt, List.map_append]; rfl
      have hsz := hb.size
      have HO := Lib.hid hown
      have HB := Lib.hid hb
      clear hcell hown hb
      go_wp2_with (first
        | (go_at_call 31; refine (HL _).out.mono ?_; rintro e w' ⟨rfl, rfl⟩)
        | (at_builtin; refine wpList_pushG rfl _ _ 36 rfl w.heap.size 3 i0 (.int .i64 0) 1 8 Tryd.underlying36 hi hz0 hz1 hz2 rfl (by decide) (by decide) _ _ _ _ rfl HO.out #[.int .i64 (leafF l[k])] _ _ rfl (by simp) rfl (by simp [Value.oneCell']) (by omega) hsz ?_; intro A5 c5 w5 hown5 hg5 hpl5))
      go_roundw
      case rel => exact ⟨k + 1, A5, c5, by omega, by go_num, by simp, by rw [HT.out]; simpa [cellsI] using hown5, Below.row HB.out HO.out hg5 (Nat.le_refl _) hsz⟩
      case measure => simp [intOf]; omega
    · obtain rfl : k = l.length := by omega
      have HO := Lib.hid hown
      have HB := Lib.hid hb
      clear hown hb
      go_wp2
      go_ret
      exact ⟨_, rfl, ⟨A', c', by simp, by simpa using HO.out⟩, HB.out⟩

set_option maxHeartbeats 1000000 in
theorem l16Root_any (l : List ByteArray) (A : Option Addr) (c : Nat) (hl : l.length ≤ 8) (hl0 : 1 ≤ l.length) (hbd : ∀ y ∈ l, y.size ≤ 40) (w : World) (hr : Rd w 1 A l.length (cellsS l)) :
    Calls Tryd.prog 17 #[.slice A l.length c] w fun e w' => e = .returned (.int .i64 (rootN 8 (l.map leafF))) ∧ Below w.heap.size w w' := by
  have HR := Lib.hid hr
  clear hr
  go_enter Tryd.func17, Tryd.ntmps17
  go_wp2_with fail
  refine (l16Leaves_any l A c hl hbd _ (HR.out)).mono ?_
  rintro e w1 ⟨v, rfl, ⟨A1, c1, rfl, ho1⟩, hb1⟩
  obtain ⟨g1, rfl⟩ := own_some ho1 (by simp; omega)
  have O1 := Lib.hid (ho1)
  have B1 := Lib.hid (hb1)
  clear ho1 hb1
  go_wp2_with fail
  go_loopw [3] (fun v wr => ∃ (cur : List Int) (n g c' : Nat), 1 ≤ cur.length ∧ cur.length ≤ 8 ∧ cur.length ≤ n ∧ (∀ x ∈ cur, 0 ≤ x ∧ x ≤ 999999) ∧ v = .slice (some ⟨g, 0, none⟩) cur.length c' ∧ wr.ownsRow w.heap.size 3 1 (.slice (some ⟨g, 0, none⟩) cur.length c') cur.length (cellsI cur) ∧ Below w.heap.size w wr ∧ Hid (rootN 8 (l.map leafF) = rootN n cur)) (fun v _ => lenV v)
  case atStart => exact ⟨l.map leafF, 8, g1, c1, by simpa using hl0, by simpa using hl, by simpa using hl, leaves_bd l, by simp, O1.out, B1.out, by show _ = _; rfl⟩
  case round =>
    clear O1 B1
    obtain ⟨cur, n, g, c', hc0, hc8, hcn, hcb, rfl, hown, hb, K⟩ := hrel
    have HB := Lib.hid hb
    have HO := Lib.hid hown
    have hsz := hb.size
    by_cases h1 : cur.length ≤ 1
    · have hnot : ¬ (1 : Int) < (cur.length : Int) := by omega
      have K2 := Lib.hid (K.out.trans (rootN_one n cur h1))
      obtain ⟨x, rfl⟩ : ∃ x, cur = [x] := by
        rcases cur with _ | ⟨x, _ | ⟨y, r⟩⟩
        · simp at hc0
        · exact ⟨x, rfl⟩
        · simp at h1
      obtain ⟨gb, go, he, hgb, hcell⟩ := (Rd.of_own hown).2 (by simp)
      cases he
      have c0 : wr.cell? ⟨g, 0, none⟩ = some (.int .i64 x) := hcell 0 _ rfl
      clear hcell hown hb K
      simp only [List.length_singleton] at *
      go_wp2
      go_ret
      exact ⟨by rw [K2.out]; rfl, HB.out⟩
    · have hyes : (1 : Int) < (cur.length : Int) := by omega
      obtain ⟨m, rfl, hm, hml⟩ := rootN_more n cur h1 hcn
      have K2 := Lib.hid (K.out.trans hm)
      clear hown hb K
      go_wp2_with fail
      refine (l16Round_any cur g 0 c' hc0 hc8 hcb _ (Rd.of_own HO.out)).mono ?_
      rintro e w2 ⟨v, rfl, ⟨A2, c2, rfl, ho2⟩, hb2⟩
      have hl2 := len_round cur
      obtain ⟨g2, rfl⟩ := own_some ho2 (by omega)
      have O2 := Lib.hid (own_base ho2 hsz)
      have B2 := Lib.hid (Below.transB HB.out (Nat.le_refl _) hb2)
      clear ho2 hb2
      go_wp2
      go_roundw
      case rel => exact ⟨roundF cur, m, g2, c2, by omega, by omega, hml, bd_round cur hcb, by rw [len_round], O2.out, B2.out, K2⟩
      case measure => simp [lenV]; omega

theorem specRootOf_any (l : List ByteArray) (A : Option Addr) (c : Nat) (hl : l.length ≤ 1048577) (hbd : ∀ y ∈ l, y.size ≤ 1048576) (w : World) (hr : Rd w 1 A l.length (cellsS l)) :
    Calls Tryd.prog 6 #[.slice A l.length c] w fun e w' => e = .returned (rtAns l) ∧ Below w.heap.size w w' := by
  have HI := Lib.hid (l16Good_any l A c hl (fun y hy => Nat.le_trans (hbd y hy) (by decide)) w hr)
  by_cases hg : goodL l = true
  · obtain ⟨⟨hl0, hl⟩, hb40⟩ := goodL_true hg
    have HX := Lib.hid (l16Root_any l A c hl hl0 hb40 w hr)
    have HG := Lib.hid hg
    rw [hg] at HI
    clear hb40 hbd hg hr
    go_enter Tryd.func6, Tryd.ntmps6
    go_wp2_with (first | (go_at_call 16; refine HI.out.mono ?_; rintro e w' ⟨rfl, rfl⟩) | (go_at_call 17; refine HX.out.mono ?_; rintro e w1 ⟨rfl, hb1⟩))
    go_ret2
    exact ⟨by rw [rtAns, HG.out]; rfl, hb1⟩
  · have hg' : goodL l = false := by simpa using hg
    rw [hg'] at HI
    have HG := Lib.hid hg'
    clear hg hg' hr
    go_enter Tryd.func6, Tryd.ntmps6
    go_wp2_with (go_at_call 16; refine HI.out.mono ?_; rintro e w' ⟨rfl, rfl⟩)
    go_ret2
    exact ⟨by rw [rtAns, HG.out]; rfl, Below.refl _ _⟩

set_option maxHeartbeats 1000000 in
theorem implRootOf_any (l : List ByteArray) (A : Option Addr) (c : Nat) (hl : l.length ≤ 1048577) (hbd : ∀ y ∈ l, y.size ≤ 1048576) (w : World) (hr : Rd w 1 A l.length (cellsS l)) (hT : TabP w) :
    Calls Tryd.prog 8 #[.slice A l.length c] w fun e w' => e = .returned (rtAns l) ∧ Below w.heap.size w w' := by
  have HR := Lib.hid hr
  have HTab := Lib.hid hT
  have HI := Lib.hid (implIsLedger_any l A c hl (fun y hy => Nat.le_trans (hbd y hy) (by decide)) w hr)
  clear hr hT
  by_cases hg : goodL l = true
  · obtain ⟨⟨hl0, hl⟩, hb40⟩ := goodL_true hg
    have HBD := Lib.hid hb40
    have HG := Lib.hid hg
    rw [hg] at HI
    clear hb40 hbd hg
    go_enter Tryd.func8, Tryd.ntmps8
    go_wp2_with fail
    refine HI.out.mono ?_
    rintro e w0 ⟨rfl, hb0⟩
    have B0 := Lib.hid hb0
    have hs0 := hb0.size
    clear hb0
    go_wp2_with fail
    refine (hashesOf_any l A c hl HBD.out _ (HR.out.below B0.out)).mono ?_
    rintro e w1 ⟨v, rfl, ⟨A1, c1, rfl, ho1⟩, hb1⟩
    obtain ⟨g1, rfl⟩ := own_some ho1 (by simp; omega)
    have O1 := Lib.hid (own_base ho1 hs0)
    have B1 := Lib.hid (Below.transB B0.out (Nat.le_refl _) hb1)
    clear ho1 hb1
    go_wp2_with fail
    go_loopw [4] (fun v wr => ∃ (cur : List Int) (n g c' : Nat), 1 ≤ cur.length ∧ cur.length ≤ 8 ∧ cur.length ≤ n ∧ (∀ x ∈ cur, 0 ≤ x ∧ x ≤ 999999) ∧ v = .slice (some ⟨g, 0, none⟩) cur.length c' ∧ wr.ownsRow w.heap.size 3 1 (.slice (some ⟨g, 0, none⟩) cur.length c') cur.length (cellsI cur) ∧ Below w.heap.size w wr ∧ Hid (rootN 8 (l.map leafF) = rootN n cur)) (fun v _ => lenV v)
    case atStart => exact ⟨l.map leafF, 8, g1, c1, by simpa using hl0, by simpa using hl, by simpa using hl, leaves_bd l, by simp, O1.out, B1.out, by show _ = _; rfl⟩
    case round =>
      clear O1 B1
      obtain ⟨cur, n, g, c', hc0, hc8, hcn, hcb, rfl, hown, hb, K⟩ := hrel
      have HB := Lib.hid hb
      have HO := Lib.hid hown
      have hsz := hb.size
      by_cases h1 : cur.length ≤ 1
      · have hnot : ¬ (1 : Int) < (cur.length : Int) := by omega
        have K2 := Lib.hid (K.out.trans (rootN_one n cur h1))
        obtain ⟨x, rfl⟩ : ∃ x, cur = [x] := by
          rcases cur with _ | ⟨x, _ | ⟨y, r⟩⟩
          · simp at hc0
          · exact ⟨x, rfl⟩
          · simp at h1
        obtain ⟨gb, go, he, hgb, hcell⟩ := (Rd.of_own hown).2 (by simp)
        cases he
        have c0 : wr.cell? ⟨g, 0, none⟩ = some (.int .i64 x) := hcell 0 _ rfl
        clear hcell hown hb K
        simp only [List.length_singleton] at *
        go_wp2
        go_ret2
        exact ⟨by rw [rtAns, if_pos HG.out, K2.out]; rfl, HB.out⟩
      · have hyes : (1 : Int) < (cur.length : Int) := by omega
        obtain ⟨m, rfl, hm, hml⟩ := rootN_more n cur h1 hcn
        have K2 := Lib.hid (K.out.trans hm)
        clear hown hb K
        go_wp2_with fail
        refine (round_any cur g 0 c' hc0 hc8 (own_cap HO.out) hcb _ (HTab.out.below HB.out) (Rd.of_own HO.out)).mono ?_
        rintro e w2 ⟨v, rfl, ⟨A2, c2, rfl, ho2⟩, hb2⟩
        have hl2 := len_round cur
        obtain ⟨g2, rfl⟩ := own_some ho2 (by omega)
        have O2 := Lib.hid (own_base ho2 hsz)
        have B2 := Lib.hid (Below.transB HB.out (Nat.le_refl _) hb2)
        clear ho2 hb2
        go_wp2
        go_roundw
        case rel => exact ⟨roundF cur, m, g2, c2, by omega, by omega, hml, bd_round cur hcb, by rw [len_round], O2.out, B2.out, K2⟩
        case measure => simp [lenV]; omega
  · have hg' : goodL l = false := by simpa using hg
    rw [hg'] at HI
    have HG := Lib.hid hg'
    clear hg hg'
    go_enter Tryd.func8, Tryd.ntmps8
    go_wp2_with fail
    refine HI.out.mono ?_
    rintro e w0 ⟨rfl, hb0⟩
    go_wp2
    go_ret2
    exact ⟨by rw [rtAns, HG.out]; rfl, hb0⟩

end Go.Proofs.YtcajnbjonilljaaDoor
