/-
  The path of an entry, by the reference and by the program. Written by mk16x.py.
  Conditions: those written at each theorem; the program's way asks the library's table.
-/
import Derived.Test.YtcajnbjonilljaaDoorP16v
import Derived.Test.YtcajnbjonilljaaDoorShPair
namespace Go.Proofs.YtcajnbjonilljaaDoor
open Go.RowKit Go.BigFrame
set_option maxRecDepth 100000

/-- what a round adds to a path -/
def partF (i : Nat) (l : List Int) : List (Int × Int) := if i % 2 = 1 then [(0, (l[i - 1]?).getD 0)] else if i + 1 < l.length then [(1, (l[i + 1]?).getD 0)] else []
def pathN : Nat → Nat → List Int → List (Int × Int)
  | 0, _, _ => []
  | n + 1, i, l => if l.length ≤ 1 then [] else partF i l ++ pathN n (i / 2) (roundF l)
theorem pathN_one (n i : Nat) (l : List Int) (h : l.length ≤ 1) : pathN n i l = [] := by
  cases n with
  | zero => rfl
  | succ n => rw [pathN, if_pos h]
theorem pathN_more (n i : Nat) (l : List Int) (h : ¬ l.length ≤ 1) (hn : l.length ≤ n) : ∃ m, n = m + 1 ∧ pathN n i l = partF i l ++ pathN m (i / 2) (roundF l) ∧ (roundF l).length ≤ m := by
  obtain ⟨m, rfl⟩ : ∃ m, n = m + 1 := ⟨n - 1, by omega⟩
  exact ⟨m, rfl, by rw [pathN, if_neg h], by rw [len_round]; omega⟩
theorem len_part (i : Nat) (l : List Int) : (partF i l).length ≤ 1 := by unfold partF; split <;> (try split) <;> simp
theorem len_path : ∀ (n i : Nat) (l : List Int), (pathN n i l).length ≤ n
  | 0, _, _ => by simp [pathN]
  | n + 1, i, l => by
    rw [pathN]; split
    · simp
    · have := len_path n (i / 2) (roundF l); have := len_part i l; simp; omega
def poOk (l : List ByteArray) (i : Int) : Bool := goodL l && inB i 0 ((l.length : Int) - 1)
def poOut (l : List ByteArray) (i : Int) : List (Int × Int) := if poOk l i = true then pathN 8 i.toNat (l.map leafF) else []
theorem len_po (l : List ByteArray) (i : Int) : (poOut l i).length ≤ 1048576 := by
  unfold poOut; split
  · exact Nat.le_trans (len_path _ _ _) (by decide)
  · simp
theorem own_types_ne {w : World} {B1 B2 : Nat} {e1 e2 : TypeId} {s1 s2 n1 n2 : Nat} {v1 v2 : Value} {x1 x2 : List Value} (h1 : w.ownsRow B1 e1 s1 v1 n1 x1) (h2 : w.ownsRow B2 e2 s2 v2 n2 x2) (hne : e1 ≠ e2) :
    v1.ownBlock = none ∨ v1.ownBlock ≠ v2.ownBlock := by
  rcases h1.2 with ⟨rfl, _⟩ | ⟨g1, cap1, cur1, rfl, _, hb1, _⟩
  · exact .inl rfl
  · rcases h2.2 with ⟨rfl, _⟩ | ⟨g2, cap2, cur2, rfl, _, hb2, _⟩
    · exact .inr (by simp [Value.ownBlock])
    · refine .inr fun e => ?_
      obtain rfl : g1 = g2 := by simpa [Value.ownBlock] using e
      rw [hb1] at hb2
      simp at hb2
      exact hne hb2.2

set_option maxHeartbeats 4000000 in
theorem specPathOf_any (l : List ByteArray) (i : Int) (A : Option Addr) (c : Nat) (hl : l.length ≤ 1048577) (hbd : ∀ y ∈ l, y.size ≤ 1048576) (w : World) (hr : Rd w 1 A l.length (cellsS l)) :
    Calls Tryd.prog 10 #[.slice A l.length c, .int .i64 i] w fun e w' => ∃ v, e = .returned (.tuple #[v, .bool (poOk l i)]) ∧ SlPair w.heap.size w' (poOut l i) v ∧ Below w.heap.size w w' := by
  obtain ⟨i0, hi, hz0, hz1, hz2⟩ := info_parts infoPair
  have HR := Lib.hid hr

  have E0 := Lib.hid (own_empty (B := w.heap.size) w 40 2 (Nat.le_refl _))
  have BE := Lib.hid (Below.alloc (Below.refl w.heap.size w) (Nat.le_refl _) (.cells #[] 40))
  have HI := fun W k => Lib.hid (l16Good_any l A c hl (fun y hy => Nat.le_trans (hbd y hy) (by decide)) W k)
  have HN := fun W => Lib.hid (l1In_any i 0 ((l.length : Int) - 1) W)
  clear hr
  by_cases hg : goodL l = true
  · obtain ⟨⟨hl0, hl⟩, hb40⟩ := goodL_true hg
    have HBD := Lib.hid hb40
    rw [hg] at HI
    by_cases hq : inB i 0 ((l.length : Int) - 1) = true
    · have HG : Hid (poOk l i = true) := by show _ = _; rw [poOk, hg, hq]; rfl
      have hi2 := inB_true hq
      rw [hq] at HN
      clear hb40 hbd hg hq
      go_enter Tryd.func10, Tryd.ntmps10
      go_wp2_with fail
      refine (HI _ (HR.out.below BE.out)).out.mono ?_
      rintro e w0 ⟨rfl, rfl⟩
      go_wp2_with (go_at_call 21; refine (HN _).out.mono ?_; rintro e w' ⟨rfl, rfl⟩)
      refine (l16Leaves_any l A c hl HBD.out _ (HR.out.below BE.out)).mono ?_
      rintro e w1 ⟨v, rfl, ⟨A1, c1, rfl, ho1⟩, hb1⟩
      obtain ⟨g1, rfl⟩ := own_some ho1 (by simp; omega)
      have hsE := BE.out.size
      have O1 := Lib.hid (own_base ho1 hsE)
      have B1 := Lib.hid (Below.transB BE.out (Nat.le_refl _) hb1)
      have P1 : Hid (w1.ownsRow w.heap.size 40 2 (.slice (some ⟨w.heap.size, 0, none⟩) 0 0) 0 []) := Lib.hid (own_below E0.out hb1)
      clear ho1 hb1
      go_wp2_with fail
      go_loopw [1, 6, 7] (fun v1 vp vh wr => ∃ (cur : List Int) (acc : List (Int × Int)) (n j : Nat) (A' : Option Addr) (cp g c' : Nat), 1 ≤ cur.length ∧ cur.length ≤ 8 ∧ cur.length ≤ n ∧ j < cur.length ∧ acc.length + n ≤ 8 ∧ (∀ x ∈ cur, 0 ≤ x ∧ x ≤ 999999) ∧ v1 = .int .i64 j ∧ vp = .slice A' acc.length cp ∧ vh = .slice (some ⟨g, 0, none⟩) cur.length c' ∧
        wr.ownsRow w.heap.size 40 2 (.slice A' acc.length cp) acc.length (cells2 acc) ∧ wr.ownsRow w.heap.size 3 1 (.slice (some ⟨g, 0, none⟩) cur.length c') cur.length (cellsI cur) ∧ Below w.heap.size w wr ∧ Hid (pathN 8 i.toNat (l.map leafF) = acc ++ pathN n j cur)) (fun _ _ vh _ => lenV vh)
      case atStart => exact ⟨l.map leafF, [], 8, i.toNat, _, _, g1, c1, by simpa using hl0, by simpa using hl, by simpa using hl, by simp; omega, by simp, leaves_bd l, by congr 1; omega, rfl, by simp, P1.out, O1.out, B1.out, by show _ = _; rfl⟩
      case round =>
        clear O1 B1 P1
        obtain ⟨cur, acc, n, j, A', cp, g, c', hc0, hc8, hcn, hj, han, hcb, rfl, rfl, rfl, hownp, hown, hb, K⟩ := hrel
        have HB := Lib.hid hb
        have HOH := Lib.hid hown
        have HOP := Lib.hid hownp
        have hsz := hb.size
        by_cases h1 : cur.length ≤ 1
        · have hnot : ¬ (1 : Int) < (cur.length : Int) := by omega
          have K2 : Hid (poOut l i = acc) := by show _ = _; rw [poOut, if_pos HG.out, K.out, pathN_one n j cur h1]; simp
          clear hown hownp hb K
          go_wp2
          go_ret2
          exact ⟨_, by rw [HG.out]; rfl, by rw [K2.out]; exact ⟨A', cp, rfl, HOP.out⟩, HB.out⟩
        · have hyes : (1 : Int) < (cur.length : Int) := by omega
          obtain ⟨m, rfl, hm, hml⟩ := pathN_more n j cur h1 hcn
          have K1 := Lib.hid (K.out.trans (congrArg (acc ++ ·) hm))
          obtain ⟨gb, go, he, hgb, hcell⟩ := (Rd.of_own hown).2 (by omega)
          cases he
          have hci : ∀ q (hq : q < cur.length), wr.cell? ⟨g, q, none⟩ = some (.int .i64 cur[q]) := fun q hq => by
            have := hcell q (.int .i64 cur[q]) (by simp [cellsI, hq])
            rwa [Nat.zero_add] at this
          have hd : (j : Int).tdiv 2 = ((j / 2 : Nat) : Int) := by rw [Int.tdiv_eq_ediv_of_nonneg (by omega)]; omega
          clear hown hownp hb K hcell
          by_cases hodd : j % 2 = 1
          · have hmd : (j : Int).tmod 2 = 1 := by rw [Int.tmod_eq_emod_of_nonneg (by omega)]; omega
            have c0 := hci (j - 1) (by omega)
            have k1 : (0 : Int) ≤ (j : Int) - 1 := by omega
            have k2 : (j : Int) - 1 < (cur.length : Int) := by omega
            have k3 : ((j : Int) - 1).toNat = j - 1 := by omega
            clear hci
            have HPt : Hid (partF j cur = [(0, cur[j - 1]'(by omega))]) := by show _ = _; unfold partF; rw [if_pos hodd, List.getElem?_eq_getElem (by omega)]; rfl
            have K2 : Hid (pathN 8 i.toNat (l.map leafF) = (acc ++ [(0, cur[j - 1]'(by omega))]) ++ pathN m (j / 2) (roundF cur)) := by show _ = _; rw [K1.out, HPt.out]; simp
            clear K1 HPt
            go_wp2_with (at_builtin; refine wpList_pushG rfl _ _ 29 rfl w.heap.size 40 i0 (.agg #[.int .i64 0, .int .i64 0]) 2 16 Tryd.underlying29 hi hz0 hz1 hz2 rfl (by decide) (by decide) _ _ _ _ rfl HOP.out #[.int .i64 0, .int .i64 (cur[j - 1]'(by omega))] _ _ rfl (by simp) rfl (by simp [Value.oneCell']) (by omega) hsz ?_; intro A5 c5 w5 hown5 hg5 hpl5)
            have hp2 : w5.ownsRow w.heap.size 40 2 (.slice A5 (acc ++ [(0, cur[j - 1]'(by omega))]).length c5) (acc ++ [(0, cur[j - 1]'(by omega))]).length (cells2 (acc ++ [(0, cur[j - 1]'(by omega))])) := by simpa [cells2] using hown5
            have HP2 := Lib.hid hp2
            clear hp2
            have HH2 := Lib.hid (HOH.out.kept hg5 (own_types_ne HOH.out HOP.out (by decide)))
            have B2 := Lib.hid (Below.row HB.out HOP.out hg5 (Nat.le_refl _) hsz)
            have hs2 := B2.out.size
            clear hown5 hg5 hpl5
            (try go_wp2_with fail)
            refine (l16Round_any cur g 0 c' hc0 hc8 hcb _ (Rd.of_own HH2.out)).mono ?_
            rintro e w6 ⟨v, rfl, ⟨A2, c2, rfl, ho2⟩, hb2⟩
            have hl2 := len_round cur
            obtain ⟨g2, rfl⟩ := own_some ho2 (by omega)
            have O6 := Lib.hid (own_base ho2 hs2)
            have P6 := Lib.hid (own_below HP2.out hb2)
            have B6 := Lib.hid (Below.transB B2.out (Nat.le_refl _) hb2)
            clear ho2 hb2
            go_wp2
            go_roundw
            case rel => exact ⟨roundF cur, acc ++ [(0, cur[j - 1]'(by omega))], m, j / 2, A5, c5, g2, c2, by omega, by omega, hml, by omega, by simp; omega, bd_round cur hcb, by simp [hd], by simp, by rw [len_round], P6.out, O6.out, B6.out, K2⟩
            case measure => simp [lenV]; omega
          · have hmd : (j : Int).tmod 2 = 0 := by rw [Int.tmod_eq_emod_of_nonneg (by omega)]; omega
            by_cases h2 : j + 1 < cur.length
            · have c0 := hci (j + 1) h2
              have k0 : IntKind.i64.wrap ((j : Int) + 1) = (j : Int) + 1 := IntWalk.i64_in _ (by omega)
              have k1 : (0 : Int) ≤ (j : Int) + 1 := by omega
              have k2 : (j : Int) + 1 < (cur.length : Int) := by omega
              have k3 : ((j : Int) + 1).toNat = j + 1 := by omega
              clear hci
              have HPt : Hid (partF j cur = [(1, cur[j + 1])]) := by show _ = _; unfold partF; rw [if_neg hodd, if_pos h2, List.getElem?_eq_getElem h2]; rfl
              have K2 : Hid (pathN 8 i.toNat (l.map leafF) = (acc ++ [(1, cur[j + 1])]) ++ pathN m (j / 2) (roundF cur)) := by show _ = _; rw [K1.out, HPt.out]; simp
              clear K1 HPt
              go_wp2_with (at_builtin; refine wpList_pushG rfl _ _ 29 rfl w.heap.size 40 i0 (.agg #[.int .i64 0, .int .i64 0]) 2 16 Tryd.underlying29 hi hz0 hz1 hz2 rfl (by decide) (by decide) _ _ _ _ rfl HOP.out #[.int .i64 1, .int .i64 cur[j + 1]] _ _ rfl (by simp) rfl (by simp [Value.oneCell']) (by omega) hsz ?_; intro A5 c5 w5 hown5 hg5 hpl5)
              have hp2 : w5.ownsRow w.heap.size 40 2 (.slice A5 (acc ++ [(1, cur[j + 1])]).length c5) (acc ++ [(1, cur[j + 1])]).length (cells2 (acc ++ [(1, cur[j + 1])])) := by simpa [cells2] using hown5
              have HP2 := Lib.hid hp2
              clear hp2
              have HH2 := Lib.hid (HOH.out.kept hg5 (own_types_ne HOH.out HOP.out (by decide)))
              have B2 := Lib.hid (Below.row HB.out HOP.out hg5 (Nat.le_refl _) hsz)
              have hs2 := B2.out.size
              clear hown5 hg5 hpl5
              (try go_wp2_with fail)
              refine (l16Round_any cur g 0 c' hc0 hc8 hcb _ (Rd.of_own HH2.out)).mono ?_
              rintro e w6 ⟨v, rfl, ⟨A2, c2, rfl, ho2⟩, hb2⟩
              have hl2 := len_round cur
              obtain ⟨g2, rfl⟩ := own_some ho2 (by omega)
              have O6 := Lib.hid (own_base ho2 hs2)
              have P6 := Lib.hid (own_below HP2.out hb2)
              have B6 := Lib.hid (Below.transB B2.out (Nat.le_refl _) hb2)
              clear ho2 hb2
              go_wp2
              go_roundw
              case rel => exact ⟨roundF cur, acc ++ [(1, cur[j + 1])], m, j / 2, A5, c5, g2, c2, by omega, by omega, hml, by omega, by simp; omega, bd_round cur hcb, by simp [hd], by simp, by rw [len_round], P6.out, O6.out, B6.out, K2⟩
              case measure => simp [lenV]; omega
            · have k0 : IntKind.i64.wrap ((j : Int) + 1) = (j : Int) + 1 := IntWalk.i64_in _ (by omega)
              have k2 : ¬ (j : Int) + 1 < (cur.length : Int) := by omega
              clear hci
              have HPt : Hid (partF j cur = []) := by show _ = _; unfold partF; rw [if_neg (by omega), if_neg h2]
              have K2 : Hid (pathN 8 i.toNat (l.map leafF) = acc ++ pathN m (j / 2) (roundF cur)) := by show _ = _; rw [K1.out, HPt.out]; simp
              clear K1 HPt
              have HP2 := HOP
              have HH2 := HOH
              have B2 := HB
              have hs2 := hsz
              go_wp2_with fail
              refine (l16Round_any cur g 0 c' hc0 hc8 hcb _ (Rd.of_own HH2.out)).mono ?_
              rintro e w6 ⟨v, rfl, ⟨A2, c2, rfl, ho2⟩, hb2⟩
              have hl2 := len_round cur
              obtain ⟨g2, rfl⟩ := own_some ho2 (by omega)
              have O6 := Lib.hid (own_base ho2 hs2)
              have P6 := Lib.hid (own_below HP2.out hb2)
              have B6 := Lib.hid (Below.transB B2.out (Nat.le_refl _) hb2)
              clear ho2 hb2
              go_wp2
              go_roundw
              case rel => exact ⟨roundF cur, acc, m, j / 2, A', cp, g2, c2, by omega, by omega, hml, by omega, by omega, bd_round cur hcb, by simp [hd], rfl, by rw [len_round], P6.out, O6.out, B6.out, K2⟩
              case measure => simp [lenV]; omega
    · have hq' : inB i 0 ((l.length : Int) - 1) = false := by simpa using hq
      have HG : Hid (poOk l i = false) := by show _ = _; rw [poOk, hq']; simp
      have K2 : Hid (poOut l i = []) := if_neg (by rw [HG.out]; simp)
      rw [hq'] at HN
      clear hb40 hbd hg hq hq'
      go_enter Tryd.func10, Tryd.ntmps10
      go_wp2_with fail
      refine (HI _ (HR.out.below BE.out)).out.mono ?_
      rintro e w0 ⟨rfl, rfl⟩
      go_wp2_with (go_at_call 21; refine (HN _).out.mono ?_; rintro e w' ⟨rfl, rfl⟩)
      go_ret2
      exact ⟨_, by rw [HG.out]; rfl, by rw [K2.out]; exact ⟨_, _, rfl, E0.out⟩, BE.out⟩
  · have hg' : goodL l = false := by simpa using hg
    rw [hg'] at HI
    have HG : Hid (poOk l i = false) := by show _ = _; rw [poOk, hg']; rfl
    have K2 : Hid (poOut l i = []) := if_neg (by rw [HG.out]; simp)
    clear hg hg'
    go_enter Tryd.func10, Tryd.ntmps10
    go_wp2_with fail
    refine (HI _ (HR.out.below BE.out)).out.mono ?_
    rintro e w0 ⟨rfl, rfl⟩
    go_wp2
    go_ret2
    exact ⟨_, by rw [HG.out]; rfl, by rw [K2.out]; exact ⟨_, _, rfl, E0.out⟩, BE.out⟩

set_option maxHeartbeats 4000000 in
theorem implPathOf_any (l : List ByteArray) (i : Int) (A : Option Addr) (c : Nat) (hl : l.length ≤ 1048577) (hbd : ∀ y ∈ l, y.size ≤ 1048576) (w : World) (hr : Rd w 1 A l.length (cellsS l)) (hT : TabP w) :
    Calls Tryd.prog 11 #[.slice A l.length c, .int .i64 i] w fun e w' => ∃ v, e = .returned (.tuple #[v, .bool (poOk l i)]) ∧ SlPair w.heap.size w' (poOut l i) v ∧ Below w.heap.size w w' := by
  obtain ⟨i0, hi, hz0, hz1, hz2⟩ := info_parts infoPair
  have HR := Lib.hid hr
  have HTab := Lib.hid hT
  have HI := fun W k => Lib.hid (implIsLedger_any l A c hl (fun y hy => Nat.le_trans (hbd y hy) (by decide)) W k)
  have HN := fun W => Lib.hid (within_any i 0 ((l.length : Int) - 1) W)
  clear hr hT
  by_cases hg : goodL l = true
  · obtain ⟨⟨hl0, hl⟩, hb40⟩ := goodL_true hg
    have HBD := Lib.hid hb40
    rw [hg] at HI
    by_cases hq : inB i 0 ((l.length : Int) - 1) = true
    · have HG : Hid (poOk l i = true) := by show _ = _; rw [poOk, hg, hq]; rfl
      have hi2 := inB_true hq
      rw [hq] at HN
      clear hb40 hbd hg hq
      go_enter Tryd.func11, Tryd.ntmps11
      go_wp2_with fail
      refine (HI _ HR.out).out.mono ?_
      rintro e w0 ⟨rfl, hb0⟩
      have B0 := Lib.hid hb0
      have hs0 := hb0.size
      clear hb0
      go_wp2_with (go_at_call 24; refine (HN _).out.mono ?_; rintro e w' ⟨rfl, rfl⟩)
      refine (hashesOf_any l A c hl HBD.out _ (HR.out.below B0.out)).mono ?_
      rintro e w1 ⟨v, rfl, ⟨A1, c1, rfl, ho1⟩, hb1⟩
      obtain ⟨g1, rfl⟩ := own_some ho1 (by simp; omega)
      have O1 := Lib.hid (own_base ho1 hs0)
      have B1 := Lib.hid (Below.transB B0.out (Nat.le_refl _) hb1)
      have P1 : Hid (w1.ownsRow w.heap.size 40 2 (.slice none 0 0) 0 []) := Lib.hid (World.ownsRow_nil _ _ _ _)
      clear ho1 hb1
      go_wp2_with fail
      go_loopw [1, 6, 7] (fun v1 vp vh wr => ∃ (cur : List Int) (acc : List (Int × Int)) (n j : Nat) (A' : Option Addr) (cp g c' : Nat), 1 ≤ cur.length ∧ cur.length ≤ 8 ∧ cur.length ≤ n ∧ j < cur.length ∧ acc.length + n ≤ 8 ∧ (∀ x ∈ cur, 0 ≤ x ∧ x ≤ 999999) ∧ v1 = .int .i64 j ∧ vp = .slice A' acc.length cp ∧ vh = .slice (some ⟨g, 0, none⟩) cur.length c' ∧
        wr.ownsRow w.heap.size 40 2 (.slice A' acc.length cp) acc.length (cells2 acc) ∧ wr.ownsRow w.heap.size 3 1 (.slice (some ⟨g, 0, none⟩) cur.length c') cur.length (cellsI cur) ∧ Below w.heap.size w wr ∧ Hid (pathN 8 i.toNat (l.map leafF) = acc ++ pathN n j cur)) (fun _ _ vh _ => lenV vh)
      case atStart => exact ⟨l.map leafF, [], 8, i.toNat, _, _, g1, c1, by simpa using hl0, by simpa using hl, by simpa using hl, by simp; omega, by simp, leaves_bd l, by congr 1; omega, rfl, by simp, P1.out, O1.out, B1.out, by show _ = _; rfl⟩
      case round =>
        clear O1 B1 P1
        obtain ⟨cur, acc, n, j, A', cp, g, c', hc0, hc8, hcn, hj, han, hcb, rfl, rfl, rfl, hownp, hown, hb, K⟩ := hrel
        have HB := Lib.hid hb
        have HOH := Lib.hid hown
        have HOP := Lib.hid hownp
        have hsz := hb.size
        by_cases h1 : cur.length ≤ 1
        · have hnot : ¬ (1 : Int) < (cur.length : Int) := by omega
          have K2 : Hid (poOut l i = acc) := by show _ = _; rw [poOut, if_pos HG.out, K.out, pathN_one n j cur h1]; simp
          clear hown hownp hb K
          go_wp2
          go_ret2
          exact ⟨_, by rw [HG.out]; rfl, by rw [K2.out]; exact ⟨A', cp, rfl, HOP.out⟩, HB.out⟩
        · have hyes : (1 : Int) < (cur.length : Int) := by omega
          obtain ⟨m, rfl, hm, hml⟩ := pathN_more n j cur h1 hcn
          have K1 := Lib.hid (K.out.trans (congrArg (acc ++ ·) hm))
          obtain ⟨gb, go, he, hgb, hcell⟩ := (Rd.of_own hown).2 (by omega)
          cases he
          have hci : ∀ q (hq : q < cur.length), wr.cell? ⟨g, q, none⟩ = some (.int .i64 cur[q]) := fun q hq => by
            have := hcell q (.int .i64 cur[q]) (by simp [cellsI, hq])
            rwa [Nat.zero_add] at this
          have hd : (j : Int).tdiv 2 = ((j / 2 : Nat) : Int) := by rw [Int.tdiv_eq_ediv_of_nonneg (by omega)]; omega
          clear hown hownp hb K hcell
          by_cases hodd : j % 2 = 1
          · have hmd : (j : Int).tmod 2 = 1 := by rw [Int.tmod_eq_emod_of_nonneg (by omega)]; omega
            have c0 := hci (j - 1) (by omega)
            have k1 : (0 : Int) ≤ (j : Int) - 1 := by omega
            have k2 : (j : Int) - 1 < (cur.length : Int) := by omega
            have k3 : ((j : Int) - 1).toNat = j - 1 := by omega
            clear hci
            have HPt : Hid (partF j cur = [(0, cur[j - 1]'(by omega))]) := by show _ = _; unfold partF; rw [if_pos hodd, List.getElem?_eq_getElem (by omega)]; rfl
            have K2 : Hid (pathN 8 i.toNat (l.map leafF) = (acc ++ [(0, cur[j - 1]'(by omega))]) ++ pathN m (j / 2) (roundF cur)) := by show _ = _; rw [K1.out, HPt.out]; simp
            clear K1 HPt
            go_wp2_with (at_builtin; refine wpList_pushG rfl _ _ 29 rfl w.heap.size 40 i0 (.agg #[.int .i64 0, .int .i64 0]) 2 16 Tryd.underlying29 hi hz0 hz1 hz2 rfl (by decide) (by decide) _ _ _ _ rfl HOP.out #[.int .i64 0, .int .i64 (cur[j - 1]'(by omega))] _ _ rfl (by simp) rfl (by simp [Value.oneCell']) (by omega) hsz ?_; intro A5 c5 w5 hown5 hg5 hpl5)
            have hp2 : w5.ownsRow w.heap.size 40 2 (.slice A5 (acc ++ [(0, cur[j - 1]'(by omega))]).length c5) (acc ++ [(0, cur[j - 1]'(by omega))]).length (cells2 (acc ++ [(0, cur[j - 1]'(by omega))])) := by simpa [cells2] using hown5
            have HP2 := Lib.hid hp2
            clear hp2
            have HH2 := Lib.hid (HOH.out.kept hg5 (own_types_ne HOH.out HOP.out (by decide)))
            have B2 := Lib.hid (Below.row HB.out HOP.out hg5 (Nat.le_refl _) hsz)
            have hs2 := B2.out.size
            clear hown5 hg5 hpl5
            (try go_wp2_with fail)
            refine (round_any cur g 0 c' hc0 hc8 (own_cap HH2.out) hcb _ (HTab.out.below B2.out) (Rd.of_own HH2.out)).mono ?_
            rintro e w6 ⟨v, rfl, ⟨A2, c2, rfl, ho2⟩, hb2⟩
            have hl2 := len_round cur
            obtain ⟨g2, rfl⟩ := own_some ho2 (by omega)
            have O6 := Lib.hid (own_base ho2 hs2)
            have P6 := Lib.hid (own_below HP2.out hb2)
            have B6 := Lib.hid (Below.transB B2.out (Nat.le_refl _) hb2)
            clear ho2 hb2
            go_wp2
            go_roundw
            case rel => exact ⟨roundF cur, acc ++ [(0, cur[j - 1]'(by omega))], m, j / 2, A5, c5, g2, c2, by omega, by omega, hml, by omega, by simp; omega, bd_round cur hcb, by simp [hd], by simp, by rw [len_round], P6.out, O6.out, B6.out, K2⟩
            case measure => simp [lenV]; omega
          · have hmd : (j : Int).tmod 2 = 0 := by rw [Int.tmod_eq_emod_of_nonneg (by omega)]; omega
            by_cases h2 : j + 1 < cur.length
            · have c0 := hci (j + 1) h2
              have k0 : IntKind.i64.wrap ((j : Int) + 1) = (j : Int) + 1 := IntWalk.i64_in _ (by omega)
              have k1 : (0 : Int) ≤ (j : Int) + 1 := by omega
              have k2 : (j : Int) + 1 < (cur.length : Int) := by omega
              have k3 : ((j : Int) + 1).toNat = j + 1 := by omega
              clear hci
              have HPt : Hid (partF j cur = [(1, cur[j + 1])]) := by show _ = _; unfold partF; rw [if_neg hodd, if_pos h2, List.getElem?_eq_getElem h2]; rfl
              have K2 : Hid (pathN 8 i.toNat (l.map leafF) = (acc ++ [(1, cur[j + 1])]) ++ pathN m (j / 2) (roundF cur)) := by show _ = _; rw [K1.out, HPt.out]; simp
              clear K1 HPt
              go_wp2_with (at_builtin; refine wpList_pushG rfl _ _ 29 rfl w.heap.size 40 i0 (.agg #[.int .i64 0, .int .i64 0]) 2 16 Tryd.underlying29 hi hz0 hz1 hz2 rfl (by decide) (by decide) _ _ _ _ rfl HOP.out #[.int .i64 1, .int .i64 cur[j + 1]] _ _ rfl (by simp) rfl (by simp [Value.oneCell']) (by omega) hsz ?_; intro A5 c5 w5 hown5 hg5 hpl5)
              have hp2 : w5.ownsRow w.heap.size 40 2 (.slice A5 (acc ++ [(1, cur[j + 1])]).length c5) (acc ++ [(1, cur[j + 1])]).length (cells2 (acc ++ [(1, cur[j + 1])])) := by simpa [cells2] using hown5
              have HP2 := Lib.hid hp2
              clear hp2
              have HH2 := Lib.hid (HOH.out.kept hg5 (own_types_ne HOH.out HOP.out (by decide)))
              have B2 := Lib.hid (Below.row HB.out HOP.out hg5 (Nat.le_refl _) hsz)
              have hs2 := B2.out.size
              clear hown5 hg5 hpl5
              (try go_wp2_with fail)
              refine (round_any cur g 0 c' hc0 hc8 (own_cap HH2.out) hcb _ (HTab.out.below B2.out) (Rd.of_own HH2.out)).mono ?_
              rintro e w6 ⟨v, rfl, ⟨A2, c2, rfl, ho2⟩, hb2⟩
              have hl2 := len_round cur
              obtain ⟨g2, rfl⟩ := own_some ho2 (by omega)
              have O6 := Lib.hid (own_base ho2 hs2)
              have P6 := Lib.hid (own_below HP2.out hb2)
              have B6 := Lib.hid (Below.transB B2.out (Nat.le_refl _) hb2)
              clear ho2 hb2
              go_wp2
              go_roundw
              case rel => exact ⟨roundF cur, acc ++ [(1, cur[j + 1])], m, j / 2, A5, c5, g2, c2, by omega, by omega, hml, by omega, by simp; omega, bd_round cur hcb, by simp [hd], by simp, by rw [len_round], P6.out, O6.out, B6.out, K2⟩
              case measure => simp [lenV]; omega
            · have k0 : IntKind.i64.wrap ((j : Int) + 1) = (j : Int) + 1 := IntWalk.i64_in _ (by omega)
              have k2 : ¬ (j : Int) + 1 < (cur.length : Int) := by omega
              clear hci
              have HPt : Hid (partF j cur = []) := by show _ = _; unfold partF; rw [if_neg (by omega), if_neg h2]
              have K2 : Hid (pathN 8 i.toNat (l.map leafF) = acc ++ pathN m (j / 2) (roundF cur)) := by show _ = _; rw [K1.out, HPt.out]; simp
              clear K1 HPt
              have HP2 := HOP
              have HH2 := HOH
              have B2 := HB
              have hs2 := hsz
              go_wp2_with fail
              refine (round_any cur g 0 c' hc0 hc8 (own_cap HH2.out) hcb _ (HTab.out.below B2.out) (Rd.of_own HH2.out)).mono ?_
              rintro e w6 ⟨v, rfl, ⟨A2, c2, rfl, ho2⟩, hb2⟩
              have hl2 := len_round cur
              obtain ⟨g2, rfl⟩ := own_some ho2 (by omega)
              have O6 := Lib.hid (own_base ho2 hs2)
              have P6 := Lib.hid (own_below HP2.out hb2)
              have B6 := Lib.hid (Below.transB B2.out (Nat.le_refl _) hb2)
              clear ho2 hb2
              go_wp2
              go_roundw
              case rel => exact ⟨roundF cur, acc, m, j / 2, A', cp, g2, c2, by omega, by omega, hml, by omega, by omega, bd_round cur hcb, by simp [hd], rfl, by rw [len_round], P6.out, O6.out, B6.out, K2⟩
              case measure => simp [lenV]; omega
    · have hq' : inB i 0 ((l.length : Int) - 1) = false := by simpa using hq
      have HG : Hid (poOk l i = false) := by show _ = _; rw [poOk, hq']; simp
      have K2 : Hid (poOut l i = []) := if_neg (by rw [HG.out]; simp)
      rw [hq'] at HN
      clear hb40 hbd hg hq hq'
      go_enter Tryd.func11, Tryd.ntmps11
      go_wp2_with fail
      refine (HI _ HR.out).out.mono ?_
      rintro e w0 ⟨rfl, hb0⟩
      have B0 := Lib.hid hb0
      have hs0 := hb0.size
      clear hb0
      go_wp2_with (go_at_call 24; refine (HN _).out.mono ?_; rintro e w' ⟨rfl, rfl⟩)
      go_ret2
      exact ⟨_, by rw [HG.out]; rfl, by rw [K2.out]; exact SlPair.nil _ _, B0.out⟩
  · have hg' : goodL l = false := by simpa using hg
    rw [hg'] at HI
    have HG : Hid (poOk l i = false) := by show _ = _; rw [poOk, hg']; rfl
    have K2 : Hid (poOut l i = []) := if_neg (by rw [HG.out]; simp)
    clear hg hg'
    go_enter Tryd.func11, Tryd.ntmps11
    go_wp2_with fail
    refine (HI _ HR.out).out.mono ?_
    rintro e w0 ⟨rfl, hb0⟩
    have B0 := Lib.hid hb0
    have hs0 := hb0.size
    clear hb0
    go_wp2
    go_ret2
    exact ⟨_, by rw [HG.out]; rfl, by rw [K2.out]; exact SlPair.nil _ _, B0.out⟩

end Go.Proofs.YtcajnbjonilljaaDoor
