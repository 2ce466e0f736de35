/-
  PayBill by the program and by the reference. Written by mk14n.py.
  Conditions: those written at each theorem.
-/
import Derived.Test.YtkocblkodhfjiaaL14d
namespace Go.Proofs.Ytkocblkodhfjiaa
open Go.RowKit Go.BigFrame
set_option maxRecDepth 100000

theorem own_some {w : World} {base : Nat} {e : TypeId} {sz n c : Nat} {A : Option Addr} {xs : List Value} (h : w.ownsRow base e sz (.slice A n c) n xs) (hn : 0 < n) : ∃ g, A = some ⟨g, 0, none⟩ := by
  rcases h.2 with ⟨_, h0⟩ | ⟨g, cap, cur, hv, _⟩
  · omega
  · cases hv; exact ⟨g, rfl⟩
theorem mk_step {l : List Bill} {id cents : Int} {k : Nat} (h : k < l.length) : (payL id cents (l.take k) ++ l.drop k).set k (payB id cents l[k]) = payL id cents (l.take (k + 1)) ++ l.drop (k + 1) := by
  have hl : (payL id cents (l.take k)).length = k := by rw [len_payL, List.length_take]; omega
  rw [List.set_append_right _ _ (by omega), hl, Nat.sub_self, List.drop_eq_getElem_cons h, List.set_cons_zero, take_succ' l k h]
  simp only [payL, List.map_append, List.map_cons, List.map_nil, List.append_assoc, List.singleton_append]
theorem mk_at {l : List Bill} {id cents : Int} {k : Nat} (h : k < l.length) : ∃ hk : k < (payL id cents (l.take k) ++ l.drop k).length, (payL id cents (l.take k) ++ l.drop k)[k] = l[k] := by
  have hl : (payL id cents (l.take k)).length = k := by rw [len_payL, List.length_take]; omega
  refine ⟨by rw [List.length_append, hl, List.length_drop]; omega, ?_⟩
  rw [List.getElem_append_right (by omega)]
  simp [hl]
theorem mk_same {l : List Bill} {id cents : Int} {k : Nat} (h : k < l.length) (hne : ¬ l[k].id = id) : payL id cents (l.take k) ++ l.drop k = payL id cents (l.take (k + 1)) ++ l.drop (k + 1) := by
  rw [← mk_step h, payB, if_neg hne]
  obtain ⟨hk, he⟩ := mk_at (id := id) (cents := cents) h
  rw [← he]; exact (List.set_getElem_self hk).symm
theorem len_mk (l : List Bill) (id cents : Int) (k : Nat) (h : k ≤ l.length) : (payL id cents (l.take k) ++ l.drop k).length = l.length := by
  rw [List.length_append, len_payL, List.length_take, List.length_drop]; omega
theorem cellsBill_set6 (l : List Bill) (i : Nat) (h : i < l.length) (b : Bill) :
    ((((((cellsBill l).set (i * 6) (.int .i64 b.id)).set (i * 6 + 1) (.int .i64 b.hours)).set (i * 6 + 2) (.int .i64 b.pages)).set (i * 6 + 3) (.bool b.poor)).set (i * 6 + 4) (.bool b.pub)).set (i * 6 + 5) (.int .i64 b.paid) = cellsBill (l.set i b) := by
  induction l generalizing i with
  | nil => simp at h
  | cons x r ih =>
    have e : ∀ (y : Bill) (t : List Bill), cellsBill (y :: t) = .int .i64 y.id :: .int .i64 y.hours :: .int .i64 y.pages :: .bool y.poor :: .bool y.pub :: .int .i64 y.paid :: cellsBill t := fun _ _ => rfl
    cases i with
    | zero => simp [e]
    | succ i =>
      have := ih i (by simpa using h)
      rw [show (i + 1) * 6 = i * 6 + 1 + 1 + 1 + 1 + 1 + 1 by omega, e]
      simp only [show ∀ j, i * 6 + 1 + 1 + 1 + 1 + 1 + 1 + j = (i * 6 + j) + 1 + 1 + 1 + 1 + 1 + 1 from fun j => by omega, List.set_cons_succ]
      rw [e, this]
theorem any_take {P : Bill → Bool} {l : List Bill} {k : Nat} (h : k < l.length) : (l.take (k + 1)).any P = ((l.take k).any P || P l[k]) := by
  rw [take_succ' l k h, List.any_append]; simp

theorem pb1_any (b : Bill) (id : Int) (bk : Nat) (W : World) (hc : W.cell? ⟨bk, 0, none⟩ = some (.int .i64 id)) (hb : bk < W.heap.size) :
    Calls Try.prog 52 #[.agg #[.int .i64 b.id, .int .i64 b.hours, .int .i64 b.pages, .bool b.poor, .bool b.pub, .int .i64 b.paid], .pointer (some ⟨bk, 0, none⟩)] W fun e w' => e = .returned (.bool (isId id b)) ∧ Below W.heap.size W w' := by
  have hb0 : Below W.heap.size W (W.alloc (.cells #[.int .i64 b.id, .int .i64 b.hours, .int .i64 b.pages, .bool b.poor, .bool b.pub, .int .i64 b.paid] 32)) := (Below.refl _ _).alloc (Nat.le_refl _) _
  have hc2 : (W.alloc (.cells #[.int .i64 b.id, .int .i64 b.hours, .int .i64 b.pages, .bool b.poor, .bool b.pub, .int .i64 b.paid] 32)).cell? ⟨bk, 0, none⟩ = some (.int .i64 id) := (hb0.cell (p := ⟨bk, 0, none⟩) hb).trans hc
  clear hb0
  go_enter Try.func52, Try.ntmps52
  go_wp2
  go_ret
  exact ⟨rfl, by go_grown⟩

set_option maxHeartbeats 1000000 in
theorem implPayBill_any (l : List Bill) (id cents : Int) (A : Option Addr) (c : Nat) (hA : A = none → c = 0) (hl : l.length ≤ 1048576) (w : World) (hr : Rd w 6 A l.length (cellsBill l)) :
    Calls Try.prog 28 #[.slice A l.length c, .int .i64 id, .int .i64 cents] w fun e w' => ∃ v, e = .returned (.tuple #[v, .bool (pbOk l id cents)]) ∧ SlBill w.heap.size w' (pbOut l id cents) v ∧ Below w.heap.size w w' := by
  have hb0 : Below w.heap.size w (w.alloc (.cells #[.int .i64 id] 3)) := (Below.refl _ _).alloc (Nat.le_refl _) _
  have X0 := Lib.hid (BXT.new w #[.int .i64 id] 3)
  have B0 := Lib.hid hb0
  have HR := Lib.hid hr
  have HA := fun W h => Lib.hid (implAreBills_any l A c (by omega) W h)
  have HX := Lib.hid (indexFuncBill_any l A c 52 #[.pointer (some ⟨w.heap.size, 0, none⟩)] (isId id) _ (hr.below hb0) (by omega) (fun _ _ => by kernel_rfl)
    (fun p w1 _ hb => (pb1_any p id w.heap.size w1 ((X0.out.below hb).bx.cell 0 _ rfl) (Nat.lt_of_lt_of_le X0.out.lt hb.size))))
  clear hr hb0
  have hcase := idxBill_cases (isId id) l 0
  have start : ∀ (v : Int) (Q : Prop), idxF (isId id) l 0 = v → True := fun _ _ _ => trivial
  clear start
  by_cases h1 : areB l = true
  · rcases hcase with ⟨i, hil, hat, hp⟩ | ⟨hat, hno⟩
    · have hid : l[i].id = id := of_decide_eq_true hp
      have hany : l.any (isId id) = true := List.any_eq_true.2 ⟨_, List.getElem_mem hil, hp⟩
      rw [hat, show ((0 + i : Nat) : Int) = (i : Int) by omega] at HX
      clear hat hp
      by_cases h3 : inB cents 0 1000000 = true
      · have HS := Lib.hid (payL_set (cents := cents) h1 hil hid)
        have hbo := (billOk_true ((bills_of h1).1 i hil)).2.2.2
        have hce := inB_true h3
        have hi0 : (0 : Int) ≤ (i : Int) := by omega
        have hil' : ((i : Int) < (l.length : Int)) := by omega
        have hnn : ¬ ((i : Int) < 0) := by omega
        have HP := Lib.hid (show pbOk l id cents = areB (payL id cents l) by rw [pbOk, h1, h3, hany]; simp)
        clear hid hany
        go_enter Try.func28, Try.ntmps28
        go_wp2_with fail
        refine HX.out.mono ?_
        rintro e w1 ⟨rfl, hb1⟩
        have B1 := Lib.hid (Below.transB B0.out (Nat.le_refl _) hb1)
        clear hb1 B0 X0 HX
        go_wp2_with fail
        refine (HA _ (HR.out.below B1.out)).out.mono ?_
        rintro e w2 ⟨rfl, hb2⟩
        rw [h1]
        have B2 := Lib.hid (Below.transB B1.out (Nat.le_refl _) hb2)
        clear hb2 B1
        go_wp2_with fail
        refine (isCents_any _ _).mono ?_
        rintro e w' ⟨rfl, rfl⟩
        rw [h3]
        go_wp2_with fail
        refine (cloneBill_any l A c _ (HR.out.below B2.out) hA hl).mono ?_
        rintro e w3 ⟨_, rfl, ⟨A3, c3, rfl, ho3⟩, hb3⟩
        obtain ⟨g, rfl⟩ := own_some ho3 (by omega)
        have B3 := Lib.hid (Below.transB B2.out (Nat.le_refl _) hb3)
        have hgw : w.heap.size ≤ g := Nat.le_trans B2.out.size (ho3.lt g rfl).1
        have HO3 := Lib.hid (own_base ho3 B2.out.size)
        obtain ⟨gb, go, he, hgb, hcell⟩ := (Rd.of_own ho3).2 (by omega)
        cases he
        obtain ⟨_, _, _, _, _, q5⟩ := cellsBill_at hcell hil
        rw [Nat.zero_add] at q5
        have f5 := (own_has ho3 (i * 6 + 5) (by omega)).2
        clear ho3 hb3 B2 hcell
        have HS4 := (HO3.out.stored (i * 6 + 5) (.int .i64 (l[i].paid + cents))).1
        rw [cellsBill_set l i hil, HS.out] at HS4
        have HO4 := Lib.hid HS4
        have B4 := Lib.hid (B3.out.setCell (p := ⟨g, i * 6 + 5, none⟩) hgw (.int .i64 (l[i].paid + cents)))
        clear HS4 HO3 B3
        have HA2 := fun W h => Lib.hid (implAreBills_any (payL id cents l) (some ⟨g, 0, none⟩) c3 (by rw [len_payL]; omega) W h)
        rw [len_payL] at HA2
        go_wp2_with fail
        refine (HA2 _ (Rd.of_own HO4.out)).out.mono ?_
        rintro e w5 ⟨rfl, hb5⟩
        have HO5 := Lib.hid (own_below HO4.out hb5)
        have B5 := Lib.hid (Below.transB B4.out (Nat.le_refl _) hb5)
        clear hb5 HO4 B4
        by_cases h4 : areB (payL id cents l) = true
        · have e1 : Hid (pbOk l id cents = true) := by show _ = _; rw [HP.out, h4]
          rw [h4]
          go_wp2
          go_ret2
          exact ⟨_, by rw [e1.out]; rfl, by rw [pbOut, if_pos e1.out]; exact ⟨_, c3, by rw [len_payL]; rfl, by rw [len_payL]; exact HO5.out⟩, B5.out⟩
        · have e1 : Hid (pbOk l id cents = false) := by show _ = _; rw [HP.out]; simpa using h4
          rw [show areB (payL id cents l) = false by simpa using h4]
          go_wp2
          go_ret2
          exact ⟨_, by rw [e1.out]; rfl, by rw [pbOut, if_neg (by rw [e1.out]; simp)]; exact SlBill.nil _ _, B5.out⟩
      · have e1 : Hid (pbOk l id cents = false) := by
          show _ = _; rw [pbOk]; simp_all
        have hnn : ¬ ((i : Int) < 0) := by omega
        go_enter Try.func28, Try.ntmps28
        go_wp2_with fail
        refine HX.out.mono ?_
        rintro e w1 ⟨rfl, hb1⟩
        have B1 := Lib.hid (Below.transB B0.out (Nat.le_refl _) hb1)
        clear hb1 B0 X0 HX
        go_wp2_with fail
        refine (HA _ (HR.out.below B1.out)).out.mono ?_
        rintro e w2 ⟨rfl, hb2⟩
        rw [h1]
        have B2 := Lib.hid (Below.transB B1.out (Nat.le_refl _) hb2)
        clear hb2 B1
        go_wp2_with fail
        refine (isCents_any _ _).mono ?_
        rintro e w' ⟨rfl, rfl⟩
        rw [show inB cents 0 1000000 = false by simpa using h3]
        go_wp2
        go_ret2
        exact ⟨_, by rw [e1.out]; rfl, by rw [pbOut, if_neg (by rw [e1.out]; simp)]; exact SlBill.nil _ _, B2.out⟩
    · have hany : l.any (isId id) = false := by
        rw [Bool.eq_false_iff]; intro h
        obtain ⟨x, hx, hp⟩ := List.any_eq_true.1 h
        rw [hno x hx] at hp; cases hp
      have e1 : Hid (pbOk l id cents = false) := by
        show _ = _; rw [pbOk]; simp_all
      rw [hat] at HX
      clear hno hany hat
      go_enter Try.func28, Try.ntmps28
      go_wp2_with fail
      refine HX.out.mono ?_
      rintro e w1 ⟨rfl, hb1⟩
      have B1 := Lib.hid (Below.transB B0.out (Nat.le_refl _) hb1)
      clear hb1 B0 X0 HX
      go_wp2_with fail
      refine (HA _ (HR.out.below B1.out)).out.mono ?_
      rintro e w2 ⟨rfl, hb2⟩
      rw [h1]
      have B2 := Lib.hid (Below.transB B1.out (Nat.le_refl _) hb2)
      clear hb2 B1
      go_wp2
      go_ret2
      exact ⟨_, by rw [e1.out]; rfl, by rw [pbOut, if_neg (by rw [e1.out]; simp)]; exact SlBill.nil _ _, B2.out⟩
  · have e1 : Hid (pbOk l id cents = false) := by
      show _ = _; rw [pbOk, show areB l = false by simpa using h1]; rfl
    generalize idxF (isId id) l 0 = at0 at HX hcase
    clear hcase
    go_enter Try.func28, Try.ntmps28
    go_wp2_with fail
    refine HX.out.mono ?_
    rintro e w1 ⟨rfl, hb1⟩
    have B1 := Lib.hid (Below.transB B0.out (Nat.le_refl _) hb1)
    clear hb1 B0 X0 HX
    go_wp2_with fail
    refine (HA _ (HR.out.below B1.out)).out.mono ?_
    rintro e w2 ⟨rfl, hb2⟩
    rw [show areB l = false by simpa using h1]
    have B2 := Lib.hid (Below.transB B1.out (Nat.le_refl _) hb2)
    clear hb2 B1
    go_wp2
    go_ret2
    exact ⟨_, by rw [e1.out]; rfl, by rw [pbOut, if_neg (by rw [e1.out]; simp)]; exact SlBill.nil _ _, B2.out⟩

set_option maxHeartbeats 1000000 in
theorem specPayBill_any (l : List Bill) (id cents : Int) (A : Option Addr) (c : Nat) (hA : A = none → c = 0) (hl : l.length ≤ 1048576) (w : World) (hr : Rd w 6 A l.length (cellsBill l)) :
    Calls Try.prog 27 #[.slice A l.length c, .int .i64 id, .int .i64 cents] w fun e w' => ∃ v, e = .returned (.tuple #[v, .bool (pbOk l id cents)]) ∧ SlBill w.heap.size w' (pbOut l id cents) v ∧ Below w.heap.size w w' := by
  obtain ⟨i0, hi, hz0, hz1, hz2⟩ := info_parts infoBill
  have HR := Lib.hid hr
  have HA := fun W h => Lib.hid (l14Good_any l A c (by omega) W h)
  clear hr
  by_cases h1 : areB l = true
  · by_cases h3 : inB cents 0 1000000 = true
    · have hbo := (bills_of h1).1
      have HBO := Lib.hid hbo
      have hl10 := (bills_of h1).2
      have hce := inB_true h3
      have HP := Lib.hid (show pbOk l id cents = (l.any (isId id) && areB (payL id cents l)) by rw [pbOk, h1, h3]; simp)
      clear hbo
      go_enter Try.func27, Try.ntmps27
      go_wp2_with fail
      refine (HA _ HR.out).out.mono ?_
      rintro e w1 ⟨rfl, hb1⟩
      rw [h1]
      have B1 := Lib.hid hb1
      clear hb1
      have E1 := Lib.hid (own_empty (B := w.heap.size) w1 32 6 B1.out.size)
      have HR1 := Lib.hid ((HR.out.below B1.out).below ((Below.refl _ w1).alloc (Nat.le_refl _) (.cells #[] 32)))
      have B1' := Lib.hid (Below.alloc B1.out B1.out.size (.cells #[] 32))
      have hs1 : w.heap.size ≤ (w1.alloc (.cells #[] 32)).heap.size := B1'.out.size
      go_wp2_with (first
        | (go_at_call 48; refine (l14Cents_any _ _).mono ?_; rintro e w' ⟨rfl, rfl⟩; rw [h3])
        | (at_builtin; refine wpList_appendMany _ rfl _ _ 40 rfl w.heap.size 32 i0 (.agg #[.int .i64 0, .int .i64 0, .int .i64 0, .bool false, .bool false, .int .i64 0]) 6 40 Try.underlying40 hi hz0 hz1 hz2 rfl (by decide) (by decide) (some ⟨w1.heap.size, 0, none⟩) 0 0 [] rfl E1.out A l.length c (cellsBill l) rfl HR1.out hA (one_cellsBill l) (by omega) hs1 ?_; intro A2 c2 w2 hown2 hg2))
      rw [List.nil_append] at hown2
      have hlz : 0 + l.length = l.length := Nat.zero_add _
      rw [hlz] at hown2
      have B2 := Lib.hid (Below.row B1'.out E1.out hg2 (Nat.le_refl _) hs1)
      have O2 := Lib.hid hown2
      clear hown2 hg2 E1 HR1 B1' B1 hlz
      try simp only [Nat.zero_add]
      go_loopw [9, 10] (fun v9 v10 wr => ∃ k : Nat, k ≤ l.length ∧ v10 = .int .i64 k ∧ v9 = .bool ((l.take k).any (isId id)) ∧ wr.ownsRow w.heap.size 32 6 (.slice A2 l.length c2) l.length (cellsBill (payL id cents (l.take k) ++ l.drop k)) ∧ Below w.heap.size w wr) (fun _ v10 _ => l.length - (intOf v10).toNat)
      case atStart => exact ⟨0, Nat.zero_le _, rfl, rfl, O2.out, B2.out⟩
      case round =>
        clear O2 B2
        obtain ⟨k, hk, rfl, rfl, hown, hb⟩ := hrel
        by_cases hlt : k < l.length
        · obtain ⟨g, rfl⟩ := own_some hown (by omega)
          have hlt' : ((k : Int) < (l.length : Int)) := by omega
          have hgw : w.heap.size ≤ g := (hown.lt g rfl).1
          have hgl : g < wr.heap.size := (hown.lt g rfl).2
          have hgn : ¬ g = wr.heap.size := by omega
          have hgn' : ¬ wr.heap.size = g := by omega
          obtain ⟨hkm, hme⟩ := mk_at (id := id) (cents := cents) hlt
          obtain ⟨gb, go, he, hgb, hcell⟩ := (Rd.of_own hown).2 (by omega)
          cases he
          obtain ⟨q0, q1, q2, q3, q4, q5⟩ := cellsBill_at hcell hkm
          rw [hme] at q0 q1 q2 q3 q4 q5
          rw [Nat.zero_add] at q0 q1 q2 q3 q4 q5
          have hpd := (billOk_true (HBO.out k hlt)).2.2.2
          have HAN := Lib.hid (any_take (P := isId id) hlt)
          clear hcell hme
          by_cases hp : l[k].id = id
          · have HO1 := hown
            obtain ⟨⟨z0, e0⟩, f0⟩ := own_has HO1 (k * 6) (by omega)
            obtain ⟨⟨z1, e1⟩, f1⟩ := own_has HO1 (k * 6 + 1) (by omega)
            obtain ⟨⟨z2, e2⟩, f2⟩ := own_has HO1 (k * 6 + 2) (by omega)
            obtain ⟨⟨z3, e3⟩, f3⟩ := own_has HO1 (k * 6 + 3) (by omega)
            obtain ⟨⟨z4, e4⟩, f4⟩ := own_has HO1 (k * 6 + 4) (by omega)
            obtain ⟨⟨z5, e5⟩, f5⟩ := own_has HO1 (k * 6 + 5) (by omega)
            have HS4 := ((((((HO1.stored (k * 6) (.int .i64 l[k].id)).1.stored (k * 6 + 1) (.int .i64 l[k].hours)).1.stored (k * 6 + 2) (.int .i64 l[k].pages)).1.stored (k * 6 + 3) (.bool l[k].poor)).1.stored (k * 6 + 4) (.bool l[k].pub)).1.stored (k * 6 + 5) (.int .i64 (l[k].paid + cents))).1
            have HT4 := cellsBill_set6 _ k hkm ⟨l[k].id, l[k].hours, l[k].pages, l[k].poor, l[k].pub, l[k].paid + cents⟩
            dsimp only at HT4
            rw [HT4, show (⟨l[k].id, l[k].hours, l[k].pages, l[k].poor, l[k].pub, l[k].paid + cents⟩ : Bill) = payB id cents l[k] by rw [payB, if_pos hp], mk_step hlt] at HS4
            have HO4 := Lib.hid (HS4.alloc (.cells #[.int .i64 l[k].id, .int .i64 l[k].hours, .int .i64 l[k].pages, .bool l[k].poor, .bool l[k].pub, .int .i64 (l[k].paid + cents)] 32))
            have HB1 := ((((((hb.setCell (p := ⟨g, k * 6, none⟩) hgw (.int .i64 l[k].id)).setCell (p := ⟨g, k * 6 + 1, none⟩) hgw (.int .i64 l[k].hours)).setCell (p := ⟨g, k * 6 + 2, none⟩) hgw (.int .i64 l[k].pages)).setCell (p := ⟨g, k * 6 + 3, none⟩) hgw (.bool l[k].poor)).setCell (p := ⟨g, k * 6 + 4, none⟩) hgw (.bool l[k].pub)).setCell (p := ⟨g, k * 6 + 5, none⟩) hgw (.int .i64 (l[k].paid + cents)))
            have HB4 := Lib.hid (Below.alloc HB1 HB1.size (.cells #[.int .i64 l[k].id, .int .i64 l[k].hours, .int .i64 l[k].pages, .bool l[k].poor, .bool l[k].pub, .int .i64 (l[k].paid + cents)] 32))
            have hpe : (l[k].id == id) = true := by simpa using hp
            have hany : (l.take (k + 1)).any (isId id) = true := by rw [HAN.out, isId, hp]; simp
            have HAN2 := Lib.hid hany
            clear HT4 HS4 HO1 HB1 hown hb HAN hany hp
            go_wp2
            go_roundw
            case rel => exact ⟨k + 1, by omega, by go_num, by rw [HAN2.out], HO4.out, HB4.out⟩
            case measure => simp [intOf]; omega
          · have hpe : (l[k].id == id) = false := by simpa using hp
            have hany : (l.take (k + 1)).any (isId id) = (l.take k).any (isId id) := by rw [HAN.out, isId]; simp [hp]
            have HAN2 := Lib.hid hany
            rw [mk_same hlt hp] at hown
            have HO4 := Lib.hid (hown.alloc (.cells #[.int .i64 l[k].id, .int .i64 l[k].hours, .int .i64 l[k].pages, .bool l[k].poor, .bool l[k].pub, .int .i64 l[k].paid] 32))
            have HB4 := Lib.hid (Below.alloc hb hb.size (.cells #[.int .i64 l[k].id, .int .i64 l[k].hours, .int .i64 l[k].pages, .bool l[k].poor, .bool l[k].pub, .int .i64 l[k].paid] 32))
            clear hown hb HAN hany hp
            go_wp2
            go_roundw
            case rel => exact ⟨k + 1, by omega, by go_num, by rw [HAN2.out], HO4.out, HB4.out⟩
            case measure => simp [intOf]; omega
        · obtain rfl : k = l.length := by omega
          rw [List.take_length, List.drop_length, List.append_nil] at hown
          rw [List.take_length]
          have HO := Lib.hid hown
          have HB := Lib.hid hb
          have HA2 := fun W h => Lib.hid (l14Good_any (payL id cents l) A2 c2 (by rw [len_payL]; omega) W h)
          rw [len_payL] at HA2
          clear hown hb
          by_cases h5 : l.any (isId id) = true
          · rw [h5]
            by_cases h4 : areB (payL id cents l) = true
            · have e1 : Hid (pbOk l id cents = true) := by show _ = _; rw [HP.out, h4, h5]; rfl
              rw [h4] at HA2
              go_wp2_with fail
              refine (HA2 _ (Rd.of_own HO.out)).out.mono ?_
              rintro e w5 ⟨rfl, hb5⟩
              have HO5 := Lib.hid (own_below HO.out hb5)
              have B5 := Lib.hid (Below.transB HB.out (Nat.le_refl _) hb5)
              clear hb5 HO HB
              go_wp2
              go_ret2
              exact ⟨_, by rw [e1.out]; rfl, by rw [pbOut, if_pos e1.out]; exact ⟨A2, c2, by rw [len_payL]; rfl, by rw [len_payL]; exact HO5.out⟩, B5.out⟩
            · have e1 : Hid (pbOk l id cents = false) := by show _ = _; rw [HP.out, h5]; simpa using h4
              rw [show areB (payL id cents l) = false by simpa using h4] at HA2
              go_wp2_with fail
              refine (HA2 _ (Rd.of_own HO.out)).out.mono ?_
              rintro e w5 ⟨rfl, hb5⟩
              have B5 := Lib.hid (Below.transB HB.out (Nat.le_refl _) hb5)
              have E6 := Lib.hid (own_empty (B := w.heap.size) w5 32 6 B5.out.size)
              have B6 := Lib.hid (Below.alloc B5.out B5.out.size (.cells #[] 32))
              clear hb5 HO HB
              go_wp2
              go_ret2
              exact ⟨_, by rw [e1.out]; rfl, by rw [pbOut, if_neg (by rw [e1.out]; simp)]; exact ⟨_, _, rfl, E6.out⟩, B6.out⟩
          · have e1 : Hid (pbOk l id cents = false) := by show _ = _; rw [HP.out, show l.any (isId id) = false by simpa using h5]; rfl
            rw [show l.any (isId id) = false by simpa using h5]
            have E6 := Lib.hid (own_empty (B := w.heap.size) wr 32 6 HB.out.size)
            have B6 := Lib.hid (Below.alloc HB.out HB.out.size (.cells #[] 32))
            go_wp2
            go_ret2
            exact ⟨_, by rw [e1.out]; rfl, by rw [pbOut, if_neg (by rw [e1.out]; simp)]; exact ⟨_, _, rfl, E6.out⟩, B6.out⟩
    · have e1 : Hid (pbOk l id cents = false) := by
        show _ = _; rw [pbOk]; simp_all
      go_enter Try.func27, Try.ntmps27
      go_wp2_with fail
      refine (HA _ HR.out).out.mono ?_
      rintro e w1 ⟨rfl, hb1⟩
      rw [h1]
      have E6 := Lib.hid (own_empty (B := w.heap.size) w1 32 6 hb1.size)
      have B6 := Lib.hid (Below.alloc hb1 hb1.size (.cells #[] 32))
      clear hb1
      go_wp2_with (go_at_call 48; refine (l14Cents_any _ _).mono ?_; rintro e w' ⟨rfl, rfl⟩; rw [show inB cents 0 1000000 = false by simpa using h3])
      go_ret2
      exact ⟨_, by rw [e1.out]; rfl, by rw [pbOut, if_neg (by rw [e1.out]; simp)]; exact ⟨_, _, rfl, E6.out⟩, B6.out⟩
  · have e1 : Hid (pbOk l id cents = false) := by
      show _ = _; rw [pbOk, show areB l = false by simpa using h1]; rfl
    go_enter Try.func27, Try.ntmps27
    go_wp2_with fail
    refine (HA _ HR.out).out.mono ?_
    rintro e w1 ⟨rfl, hb1⟩
    rw [show areB l = false by simpa using h1]
    have E6 := Lib.hid (own_empty (B := w.heap.size) w1 32 6 hb1.size)
    have B6 := Lib.hid (Below.alloc hb1 hb1.size (.cells #[] 32))
    clear hb1
    go_wp2
    go_ret2
    exact ⟨_, by rw [e1.out]; rfl, by rw [pbOut, if_neg (by rw [e1.out]; simp)]; exact ⟨_, _, rfl, E6.out⟩, B6.out⟩

end Go.Proofs.Ytkocblkodhfjiaa
