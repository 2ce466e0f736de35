/-
  SpreadPayment by the reference. Written by mkspd.py.
  Conditions: those written at each theorem.
-/
import Derived.Test.YtpifimghlfpbaaaP14w
import Derived.Test.YtpifimghlfpbaaaP14k
namespace Go.Proofs.Ytpifimghlfpbaaa
open Go.RowKit Go.BigFrame
set_option maxRecDepth 100000

theorem rdI_prefix {w : World} {g n i : Nat} {l : List Int} (h : Rd w 1 (some ⟨g, 0, none⟩) n (cellsI l)) (hi : i ≤ n) : Rd w 1 (some ⟨g, 0, none⟩) i (cellsI (l.take i)) := by
  have hn : l.length = n := by have := h.1; rw [len_cellsI] at this; omega
  refine ⟨by rw [len_cellsI, List.length_take]; omega, fun hp => ?_⟩
  obtain ⟨b, o, hbo, hlt, hc⟩ := h.2 (by omega)
  refine ⟨b, o, hbo, hlt, fun j u hu => hc j u ?_⟩
  rw [← List.take_append_drop i l, cellsI_append, List.getElem?_append_left (List.getElem?_eq_some_iff.1 hu).1]
  exact hu
theorem rdI_suffix {w : World} {g n i : Nat} {l : List Int} (h : Rd w 1 (some ⟨g, 0, none⟩) n (cellsI l)) (hi : i ≤ n) : Rd w 1 (some ⟨g, i, none⟩) (n - i) (cellsI (l.drop i)) := by
  have hn : l.length = n := by have := h.1; rw [len_cellsI] at this; omega
  refine ⟨by rw [len_cellsI, List.length_drop]; omega, fun hp => ?_⟩
  obtain ⟨b, o, hbo, hlt, hc⟩ := h.2 (by omega)
  cases hbo
  refine ⟨g, i, rfl, hlt, fun j u hu => ?_⟩
  have := hc (i + j) u (by
    rw [← List.take_append_drop i l, cellsI_append, List.getElem?_append_right (by rw [len_cellsI, List.length_take]; omega), len_cellsI, List.length_take, show i + j - min i l.length = j by omega]
    exact hu)
  rwa [Nat.zero_add] at this
theorem rdI_zero {w : World} {A : Option Addr} {n : Nat} {l : List Int} (h : l.length = n) : Rd w 1 A 0 (cellsI (l.drop n)) := ⟨by rw [List.drop_of_length_le (by omega)]; rfl, fun h => absurd h (by omega)⟩
theorem own_at {w : World} {base : Nat} {e : TypeId} {sz n c g : Nat} {A : Option Addr} {xs : List Value} (h : w.ownsRow base e sz (.slice A n c) n xs) (hb : (Value.slice A n c).ownBlock = some g) : A = some ⟨g, 0, none⟩ := by
  rcases h.2 with ⟨hv, _⟩ | ⟨g', cap, cur, hv, _⟩
  · cases hv; cases hb
  · cases hv; cases hb; rfl
theorem own_drew {w : World} {base : Nat} {e : TypeId} {sz n : Nat} {v : Value} {xs : List Value} (h : w.ownsRow base e sz v n xs) : w.drew.ownsRow base e sz v n xs := h
theorem own_cap {w : World} {base : Nat} {e : TypeId} {sz n c : Nat} {A : Option Addr} {xs : List Value} (h : w.ownsRow base e sz (.slice A n c) n xs) : n ≤ c ∧ c ≤ 9223372036854775807 := by
  rcases h.2 with ⟨hv, h0⟩ | ⟨g', cap, cur, hv, _, _, h1, h2, _⟩
  · cases hv; omega
  · cases hv; exact ⟨h1, by have : (maxLen : Nat) ≤ 9223372036854775807 := by decide
                            omega⟩
theorem bill_set6 (l : List Bill) (i : Nat) (h : i < l.length) (b : Bill) :
    ((((((cellsBill l).set (i * 6) (.int .i64 b.id)).set (i * 6 + 1) (.int .i64 b.hours)).set (i * 6 + 2) (.int .i64 b.pages)).set (i * 6 + 3) (.bool b.poor)).set (i * 6 + 4) (.bool b.pub)).set (i * 6 + 5) (.int .i64 b.paid) = cellsBill (l.set i b) := by
  induction l generalizing i with
  | nil => simp at h
  | cons x r ih =>
    have e : ∀ (y : Bill) (t : List Bill), cellsBill (y :: t) = .int .i64 y.id :: .int .i64 y.hours :: .int .i64 y.pages :: .bool y.poor :: .bool y.pub :: .int .i64 y.paid :: cellsBill t := fun _ _ => rfl
    cases i with
    | zero => simp [e]
    | succ i =>
      have := ih i (by simpa using h)
      rw [show (i + 1) * 6 = i * 6 + 1 + 1 + 1 + 1 + 1 + 1 by omega, e]
      simp only [show ∀ j, i * 6 + 1 + 1 + 1 + 1 + 1 + 1 + j = (i * 6 + j) + 1 + 1 + 1 + 1 + 1 + 1 from fun j => by omega, List.set_cons_succ]
      rw [e, this]

set_option maxHeartbeats 8000000 in
theorem specSpreadPayment_any (t : Tariff) (l : List Bill) (cents : Int) (A : Option Addr) (c : Nat) (hA : A = none → c = 0) (hl : l.length ≤ 1048576) (wx : World) (hr : Rd wx 6 A l.length (cellsBill l)) :
    Calls Try.prog 5 #[aggTariff t, .slice A l.length c, .int .i64 cents] wx fun e w' => ∃ v, e = .returned (.tuple #[v, .int .i64 (spdRest t l cents), .bool (spdOk t l cents)]) ∧ SlBill wx.heap.size w' (spdOut t l cents) v ∧ Below wx.heap.size wx w' := by
  obtain ⟨i0, hi, hz0, hz1, hz2⟩ := info_parts infoI
  obtain ⟨i1, ki, kz0, kz1, kz2⟩ := info_parts infoBill
  have HF := fun W h => Lib.hid (specOpenFees_any t l A c hl W h)
  have E0 := fun W : World => Lib.hid (own_empty (B := W.heap.size) W 40 6 (Nat.le_refl _))
  have BE := fun W : World => Lib.hid (Below.alloc (Below.refl W.heap.size W) (Nat.le_refl _) (.cells #[] 40))
  have F0 := fun W : World => Lib.hid (own_empty (B := W.heap.size) W 3 1 (Nat.le_refl _))
  have BF := fun W : World => Lib.hid (Below.alloc (Below.refl W.heap.size W) (Nat.le_refl _) (.cells #[] 3))
  have hb0 : Below wx.heap.size wx (wx.alloc (.cells #[.int .i64 t.search, .int .i64 t.page, .int .i64 t.free, .int .i64 t.limit] 29)) := (Below.refl _ _).alloc (Nat.le_refl _) _
  have B0 := Lib.hid hb0
  have HR := Lib.hid hr
  clear hr hb0
  unfold aggTariff at *
  by_cases h1 : ofOk t l = true
  · by_cases h3 : inB cents 0 1000000 = true
    · have e1 : Hid (spdOk t l cents = true) := by show _ = _; rw [spdOk, h1, h3]; rfl
      have e2 : Hid (spdOut t l cents = (spdAll t l cents).1) := if_pos e1.out
      have e3 : Hid (spdRest t l cents = (spdAll t l cents).2) := if_pos e1.out
      have e4 : ofOut t l = l.map (openI t) := if_pos h1
      obtain ⟨g1, g2⟩ := ofOk_true h1
      have H1 := Lib.hid g1
      have H2 := Lib.hid g2
      have hce := inB_true h3
      obtain ⟨_, hb10⟩ := bills_of g2
      rw [e4, h1] at HF
      clear e4 g1 g2
      go_enter Try.func5, Try.ntmps5
      go_wp2_with fail
      refine (HF _ (HR.out.below B0.out)).out.mono ?_
      rintro e w1 ⟨_, rfl, ⟨A9, c9, rfl, ho1⟩, hb1⟩
      rw [List.length_map] at ho1 ⊢
      have B1 := Lib.hid (Below.transB B0.out (Nat.le_refl _) hb1)
      have O1 := Lib.hid (own_base ho1 B0.out.size)
      clear hb1 ho1 HF h1
      go_wp2_with (go_at_call 13; refine (l14Cents_any _ _).mono ?_; rintro e w' ⟨rfl, rfl⟩; rw [h3])
      have hs1 := B1.out.size
      have B2 := Lib.hid (Below.transB B1.out (Nat.le_refl _) (BF w1).out)
      have O2 := Lib.hid (own_below O1.out (BF w1).out)
      have R2 : Hid ((w1.alloc (.cells #[] 3)).ownsRow wx.heap.size 3 1 (.slice (some ⟨w1.heap.size, 0, none⟩) 0 0) 0 (cellsI (S14.ordF (wgt t l) 0))) := Lib.hid (own_base (F0 w1).out hs1)
      clear O1 h3
      go_loopw [11, 12] (fun v11 v12 wr => ∃ (i g c' : Nat), i ≤ l.length ∧ v12 = .int .i64 i ∧ v11 = .slice (some ⟨g, 0, none⟩) i c' ∧ Below wx.heap.size wx wr ∧
        wr.ownsRow wx.heap.size 3 1 (.slice (some ⟨g, 0, none⟩) i c') i (cellsI (S14.ordF (wgt t l) i)) ∧ wr.ownsRow wx.heap.size 3 1 (.slice A9 l.length c9) l.length (cellsI (l.map (openI t)))) (fun _ v12 _ => l.length - (intOf v12).toNat)
      case atStart => exact ⟨0, w1.heap.size, 0, Nat.zero_le _, rfl, rfl, B2.out, R2.out, O2.out⟩
      case round =>
        clear B2 O2 R2 B1
        obtain ⟨i, g, c', hi10, rfl, rfl, hb, hrow, hopen⟩ := hrel
        rename World => w7
        by_cases hlt : i < l.length
        · have hlt' : ((i : Int) < (l.length : Int)) := by omega
          have hal := S14.len_ordF (wgt t l) i
          have hmo : ∀ x ∈ S14.ordF (wgt t l) i, ∃ m : Nat, m < i ∧ x = m := fun x hx => S14.mem_ordF hx
          have HK : Hid (S14.ordF (wgt t l) (i + 1) = (S14.ordF (wgt t l) i).take (S14.cutFrom (wgt t l) i (S14.ordF (wgt t l) i) i) ++ (i : Int) :: (S14.ordF (wgt t l) i).drop (S14.cutFrom (wgt t l) i (S14.ordF (wgt t l) i) i)) := by
            show _ = _; rw [S14.ordF, S14.insR, hal]
          generalize S14.ordF (wgt t l) i = acc at hrow hal hmo HK
          have MO := Lib.hid hmo
          have HX1 := Lib.hid hb
          have HRa := Lib.hid (Rd.of_own hrow)
          have HOP1 := Lib.hid hopen
          have hg7 : g < w7.heap.size := (hrow.lt g rfl).2
          obtain ⟨hic, hc64⟩ := own_cap hrow
          obtain ⟨gb9, go9, rfl, hgb9, hcell9⟩ := (Rd.of_own hopen).2 (by omega)
          have hci := cellsI_at hcell9 (k := i) (by rw [List.length_map]; exact hlt)
          have HC9 : Hid (∀ m : Nat, (hm : m < l.length) → w7.cell? ⟨gb9, go9 + m, none⟩ = some (.int .i64 (wgt t l m))) := Lib.hid (fun m hm => by
            have := cellsI_at hcell9 (k := m) (by rw [List.length_map]; exact hm)
            rw [List.getElem_map, ← wgt_at t l hm] at this; exact this)
          clear hb hrow hopen hmo hcell9 hci
          go_wp2_with fail
          go_loopw [13] (fun v13 wr => ∃ j : Nat, j ≤ i ∧ v13 = .int .i64 j ∧ Below w7.heap.size w7 wr ∧ Hid (S14.cutFrom (wgt t l) i acc i = S14.cutFrom (wgt t l) i acc j)) (fun v13 _ => (intOf v13).toNat)
          case atStart => exact ⟨i, Nat.le_refl _, rfl, Below.refl _ _, by show _ = _; rfl⟩
          case round =>
            obtain ⟨j, hk, rfl, hb, K⟩ := hrel
            have HW := Lib.hid hb
            have hj0 : (0 : Int) ≤ (j : Int) := by omega
            have hjn : (j : Int) ≤ (i : Int) := by omega
            have hjc : (j : Int) ≤ (c' : Int) := by omega
            have hnc : (i : Int) ≤ (c' : Int) := by omega
            by_cases hz : j = 0
            · have z1 : decide ((0 : Int) < (j : Int)) = false := decide_eq_false (by omega)
              have z2 : decide (0 < j) = false := decide_eq_false (by omega)
              have z3 : ¬ ((0 : Int) < (j : Int)) := by omega
              have F : Hid (cellsI (S14.ordF (wgt t l) (i + 1)) = cellsI (acc.take j) ++ [.int .i64 i] ++ cellsI (acc.drop j)) := by
                show _ = _
                rw [HK.out, K.out, hz, S14.cutFrom, cellsI_append]; simp [cellsI]
              clear hz hb
              go_wp2_with fail
              refine wp_region_grow (by kernel_rfl) (by kernel_rfl) ?_
              repeat (go_big_quiet_step (fail))
              refine wpQuiet_endG ?_
              intro w hb2
              have HX := Lib.hid (Below.transB HX1.out (Nat.le_refl _) (Below.transB HW.out (Nat.le_refl _) hb2))
              have HRw := Lib.hid ((HRa.out.below HW.out).below hb2)
              have HOPw := Lib.hid (own_below (own_below HOP1.out HW.out) hb2)
              have hgw : g < w.heap.size := by have := HW.out.size; have := hb2.size; omega
              have hwx : wx.heap.size ≤ w.heap.size := HX.out.size
              have HR := HRw
              have HOP := HOPw
              clear HRw HOPw hb2 HX1 HW HRa HOP1 K
              clear z1 z2 z3
              by_cases hji : j < i
              · have hck : ¬ c' = j := by omega
                go_wp2_with fail
                have HP := Lib.hid (rdI_prefix HR.out hk)
                have ee := own_empty (B := w.heap.size) (w.drew.alloc (.cells #[.int .i64 i] 3)) 3 1 (by simp only [World.size_alloc, drew_size]; omega)
                have na := BX.new (w.drew.alloc (.cells #[] 3)) #[.int .i64 i] 3
                simp only [World.size_alloc, drew_size] at ee na
                have nb : BX ((w.drew.alloc (.cells #[.int .i64 i] 3)).alloc (.cells #[] 3)) w.heap.size [.int .i64 i] := (BX.new w.drew #[.int .i64 i] 3).alloc (.cells #[] 3)
                have EE := Lib.hid ee
                have NA := Lib.hid na
                have NB := Lib.hid nb
                clear ee na nb
                go_region_held3 (fun w' => w.heap.size ≤ w'.heap.size) (first | assumption | omega | (simp only [World.size_alloc, drew_size]; omega))
                  (first
                    | (refine step_appendT rfl _ _ 35 rfl w.heap.size 3 i0 (.int .i64 0) 1 8 Try.underlying35 hi hz0 hz1 hz2 rfl (by decide) (by decide) _ 0 0 [] rfl _ j _ (cellsI (acc.take j)) rfl j (Nat.zero_add j) ?_ ?_ ?_ (fun h => by cases h) (one_cellsI _) (by omega) ?_
                       · first
                         | exact own_empty w.drew _ _ (Nat.le_refl _)
                         | exact (own_empty w.drew _ _ (Nat.le_refl _)).alloc _
                         | exact EE.out
                       · refine Rd.below HP.out ?_
                         go_grown
                       · (first | assumption | omega | (simp only [World.size_alloc, drew_size]; omega))
                       intro A3 c3 w3 hown3 hg3 hpl3
                       rw [List.nil_append] at hown3
                       have hs3 : w.heap.size ≤ w3.heap.size := Nat.le_trans (by (first | assumption | omega | (simp only [World.size_alloc, drew_size]; omega))) hg3.size
                       have hf3 := own_far (g := g) hown3 hgw
                       have HR3 := Lib.hid (Rd.grown (Rd.below HR.out (show Below w.heap.size w _ by go_grown)) hg3 (by simp [Value.ownBlock]; omega))
                       have HB3 : Hid (Below w.heap.size w w3) := Lib.hid (Below.grown (show Below w.heap.size w _ by go_grown) hg3 (by (first | assumption | omega | (simp only [World.size_alloc, drew_size]; omega))) (fun j hj => by simp [Value.ownBlock] at hj; omega)))
                    | (refine step_appendT rfl _ _ 35 rfl w.heap.size 3 i0 (.int .i64 0) 1 8 Try.underlying35 hi hz0 hz1 hz2 rfl (by decide) (by decide) A3 j c3 (cellsI (acc.take j)) rfl _ 1 _ [.int .i64 i] rfl (j + 1) rfl ?_ ?_ ?_ (fun h => by cases h) (by simp [Value.oneCell']) (by omega) ?_
                       · first
                         | exact hown3
                         | exact hown3.alloc _
                       · first
                         | exact (NA.out.grown hg3 (by simp [Value.ownBlock])).rd1
                         | exact (NB.out.grown hg3 (by simp [Value.ownBlock])).rd1
                         | exact (BX.new w3 #[.int .i64 i] 3).rd1
                       · (first | assumption | omega | (simp only [World.size_alloc, drew_size]; omega))
                       intro A4 c4 w4 hown4 hg4 hpl4
                       have hs4 : w.heap.size ≤ w4.heap.size := Nat.le_trans (by (first | assumption | omega | (simp only [World.size_alloc, drew_size]; omega))) hg4.size
                       have HR4 : Hid (Rd w4 1 (some ⟨g, 0, none⟩) i (cellsI acc)) := by
                         first
                         | exact Lib.hid (HR3.out.grown hg4 hf3)
                         | exact Lib.hid ((HR3.out.below ((Below.refl _ _).alloc (Nat.le_refl _) (.cells #[.int .i64 i] 3))).grown hg4 hf3)
                       have HB4 : Hid (Below w.heap.size w w4) := by
                         first
                         | exact Lib.hid (Below.row HB3.out hown3 hg4 (Nat.le_refl _) hs3)
                         | exact Lib.hid (Below.row (Below.alloc HB3.out hs3 (.cells #[.int .i64 i] 3)) (hown3.alloc (.cells #[.int .i64 i] 3)) hg4 (Nat.le_refl _) (by (first | assumption | omega | (simp only [World.size_alloc, drew_size]; omega)))))
                    | (refine step_appendT rfl _ _ 35 rfl w.heap.size 3 i0 (.int .i64 0) 1 8 Try.underlying35 hi hz0 hz1 hz2 rfl (by decide) (by decide) A4 (j + 1) c4 (cellsI (acc.take j) ++ [.int .i64 i]) rfl _ (i - j) _ (cellsI (acc.drop j)) rfl (i + 1) (by omega) hown4 ?_ hs4 (fun h => by cases h) (one_cellsI _) (by omega) ?_
                       · exact rdI_suffix HR4.out hk
                       intro A5 c5 w5 hown5 hg5 hpl5
                       have hs5 : w.heap.size ≤ w5.heap.size := Nat.le_trans hs4 hg5.size
                       have HB5 := Lib.hid (Below.row HB4.out hown4 hg5 (Nat.le_refl _) hs4)
                       have HO5 := Lib.hid hown5))
                all_goals
                  obtain ⟨g5, rfl⟩ := own_some HO5.out (by omega)
                  clear hown5 hown4 hown3 hg3 hg4 hg5 hpl3 hpl4 hpl5 EE NA NB hf3
                  go_wp2
                  go_roundw
                  case rel => exact ⟨i + 1, g5, c5, by omega, by go_num, rfl, Below.transB HX.out (Nat.le_refl _) HB5.out, by rw [F.out]; exact own_base HO5.out hwx, own_below HOP.out HB5.out⟩
                  case measure => simp [intOf]; omega
              · obtain rfl : j = i := by omega
                have hz : j - j = 0 := Nat.sub_self j
                by_cases hck : c' = j
                · subst hck
                  go_wp2_with fail
                  have HP := Lib.hid (rdI_prefix HR.out hk)
                  have ee := own_empty (B := w.heap.size) (w.drew.alloc (.cells #[.int .i64 c'] 3)) 3 1 (by simp only [World.size_alloc, drew_size]; omega)
                  have na := BX.new (w.drew.alloc (.cells #[] 3)) #[.int .i64 c'] 3
                  simp only [World.size_alloc, drew_size] at ee na
                  have nb : BX ((w.drew.alloc (.cells #[.int .i64 c'] 3)).alloc (.cells #[] 3)) w.heap.size [.int .i64 c'] := (BX.new w.drew #[.int .i64 c'] 3).alloc (.cells #[] 3)
                  have EE := Lib.hid ee
                  have NA := Lib.hid na
                  have NB := Lib.hid nb
                  clear ee na nb
                  go_region_held3 (fun w' => w.heap.size ≤ w'.heap.size) (first | assumption | omega | (simp only [World.size_alloc, drew_size]; omega))
                    (first
                      | (refine step_appendT rfl _ _ 35 rfl w.heap.size 3 i0 (.int .i64 0) 1 8 Try.underlying35 hi hz0 hz1 hz2 rfl (by decide) (by decide) _ 0 0 [] rfl _ c' _ (cellsI (acc.take c')) rfl c' (Nat.zero_add c') ?_ ?_ ?_ (fun h => by cases h) (one_cellsI _) (by omega) ?_
                         · first
                           | exact own_empty w.drew _ _ (Nat.le_refl _)
                           | exact (own_empty w.drew _ _ (Nat.le_refl _)).alloc _
                           | exact EE.out
                         · refine Rd.below HP.out ?_
                           go_grown
                         · (first | assumption | omega | (simp only [World.size_alloc, drew_size]; omega))
                         intro A3 c3 w3 hown3 hg3 hpl3
                         rw [List.nil_append] at hown3
                         have hs3 : w.heap.size ≤ w3.heap.size := Nat.le_trans (by (first | assumption | omega | (simp only [World.size_alloc, drew_size]; omega))) hg3.size
                         have hf3 := own_far (g := g) hown3 hgw
                         have HR3 := Lib.hid (Rd.grown (Rd.below HR.out (show Below w.heap.size w _ by go_grown)) hg3 (by simp [Value.ownBlock]; omega))
                         have HB3 : Hid (Below w.heap.size w w3) := Lib.hid (Below.grown (show Below w.heap.size w _ by go_grown) hg3 (by (first | assumption | omega | (simp only [World.size_alloc, drew_size]; omega))) (fun j hj => by simp [Value.ownBlock] at hj; omega)))
                      | (refine step_appendT rfl _ _ 35 rfl w.heap.size 3 i0 (.int .i64 0) 1 8 Try.underlying35 hi hz0 hz1 hz2 rfl (by decide) (by decide) A3 c' c3 (cellsI (acc.take c')) rfl _ 1 _ [.int .i64 c'] rfl (c' + 1) rfl ?_ ?_ ?_ (fun h => by cases h) (by simp [Value.oneCell']) (by omega) ?_
                         · first
                           | exact hown3
                           | exact hown3.alloc _
                         · first
                           | exact (NA.out.grown hg3 (by simp [Value.ownBlock])).rd1
                           | exact (NB.out.grown hg3 (by simp [Value.ownBlock])).rd1
                           | exact (BX.new w3 #[.int .i64 c'] 3).rd1
                         · (first | assumption | omega | (simp only [World.size_alloc, drew_size]; omega))
                         intro A4 c4 w4 hown4 hg4 hpl4
                         have hs4 : w.heap.size ≤ w4.heap.size := Nat.le_trans (by (first | assumption | omega | (simp only [World.size_alloc, drew_size]; omega))) hg4.size
                         have HR4 : Hid (Rd w4 1 (some ⟨g, 0, none⟩) c' (cellsI acc)) := by
                           first
                           | exact Lib.hid (HR3.out.grown hg4 hf3)
                           | exact Lib.hid ((HR3.out.below ((Below.refl _ _).alloc (Nat.le_refl _) (.cells #[.int .i64 c'] 3))).grown hg4 hf3)
                         have HB4 : Hid (Below w.heap.size w w4) := by
                           first
                           | exact Lib.hid (Below.row HB3.out hown3 hg4 (Nat.le_refl _) hs3)
                           | exact Lib.hid (Below.row (Below.alloc HB3.out hs3 (.cells #[.int .i64 c'] 3)) (hown3.alloc (.cells #[.int .i64 c'] 3)) hg4 (Nat.le_refl _) (by (first | assumption | omega | (simp only [World.size_alloc, drew_size]; omega)))))
                      | (refine step_appendT rfl _ _ 35 rfl w.heap.size 3 i0 (.int .i64 0) 1 8 Try.underlying35 hi hz0 hz1 hz2 rfl (by decide) (by decide) A4 (c' + 1) c4 (cellsI (acc.take c') ++ [.int .i64 c']) rfl _ (0) _ (cellsI (acc.drop c')) rfl (c' + 1) (by omega) hown4 ?_ hs4 (fun h => by cases h) (one_cellsI _) (by omega) ?_
                         · exact rdI_zero hal
                         intro A5 c5 w5 hown5 hg5 hpl5
                         have hs5 : w.heap.size ≤ w5.heap.size := Nat.le_trans hs4 hg5.size
                         have HB5 := Lib.hid (Below.row HB4.out hown4 hg5 (Nat.le_refl _) hs4)
                         have HO5 := Lib.hid hown5))
                  all_goals
                    obtain ⟨g5, rfl⟩ := own_some HO5.out (by omega)
                    clear hown5 hown4 hown3 hg3 hg4 hg5 hpl3 hpl4 hpl5 EE NA NB hf3
                    go_wp2
                    go_roundw
                    case rel => exact ⟨c' + 1, g5, c5, by omega, by go_num, rfl, Below.transB HX.out (Nat.le_refl _) HB5.out, by rw [F.out]; exact own_base HO5.out hwx, own_below HOP.out HB5.out⟩
                    case measure => simp [intOf]; omega
                · go_wp2_with fail
                  have HP := Lib.hid (rdI_prefix HR.out hk)
                  have ee := own_empty (B := w.heap.size) (w.drew.alloc (.cells #[.int .i64 j] 3)) 3 1 (by simp only [World.size_alloc, drew_size]; omega)
                  have na := BX.new (w.drew.alloc (.cells #[] 3)) #[.int .i64 j] 3
                  simp only [World.size_alloc, drew_size] at ee na
                  have nb : BX ((w.drew.alloc (.cells #[.int .i64 j] 3)).alloc (.cells #[] 3)) w.heap.size [.int .i64 j] := (BX.new w.drew #[.int .i64 j] 3).alloc (.cells #[] 3)
                  have EE := Lib.hid ee
                  have NA := Lib.hid na
                  have NB := Lib.hid nb
                  clear ee na nb
                  go_region_held3 (fun w' => w.heap.size ≤ w'.heap.size) (first | assumption | omega | (simp only [World.size_alloc, drew_size]; omega))
                    (first
                      | (refine step_appendT rfl _ _ 35 rfl w.heap.size 3 i0 (.int .i64 0) 1 8 Try.underlying35 hi hz0 hz1 hz2 rfl (by decide) (by decide) _ 0 0 [] rfl _ j _ (cellsI (acc.take j)) rfl j (Nat.zero_add j) ?_ ?_ ?_ (fun h => by cases h) (one_cellsI _) (by omega) ?_
                         · first
                           | exact own_empty w.drew _ _ (Nat.le_refl _)
                           | exact (own_empty w.drew _ _ (Nat.le_refl _)).alloc _
                           | exact EE.out
                         · refine Rd.below HP.out ?_
                           go_grown
                         · (first | assumption | omega | (simp only [World.size_alloc, drew_size]; omega))
                         intro A3 c3 w3 hown3 hg3 hpl3
                         rw [List.nil_append] at hown3
                         have hs3 : w.heap.size ≤ w3.heap.size := Nat.le_trans (by (first | assumption | omega | (simp only [World.size_alloc, drew_size]; omega))) hg3.size
                         have hf3 := own_far (g := g) hown3 hgw
                         have HR3 := Lib.hid (Rd.grown (Rd.below HR.out (show Below w.heap.size w _ by go_grown)) hg3 (by simp [Value.ownBlock]; omega))
                         have HB3 : Hid (Below w.heap.size w w3) := Lib.hid (Below.grown (show Below w.heap.size w _ by go_grown) hg3 (by (first | assumption | omega | (simp only [World.size_alloc, drew_size]; omega))) (fun j hj => by simp [Value.ownBlock] at hj; omega)))
                      | (refine step_appendT rfl _ _ 35 rfl w.heap.size 3 i0 (.int .i64 0) 1 8 Try.underlying35 hi hz0 hz1 hz2 rfl (by decide) (by decide) A3 j c3 (cellsI (acc.take j)) rfl _ 1 _ [.int .i64 j] rfl (j + 1) rfl ?_ ?_ ?_ (fun h => by cases h) (by simp [Value.oneCell']) (by omega) ?_
                         · first
                           | exact hown3
                           | exact hown3.alloc _
                         · first
                           | exact (NA.out.grown hg3 (by simp [Value.ownBlock])).rd1
                           | exact (NB.out.grown hg3 (by simp [Value.ownBlock])).rd1
                           | exact (BX.new w3 #[.int .i64 j] 3).rd1
                         · (first | assumption | omega | (simp only [World.size_alloc, drew_size]; omega))
                         intro A4 c4 w4 hown4 hg4 hpl4
                         have hs4 : w.heap.size ≤ w4.heap.size := Nat.le_trans (by (first | assumption | omega | (simp only [World.size_alloc, drew_size]; omega))) hg4.size
                         have HR4 : Hid (Rd w4 1 (some ⟨g, 0, none⟩) j (cellsI acc)) := by
                           first
                           | exact Lib.hid (HR3.out.grown hg4 hf3)
                           | exact Lib.hid ((HR3.out.below ((Below.refl _ _).alloc (Nat.le_refl _) (.cells #[.int .i64 j] 3))).grown hg4 hf3)
                         have HB4 : Hid (Below w.heap.size w w4) := by
                           first
                           | exact Lib.hid (Below.row HB3.out hown3 hg4 (Nat.le_refl _) hs3)
                           | exact Lib.hid (Below.row (Below.alloc HB3.out hs3 (.cells #[.int .i64 j] 3)) (hown3.alloc (.cells #[.int .i64 j] 3)) hg4 (Nat.le_refl _) (by (first | assumption | omega | (simp only [World.size_alloc, drew_size]; omega)))))
                      | (refine step_appendT rfl _ _ 35 rfl w.heap.size 3 i0 (.int .i64 0) 1 8 Try.underlying35 hi hz0 hz1 hz2 rfl (by decide) (by decide) A4 (j + 1) c4 (cellsI (acc.take j) ++ [.int .i64 j]) rfl _ (0) _ (cellsI (acc.drop j)) rfl (j + 1) (by omega) hown4 ?_ hs4 (fun h => by cases h) (one_cellsI _) (by omega) ?_
                         · exact rdI_zero hal
                         intro A5 c5 w5 hown5 hg5 hpl5
                         have hs5 : w.heap.size ≤ w5.heap.size := Nat.le_trans hs4 hg5.size
                         have HB5 := Lib.hid (Below.row HB4.out hown4 hg5 (Nat.le_refl _) hs4)
                         have HO5 := Lib.hid hown5))
                  all_goals
                    obtain ⟨g5, rfl⟩ := own_some HO5.out (by omega)
                    clear hown5 hown4 hown3 hg3 hg4 hg5 hpl3 hpl4 hpl5 EE NA NB hf3
                    go_wp2
                    go_roundw
                    case rel => exact ⟨j + 1, g5, c5, by omega, by go_num, rfl, Below.transB HX.out (Nat.le_refl _) HB5.out, by rw [F.out]; exact own_base HO5.out hwx, own_below HOP.out HB5.out⟩
                    case measure => simp [intOf]; omega
            · obtain ⟨jp, hjp'⟩ : ∃ jp, j = jp + 1 := ⟨j - 1, by omega⟩
              have hjp : (j : Int) - 1 = (jp : Int) := by omega
              have hjpl : jp < acc.length := by omega
              have z1 : decide ((0 : Int) < (j : Int)) = true := decide_eq_true (by omega)
              have z3 : (0 : Int) < (j : Int) := by omega
              have z4 : 0 < j := by omega
              have z2 : decide (0 < j) = true := decide_eq_true z4
              obtain ⟨m, hm, hx⟩ := MO.out _ (List.getElem_mem hjpl)
              obtain ⟨gb, go, hbo, hgb, hcell⟩ := (HRa.out.below hb).2 (by omega)
              cases hbo
              have r0 := cellsI_at hcell hjpl
              rw [hx, Nat.zero_add] at r0
              have p0 := cellG hgb r0
              have hgb9' : gb9 < wr.heap.size := Nat.lt_of_lt_of_le hgb9 hb.size
              have p1 := cellG hgb9' ((hb.cell (p := ⟨gb9, go9 + m, none⟩) hgb9).trans (HC9.out m (by omega)))
              have p2 := cellG hgb9' ((hb.cell (p := ⟨gb9, go9 + i, none⟩) hgb9).trans (HC9.out i hlt))
              have hwj : IntKind.i64.wrap (jp : Int) = (jp : Int) := IntWalk.i64_in _ (by omega)
              have y0 : (0 : Int) ≤ (jp : Int) := by omega
              have y1 : (jp : Int) < (i : Int) := by omega
              have y2 : (0 : Int) ≤ (m : Int) := by omega
              have y3 : (m : Int) < (l.length : Int) := by omega
              have K1 : Hid (S14.cutFrom (wgt t l) i acc i = if wgt t l m > wgt t l i then S14.cutFrom (wgt t l) i acc jp else j) := by
                show _ = _
                rw [K.out, hjp', S14.cutFrom]
                simp only [List.getElem?_eq_getElem hjpl, hx, Option.map_some, Option.getD_some]
              have JP := Lib.hid hjp'
              clear hcell r0 hx hz hjp'
              by_cases hq : wgt t l i < wgt t l m
              · have K2 : Hid (S14.cutFrom (wgt t l) i acc i = S14.cutFrom (wgt t l) i acc jp) := by show _ = _; rw [K1.out, if_pos hq]
                clear K K1 hb
                generalize wgt t l m = fm at *
                go_wp2_with fail
                refine wp_region_grow (by kernel_rfl) (by kernel_rfl) ?_
                repeat (go_big_quiet_step (fail))
                refine wpQuiet_endG ?_
                intro w hb2
                have HW2 := Lib.hid (Below.transB HW.out (Nat.le_refl _) hb2)
                clear hb2 p0 p1 p2
                go_wp2
                go_roundw
                case rel => exact ⟨jp, by omega, by go_num, HW2.out, K2⟩
                case measure => simp [intOf]; omega
              · have F : Hid (cellsI (S14.ordF (wgt t l) (i + 1)) = cellsI (acc.take j) ++ [.int .i64 i] ++ cellsI (acc.drop j)) := by
                  show _ = _
                  rw [HK.out, K1.out, if_neg hq, cellsI_append]; simp [cellsI]
                clear K1 hb
                go_wp2_with fail
                refine wp_region_grow (by kernel_rfl) (by kernel_rfl) ?_
                repeat (go_big_quiet_step (fail))
                refine wpQuiet_endG ?_
                intro w hb2
                have HX := Lib.hid (Below.transB HX1.out (Nat.le_refl _) (Below.transB HW.out (Nat.le_refl _) hb2))
                have HRw := Lib.hid ((HRa.out.below HW.out).below hb2)
                have HOPw := Lib.hid (own_below (own_below HOP1.out HW.out) hb2)
                have hgw : g < w.heap.size := by have := HW.out.size; have := hb2.size; omega
                have hwx : wx.heap.size ≤ w.heap.size := HX.out.size
                have HR := HRw
                have HOP := HOPw
                clear HRw HOPw hb2 HX1 HW HRa HOP1 K
                clear p0 p1 p2
                by_cases hji : j < i
                · have hck : ¬ c' = j := by omega
                  go_wp2_with fail
                  have HP := Lib.hid (rdI_prefix HR.out hk)
                  have ee := own_empty (B := w.heap.size) (w.drew.alloc (.cells #[.int .i64 i] 3)) 3 1 (by simp only [World.size_alloc, drew_size]; omega)
                  have na := BX.new (w.drew.alloc (.cells #[] 3)) #[.int .i64 i] 3
                  simp only [World.size_alloc, drew_size] at ee na
                  have nb : BX ((w.drew.alloc (.cells #[.int .i64 i] 3)).alloc (.cells #[] 3)) w.heap.size [.int .i64 i] := (BX.new w.drew #[.int .i64 i] 3).alloc (.cells #[] 3)
                  have EE := Lib.hid ee
                  have NA := Lib.hid na
                  have NB := Lib.hid nb
                  clear ee na nb
                  go_region_held3 (fun w' => w.heap.size ≤ w'.heap.size) (first | assumption | omega | (simp only [World.size_alloc, drew_size]; omega))
                    (first
                      | (refine step_appendT rfl _ _ 35 rfl w.heap.size 3 i0 (.int .i64 0) 1 8 Try.underlying35 hi hz0 hz1 hz2 rfl (by decide) (by decide) _ 0 0 [] rfl _ j _ (cellsI (acc.take j)) rfl j (Nat.zero_add j) ?_ ?_ ?_ (fun h => by cases h) (one_cellsI _) (by omega) ?_
                         · first
                           | exact own_empty w.drew _ _ (Nat.le_refl _)
                           | exact (own_empty w.drew _ _ (Nat.le_refl _)).alloc _
                           | exact EE.out
                         · refine Rd.below HP.out ?_
                           go_grown
                         · (first | assumption | omega | (simp only [World.size_alloc, drew_size]; omega))
                         intro A3 c3 w3 hown3 hg3 hpl3
                         rw [List.nil_append] at hown3
                         have hs3 : w.heap.size ≤ w3.heap.size := Nat.le_trans (by (first | assumption | omega | (simp only [World.size_alloc, drew_size]; omega))) hg3.size
                         have hf3 := own_far (g := g) hown3 hgw
                         have HR3 := Lib.hid (Rd.grown (Rd.below HR.out (show Below w.heap.size w _ by go_grown)) hg3 (by simp [Value.ownBlock]; omega))
                         have HB3 : Hid (Below w.heap.size w w3) := Lib.hid (Below.grown (show Below w.heap.size w _ by go_grown) hg3 (by (first | assumption | omega | (simp only [World.size_alloc, drew_size]; omega))) (fun j hj => by simp [Value.ownBlock] at hj; omega)))
                      | (refine step_appendT rfl _ _ 35 rfl w.heap.size 3 i0 (.int .i64 0) 1 8 Try.underlying35 hi hz0 hz1 hz2 rfl (by decide) (by decide) A3 j c3 (cellsI (acc.take j)) rfl _ 1 _ [.int .i64 i] rfl (j + 1) rfl ?_ ?_ ?_ (fun h => by cases h) (by simp [Value.oneCell']) (by omega) ?_
                         · first
                           | exact hown3
                           | exact hown3.alloc _
                         · first
                           | exact (NA.out.grown hg3 (by simp [Value.ownBlock])).rd1
                           | exact (NB.out.grown hg3 (by simp [Value.ownBlock])).rd1
                           | exact (BX.new w3 #[.int .i64 i] 3).rd1
                         · (first | assumption | omega | (simp only [World.size_alloc, drew_size]; omega))
                         intro A4 c4 w4 hown4 hg4 hpl4
                         have hs4 : w.heap.size ≤ w4.heap.size := Nat.le_trans (by (first | assumption | omega | (simp only [World.size_alloc, drew_size]; omega))) hg4.size
                         have HR4 : Hid (Rd w4 1 (some ⟨g, 0, none⟩) i (cellsI acc)) := by
                           first
                           | exact Lib.hid (HR3.out.grown hg4 hf3)
                           | exact Lib.hid ((HR3.out.below ((Below.refl _ _).alloc (Nat.le_refl _) (.cells #[.int .i64 i] 3))).grown hg4 hf3)
                         have HB4 : Hid (Below w.heap.size w w4) := by
                           first
                           | exact Lib.hid (Below.row HB3.out hown3 hg4 (Nat.le_refl _) hs3)
                           | exact Lib.hid (Below.row (Below.alloc HB3.out hs3 (.cells #[.int .i64 i] 3)) (hown3.alloc (.cells #[.int .i64 i] 3)) hg4 (Nat.le_refl _) (by (first | assumption | omega | (simp only [World.size_alloc, drew_size]; omega)))))
                      | (refine step_appendT rfl _ _ 35 rfl w.heap.size 3 i0 (.int .i64 0) 1 8 Try.underlying35 hi hz0 hz1 hz2 rfl (by decide) (by decide) A4 (j + 1) c4 (cellsI (acc.take j) ++ [.int .i64 i]) rfl _ (i - j) _ (cellsI (acc.drop j)) rfl (i + 1) (by omega) hown4 ?_ hs4 (fun h => by cases h) (one_cellsI _) (by omega) ?_
                         · exact rdI_suffix HR4.out hk
                         intro A5 c5 w5 hown5 hg5 hpl5
                         have hs5 : w.heap.size ≤ w5.heap.size := Nat.le_trans hs4 hg5.size
                         have HB5 := Lib.hid (Below.row HB4.out hown4 hg5 (Nat.le_refl _) hs4)
                         have HO5 := Lib.hid hown5))
                  all_goals
                    obtain ⟨g5, rfl⟩ := own_some HO5.out (by omega)
                    clear hown5 hown4 hown3 hg3 hg4 hg5 hpl3 hpl4 hpl5 EE NA NB hf3
                    go_wp2
                    go_roundw
                    case rel => exact ⟨i + 1, g5, c5, by omega, by go_num, rfl, Below.transB HX.out (Nat.le_refl _) HB5.out, by rw [F.out]; exact own_base HO5.out hwx, own_below HOP.out HB5.out⟩
                    case measure => simp [intOf]; omega
                · obtain rfl : j = i := by omega
                  have hz : j - j = 0 := Nat.sub_self j
                  by_cases hck : c' = j
                  · subst hck
                    go_wp2_with fail
                    have HP := Lib.hid (rdI_prefix HR.out hk)
                    have ee := own_empty (B := w.heap.size) (w.drew.alloc (.cells #[.int .i64 c'] 3)) 3 1 (by simp only [World.size_alloc, drew_size]; omega)
                    have na := BX.new (w.drew.alloc (.cells #[] 3)) #[.int .i64 c'] 3
                    simp only [World.size_alloc, drew_size] at ee na
                    have nb : BX ((w.drew.alloc (.cells #[.int .i64 c'] 3)).alloc (.cells #[] 3)) w.heap.size [.int .i64 c'] := (BX.new w.drew #[.int .i64 c'] 3).alloc (.cells #[] 3)
                    have EE := Lib.hid ee
                    have NA := Lib.hid na
                    have NB := Lib.hid nb
                    clear ee na nb
                    go_region_held3 (fun w' => w.heap.size ≤ w'.heap.size) (first | assumption | omega | (simp only [World.size_alloc, drew_size]; omega))
                      (first
                        | (refine step_appendT rfl _ _ 35 rfl w.heap.size 3 i0 (.int .i64 0) 1 8 Try.underlying35 hi hz0 hz1 hz2 rfl (by decide) (by decide) _ 0 0 [] rfl _ c' _ (cellsI (acc.take c')) rfl c' (Nat.zero_add c') ?_ ?_ ?_ (fun h => by cases h) (one_cellsI _) (by omega) ?_
                           · first
                             | exact own_empty w.drew _ _ (Nat.le_refl _)
                             | exact (own_empty w.drew _ _ (Nat.le_refl _)).alloc _
                             | exact EE.out
                           · refine Rd.below HP.out ?_
                             go_grown
                           · (first | assumption | omega | (simp only [World.size_alloc, drew_size]; omega))
                           intro A3 c3 w3 hown3 hg3 hpl3
                           rw [List.nil_append] at hown3
                           have hs3 : w.heap.size ≤ w3.heap.size := Nat.le_trans (by (first | assumption | omega | (simp only [World.size_alloc, drew_size]; omega))) hg3.size
                           have hf3 := own_far (g := g) hown3 hgw
                           have HR3 := Lib.hid (Rd.grown (Rd.below HR.out (show Below w.heap.size w _ by go_grown)) hg3 (by simp [Value.ownBlock]; omega))
                           have HB3 : Hid (Below w.heap.size w w3) := Lib.hid (Below.grown (show Below w.heap.size w _ by go_grown) hg3 (by (first | assumption | omega | (simp only [World.size_alloc, drew_size]; omega))) (fun j hj => by simp [Value.ownBlock] at hj; omega)))
                        | (refine step_appendT rfl _ _ 35 rfl w.heap.size 3 i0 (.int .i64 0) 1 8 Try.underlying35 hi hz0 hz1 hz2 rfl (by decide) (by decide) A3 c' c3 (cellsI (acc.take c')) rfl _ 1 _ [.int .i64 c'] rfl (c' + 1) rfl ?_ ?_ ?_ (fun h => by cases h) (by simp [Value.oneCell']) (by omega) ?_
                           · first
                             | exact hown3
                             | exact hown3.alloc _
                           · first
                             | exact (NA.out.grown hg3 (by simp [Value.ownBlock])).rd1
                             | exact (NB.out.grown hg3 (by simp [Value.ownBlock])).rd1
                             | exact (BX.new w3 #[.int .i64 c'] 3).rd1
                           · (first | assumption | omega | (simp only [World.size_alloc, drew_size]; omega))
                           intro A4 c4 w4 hown4 hg4 hpl4
                           have hs4 : w.heap.size ≤ w4.heap.size := Nat.le_trans (by (first | assumption | omega | (simp only [World.size_alloc, drew_size]; omega))) hg4.size
                           have HR4 : Hid (Rd w4 1 (some ⟨g, 0, none⟩) c' (cellsI acc)) := by
                             first
                             | exact Lib.hid (HR3.out.grown hg4 hf3)
                             | exact Lib.hid ((HR3.out.below ((Below.refl _ _).alloc (Nat.le_refl _) (.cells #[.int .i64 c'] 3))).grown hg4 hf3)
                           have HB4 : Hid (Below w.heap.size w w4) := by
                             first
                             | exact Lib.hid (Below.row HB3.out hown3 hg4 (Nat.le_refl _) hs3)
                             | exact Lib.hid (Below.row (Below.alloc HB3.out hs3 (.cells #[.int .i64 c'] 3)) (hown3.alloc (.cells #[.int .i64 c'] 3)) hg4 (Nat.le_refl _) (by (first | assumption | omega | (simp only [World.size_alloc, drew_size]; omega)))))
                        | (refine step_appendT rfl _ _ 35 rfl w.heap.size 3 i0 (.int .i64 0) 1 8 Try.underlying35 hi hz0 hz1 hz2 rfl (by decide) (by decide) A4 (c' + 1) c4 (cellsI (acc.take c') ++ [.int .i64 c']) rfl _ (0) _ (cellsI (acc.drop c')) rfl (c' + 1) (by omega) hown4 ?_ hs4 (fun h => by cases h) (one_cellsI _) (by omega) ?_
                           · exact rdI_zero hal
                           intro A5 c5 w5 hown5 hg5 hpl5
                           have hs5 : w.heap.size ≤ w5.heap.size := Nat.le_trans hs4 hg5.size
                           have HB5 := Lib.hid (Below.row HB4.out hown4 hg5 (Nat.le_refl _) hs4)
                           have HO5 := Lib.hid hown5))
                    all_goals
                      obtain ⟨g5, rfl⟩ := own_some HO5.out (by omega)
                      clear hown5 hown4 hown3 hg3 hg4 hg5 hpl3 hpl4 hpl5 EE NA NB hf3
                      go_wp2
                      go_roundw
                      case rel => exact ⟨c' + 1, g5, c5, by omega, by go_num, rfl, Below.transB HX.out (Nat.le_refl _) HB5.out, by rw [F.out]; exact own_base HO5.out hwx, own_below HOP.out HB5.out⟩
                      case measure => simp [intOf]; omega
                  · go_wp2_with fail
                    have HP := Lib.hid (rdI_prefix HR.out hk)
                    have ee := own_empty (B := w.heap.size) (w.drew.alloc (.cells #[.int .i64 j] 3)) 3 1 (by simp only [World.size_alloc, drew_size]; omega)
                    have na := BX.new (w.drew.alloc (.cells #[] 3)) #[.int .i64 j] 3
                    simp only [World.size_alloc, drew_size] at ee na
                    have nb : BX ((w.drew.alloc (.cells #[.int .i64 j] 3)).alloc (.cells #[] 3)) w.heap.size [.int .i64 j] := (BX.new w.drew #[.int .i64 j] 3).alloc (.cells #[] 3)
                    have EE := Lib.hid ee
                    have NA := Lib.hid na
                    have NB := Lib.hid nb
                    clear ee na nb
                    go_region_held3 (fun w' => w.heap.size ≤ w'.heap.size) (first | assumption | omega | (simp only [World.size_alloc, drew_size]; omega))
                      (first
                        | (refine step_appendT rfl _ _ 35 rfl w.heap.size 3 i0 (.int .i64 0) 1 8 Try.underlying35 hi hz0 hz1 hz2 rfl (by decide) (by decide) _ 0 0 [] rfl _ j _ (cellsI (acc.take j)) rfl j (Nat.zero_add j) ?_ ?_ ?_ (fun h => by cases h) (one_cellsI _) (by omega) ?_
                           · first
                             | exact own_empty w.drew _ _ (Nat.le_refl _)
                             | exact (own_empty w.drew _ _ (Nat.le_refl _)).alloc _
                             | exact EE.out
                           · refine Rd.below HP.out ?_
                             go_grown
                           · (first | assumption | omega | (simp only [World.size_alloc, drew_size]; omega))
                           intro A3 c3 w3 hown3 hg3 hpl3
                           rw [List.nil_append] at hown3
                           have hs3 : w.heap.size ≤ w3.heap.size := Nat.le_trans (by (first | assumption | omega | (simp only [World.size_alloc, drew_size]; omega))) hg3.size
                           have hf3 := own_far (g := g) hown3 hgw
                           have HR3 := Lib.hid (Rd.grown (Rd.below HR.out (show Below w.heap.size w _ by go_grown)) hg3 (by simp [Value.ownBlock]; omega))
                           have HB3 : Hid (Below w.heap.size w w3) := Lib.hid (Below.grown (show Below w.heap.size w _ by go_grown) hg3 (by (first | assumption | omega | (simp only [World.size_alloc, drew_size]; omega))) (fun j hj => by simp [Value.ownBlock] at hj; omega)))
                        | (refine step_appendT rfl _ _ 35 rfl w.heap.size 3 i0 (.int .i64 0) 1 8 Try.underlying35 hi hz0 hz1 hz2 rfl (by decide) (by decide) A3 j c3 (cellsI (acc.take j)) rfl _ 1 _ [.int .i64 j] rfl (j + 1) rfl ?_ ?_ ?_ (fun h => by cases h) (by simp [Value.oneCell']) (by omega) ?_
                           · first
                             | exact hown3
                             | exact hown3.alloc _
                           · first
                             | exact (NA.out.grown hg3 (by simp [Value.ownBlock])).rd1
                             | exact (NB.out.grown hg3 (by simp [Value.ownBlock])).rd1
                             | exact (BX.new w3 #[.int .i64 j] 3).rd1
                           · (first | assumption | omega | (simp only [World.size_alloc, drew_size]; omega))
                           intro A4 c4 w4 hown4 hg4 hpl4
                           have hs4 : w.heap.size ≤ w4.heap.size := Nat.le_trans (by (first | assumption | omega | (simp only [World.size_alloc, drew_size]; omega))) hg4.size
                           have HR4 : Hid (Rd w4 1 (some ⟨g, 0, none⟩) j (cellsI acc)) := by
                             first
                             | exact Lib.hid (HR3.out.grown hg4 hf3)
                             | exact Lib.hid ((HR3.out.below ((Below.refl _ _).alloc (Nat.le_refl _) (.cells #[.int .i64 j] 3))).grown hg4 hf3)
                           have HB4 : Hid (Below w.heap.size w w4) := by
                             first
                             | exact Lib.hid (Below.row HB3.out hown3 hg4 (Nat.le_refl _) hs3)
                             | exact Lib.hid (Below.row (Below.alloc HB3.out hs3 (.cells #[.int .i64 j] 3)) (hown3.alloc (.cells #[.int .i64 j] 3)) hg4 (Nat.le_refl _) (by (first | assumption | omega | (simp only [World.size_alloc, drew_size]; omega)))))
                        | (refine step_appendT rfl _ _ 35 rfl w.heap.size 3 i0 (.int .i64 0) 1 8 Try.underlying35 hi hz0 hz1 hz2 rfl (by decide) (by decide) A4 (j + 1) c4 (cellsI (acc.take j) ++ [.int .i64 j]) rfl _ (0) _ (cellsI (acc.drop j)) rfl (j + 1) (by omega) hown4 ?_ hs4 (fun h => by cases h) (one_cellsI _) (by omega) ?_
                           · exact rdI_zero hal
                           intro A5 c5 w5 hown5 hg5 hpl5
                           have hs5 : w.heap.size ≤ w5.heap.size := Nat.le_trans hs4 hg5.size
                           have HB5 := Lib.hid (Below.row HB4.out hown4 hg5 (Nat.le_refl _) hs4)
                           have HO5 := Lib.hid hown5))
                    all_goals
                      obtain ⟨g5, rfl⟩ := own_some HO5.out (by omega)
                      clear hown5 hown4 hown3 hg3 hg4 hg5 hpl3 hpl4 hpl5 EE NA NB hf3
                      go_wp2
                      go_roundw
                      case rel => exact ⟨j + 1, g5, c5, by omega, by go_num, rfl, Below.transB HX.out (Nat.le_refl _) HB5.out, by rw [F.out]; exact own_base HO5.out hwx, own_below HOP.out HB5.out⟩
                      case measure => simp [intOf]; omega
        · have hil : i = l.length := by omega
          have hge : ¬ ((i : Int) < (l.length : Int)) := by omega
          have hord := S14.len_ordF (wgt t l) l.length
          have hnd := S14.nodup_ordF (wgt t l) l.length
          have hmo : ∀ x ∈ S14.ordF (wgt t l) l.length, ∃ i : Nat, i < l.length ∧ x = i := fun x hx => S14.mem_ordF hx
          have HK : Hid (spdAll t l cents = payO t l (S14.ordF (wgt t l) l.length) l cents) := by show _ = _; rfl
          rw [hil] at hrow
          generalize S14.ordF (wgt t l) l.length = ord at hrow hord hnd hmo HK
          have ND := Lib.hid hnd
          have MO := Lib.hid hmo
          have LO := Lib.hid hord
          have HX1 := Lib.hid hb
          have HRo := Lib.hid (Rd.of_own hrow)
          have HRp := Lib.hid (Rd.of_own hopen)
          subst hil
          clear hb hrow hopen hnd hmo hord
          go_wp2_with (at_builtin; refine wpList_appendMany' _ rfl _ _ 26 rfl w7.heap.size 40 i1 (.agg #[.int .i64 0, .int .i64 0, .int .i64 0, .bool false, .bool false, .int .i64 0]) 6 40 Try.underlying26 ki kz0 kz1 kz2 rfl (by decide) (by decide) (some ⟨w7.heap.size, 0, none⟩) 0 0 [] rfl (E0 w7).out A l.length c (cellsBill l) rfl ((HR.out.below HX1.out).below (BE w7).out) hA (one_cellsBill l) (by omega) (by simp) ?_; intro A5 c5 w5 hown5 hg5 hpl5)
          have hlz : 0 + l.length = l.length := Nat.zero_add _
          rw [hlz] at hown5 hpl5
          try rw [hlz]
          rw [List.nil_append] at hown5
          have B5 : Hid (Below w7.heap.size w7 w5) := Lib.hid (Below.row (BE w7).out (E0 w7).out hg5 (Nat.le_refl _) (by simp))
          have O5 := Lib.hid hown5
          clear hown5 hg5 hpl5 hlz
          go_wp2_with fail
          go_loopw [2, 15] (fun v2 v15 wr => ∃ (k : Nat) (out : List Bill) (c' : Int), k ≤ l.length ∧ v15 = .int .i64 k ∧ v2 = .int .i64 c' ∧ (0 ≤ c' ∧ c' ≤ 1000000) ∧ out.length = l.length ∧ Below w7.heap.size w7 wr ∧
            wr.ownsRow w7.heap.size 40 6 (.slice A5 l.length c5) l.length (cellsBill out) ∧ Hid (Fresh l out (ord.drop k)) ∧ Hid (spdAll t l cents = payO t l (ord.drop k) out c')) (fun _ v15 _ => l.length - (intOf v15).toNat)
          case atStart => exact ⟨0, l, cents, Nat.zero_le _, rfl, rfl, hce, rfl, B5.out, O5.out, Lib.hid (fun _ _ => rfl), HK⟩
          case round =>
            clear B5 O5 HK
            obtain ⟨k, out, c', hk, rfl, rfl, hc', hol, hb, hown, F, K⟩ := hrel
            by_cases hlt : k < l.length
            · have hlo : k < ord.length := by rw [LO.out]; exact hlt
              have hlt' : ((k : Int) < (l.length : Int)) := by omega
              obtain ⟨i, hil, hx⟩ := MO.out _ (List.getElem_mem hlo)
              obtain ⟨g1, rfl⟩ := own_some hown (by omega)
              have hgw : w7.heap.size ≤ g1 := (hown.lt g1 rfl).1
              have hgl : g1 < wr.heap.size := (hown.lt g1 rfl).2
              have hgn : ¬ g1 = wr.heap.size := by omega
              have hgn' : ¬ wr.heap.size = g1 := by omega
              obtain ⟨gb, go, hbo, hgb, hcell⟩ := (HRo.out.below hb).2 (by omega)
              cases hbo
              have r0 := cellsI_at hcell hlo
              rw [hx, Nat.zero_add] at r0
              obtain ⟨gb9, go9, rfl, hgb9, hcell9⟩ := (HRp.out.below hb).2 (by omega)
              have s0 := cellsI_at hcell9 (k := i) (by rw [List.length_map]; exact hil)
              rw [List.getElem_map] at s0
              clear hcell hcell9
              have F1 := F.out
              have K1 := K.out
              rw [List.drop_eq_getElem_cons hlo, hx] at F1 K1
              rw [payO, Int.toNat_natCast] at K1
              have hni := F1 (i : Int) (by simp)
              rw [Int.toNat_natCast] at hni
              have hio : i < out.length := by omega
              have hoi : out[i] = l[i] := by
                rw [List.getElem?_eq_getElem hio, List.getElem?_eq_getElem hil] at hni
                exact Option.some.inj hni
              rw [List.getElem?_eq_getElem hil, Option.getD_some] at K1
              have F2 : Hid (Fresh l (out.set i (addPaid l[i] (partI t l i c'))) (ord.drop (k + 1))) := by
                refine Lib.hid (Fresh.step F1 ?_ (fun x hx => ?_))
                · rw [← hx, ← List.drop_eq_getElem_cons hlo]
                  exact List.Pairwise.sublist (List.drop_sublist _ _) ND.out
                · obtain ⟨j, _, rfl⟩ := MO.out x (List.mem_of_mem_drop hx)
                  omega
              have K2 := Lib.hid K1
              have hpb := part_bd (t := t) (l := l) hil H1.out H2.out hc'.1
              have hpp : Hid (partI t l i c' = if c' < openI t l[i] then c' else openI t l[i]) := by
                show _ = _; rw [partI, wgt_at t l hil]; split <;> split <;> omega
              have hok := (bills_of H2.out).1 i hil
              have hpd := (billOk_true hok).2.2.2
              have HL1 : ∀ W, Hid (Calls Try.prog 14 #[.int .i64 c', .int .i64 (openI t l[i])] W fun e w' => e = .returned (.int .i64 (partI t l i c')) ∧ W = w') := fun W => Lib.hid (by rw [hpp.out]; exact l1Least_any _ _ W)
              clear K K1 F F1 hni hok hpp
              generalize partI t l i c' = n at F2 K2 hpb HL1
              obtain ⟨gb2, go2, hbo, hgb2, hcell⟩ := (Rd.of_own hown).2 (by omega)
              cases hbo
              obtain ⟨q0, q1, q2, q3, q4, q5⟩ := cellsBill_at hcell hio
              rw [hoi] at q0 q1 q2 q3 q4 q5
              rw [Nat.zero_add] at q0 q1 q2 q3 q4 q5
              clear hcell
              have hi0 : (0 : Int) ≤ (i : Int) := by omega
              have hi1 : (i : Int) < (l.length : Int) := by omega
              have HOWN := Lib.hid hown
              have HBD := Lib.hid hb
              clear hown hb
              generalize openI t l[i] = oi at *
              go_wp2_with (go_at_call 14; refine (HL1 _).out.mono ?_; rintro e w' ⟨rfl, rfl⟩)
              have hbx : Below wr.heap.size wr (wr.alloc (.cells #[.int .i64 l[i].id, .int .i64 l[i].hours, .int .i64 l[i].pages, .bool l[i].poor, .bool l[i].pub, .int .i64 (l[i].paid + n)] 40)) := (Below.refl _ _).alloc (Nat.le_refl _) _
              have hown := HOWN.out.alloc (.cells #[.int .i64 l[i].id, .int .i64 l[i].hours, .int .i64 l[i].pages, .bool l[i].poor, .bool l[i].pub, .int .i64 (l[i].paid + n)] 40)
              have hb := Below.alloc HBD.out HBD.out.size (.cells #[.int .i64 l[i].id, .int .i64 l[i].hours, .int .i64 l[i].pages, .bool l[i].poor, .bool l[i].pub, .int .i64 (l[i].paid + n)] 40)
              have r8 := (hbx.cell (p := ⟨g, k, none⟩) hgb).trans r0
              have bx := BX.new wr #[.int .i64 l[i].id, .int .i64 l[i].hours, .int .i64 l[i].pages, .bool l[i].poor, .bool l[i].pub, .int .i64 (l[i].paid + n)] 40
              have b0 := bx.cell 0 _ rfl
              have b1 := bx.cell 1 _ rfl
              have b2 := bx.cell 2 _ rfl
              have b3 := bx.cell 3 _ rfl
              have b4 := bx.cell 4 _ rfl
              have b5 := bx.cell 5 _ rfl
              clear hbx r0 bx q0 q1 q2 q3 q4 q5 s0
              generalize wr.alloc (.cells #[.int .i64 l[i].id, .int .i64 l[i].hours, .int .i64 l[i].pages, .bool l[i].poor, .bool l[i].pub, .int .i64 (l[i].paid + n)] 40) = w8 at *
              obtain ⟨⟨z0, e0⟩, f0⟩ := own_has hown (i * 6) (by omega)
              obtain ⟨⟨z1, e1⟩, f1⟩ := own_has hown (i * 6 + 1) (by omega)
              obtain ⟨⟨z2, e2⟩, f2⟩ := own_has hown (i * 6 + 2) (by omega)
              obtain ⟨⟨z3, e3⟩, f3⟩ := own_has hown (i * 6 + 3) (by omega)
              obtain ⟨⟨z4, e4⟩, f4⟩ := own_has hown (i * 6 + 4) (by omega)
              obtain ⟨⟨z5, e5⟩, f5⟩ := own_has hown (i * 6 + 5) (by omega)
              have HS4 := ((((((hown.stored (i * 6) (.int .i64 l[i].id)).1.stored (i * 6 + 1) (.int .i64 l[i].hours)).1.stored (i * 6 + 2) (.int .i64 l[i].pages)).1.stored (i * 6 + 3) (.bool l[i].poor)).1.stored (i * 6 + 4) (.bool l[i].pub)).1.stored (i * 6 + 5) (.int .i64 (l[i].paid + n))).1
              have HT4 := bill_set6 out i hio (addPaid l[i] n)
              dsimp only [addPaid] at HT4
              rw [HT4] at HS4
              have HO4 := Lib.hid HS4
              have HB1 := ((((((hb.setCell (p := ⟨g1, i * 6, none⟩) hgw (.int .i64 l[i].id)).setCell (p := ⟨g1, i * 6 + 1, none⟩) hgw (.int .i64 l[i].hours)).setCell (p := ⟨g1, i * 6 + 2, none⟩) hgw (.int .i64 l[i].pages)).setCell (p := ⟨g1, i * 6 + 3, none⟩) hgw (.bool l[i].poor)).setCell (p := ⟨g1, i * 6 + 4, none⟩) hgw (.bool l[i].pub)).setCell (p := ⟨g1, i * 6 + 5, none⟩) hgw (.int .i64 (l[i].paid + n)))
              have HB4 := Lib.hid HB1
              clear HT4 HS4 HB1 hown hb
              go_still_tail 6, (by kernel_rfl)
              change wpList _ _ _ _ _ w8.drew
              go_wp2
              go_roundw
              case rel => exact ⟨k + 1, out.set i (addPaid l[i] n), c' - n, by omega, by go_num, by go_num, by omega, by simpa using hol, HB4.out.drew, own_drew HO4.out, F2, K2⟩
              case measure => simp [intOf]; omega
            · have hge : ¬ ((k : Int) < (l.length : Int)) := by omega
              have K2 : Hid (spdAll t l cents = (out, c')) := by
                show _ = _; rw [K.out, List.drop_of_length_le (by rw [LO.out]; omega), payO]
              have HO := Lib.hid hown
              have HB := Lib.hid (Below.transB HX1.out (Nat.le_refl _) hb)
              have hsz := HX1.out.size
              have HL := Lib.hid hol
              clear K hown hb F hol
              go_wp2
              go_ret3
              refine ⟨_, by rw [e1.out, e3.out, K2.out]; rfl, ?_, HB.out⟩
              rw [e2.out, K2.out]
              exact ⟨A5, c5, by rw [HL.out]; rfl, by rw [HL.out]; exact own_base HO.out hsz⟩
    · have h3' : inB cents 0 1000000 = false := by simpa using h3
      have e1 : Hid (spdOk t l cents = false) := by show _ = _; rw [spdOk, h3']; simp
      have e2 : Hid (spdOut t l cents = []) := if_neg (by rw [e1.out]; simp)
      have e3 : Hid (spdRest t l cents = 0) := if_neg (by rw [e1.out]; simp)
      rw [h1] at HF
      go_enter Try.func5, Try.ntmps5
      go_wp2_with fail
      refine (HF _ (HR.out.below B0.out)).out.mono ?_
      rintro e w1 ⟨_, rfl, ⟨A9, c9, rfl, _⟩, hb1⟩
      have B1 := Lib.hid (Below.transB B0.out (Nat.le_refl _) hb1)
      have hs1 := B1.out.size
      clear hb1 HF h1
      go_wp2_with (go_at_call 13; refine (l14Cents_any _ _).mono ?_; rintro e w' ⟨rfl, rfl⟩; rw [h3'])
      go_ret3
      exact ⟨_, by rw [e1.out, e3.out]; rfl, by rw [e2.out]; exact ⟨_, _, rfl, own_base (E0 _).out hs1⟩, Below.transB B1.out (Nat.le_refl _) (BE _).out⟩
  · have h1' : ofOk t l = false := by simpa using h1
    have e1 : Hid (spdOk t l cents = false) := by show _ = _; rw [spdOk, h1']; rfl
    have e2 : Hid (spdOut t l cents = []) := if_neg (by rw [e1.out]; simp)
    have e3 : Hid (spdRest t l cents = 0) := if_neg (by rw [e1.out]; simp)
    rw [h1'] at HF
    go_enter Try.func5, Try.ntmps5
    go_wp2_with fail
    refine (HF _ (HR.out.below B0.out)).out.mono ?_
    rintro e w1 ⟨_, rfl, ⟨A9, c9, rfl, _⟩, hb1⟩
    have B1 := Lib.hid (Below.transB B0.out (Nat.le_refl _) hb1)
    have hs1 := B1.out.size
    clear hb1 HF h1 h1'
    go_wp2
    go_ret3
    exact ⟨_, by rw [e1.out, e3.out]; rfl, by rw [e2.out]; exact ⟨_, _, rfl, own_base (E0 _).out hs1⟩, Below.transB B1.out (Nat.le_refl _) (BE _).out⟩

end Go.Proofs.Ytpifimghlfpbaaa
