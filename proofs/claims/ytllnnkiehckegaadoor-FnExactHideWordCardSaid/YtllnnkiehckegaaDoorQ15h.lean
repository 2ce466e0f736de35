/-
  HideWord by the reference.
  Conditions: those written at each theorem.
-/
import Derived.Test.YtllnnkiehckegaaDoorQ15g
import Derived.Test.YtllnnkiehckegaaDoorQ15b
namespace Go.Proofs.YtllnnkiehckegaaDoor
open Go.RowKit Go.BigFrame H15
set_option maxRecDepth 100000

set_option maxHeartbeats 4000000 in
theorem specHideWord_any (t : ByteArray) (l : List Span) (d : ByteArray) (r : Int) (A : Option Addr) (c : Nat) (hA : A = none → c = 0) (ht : t.size ≤ 1048576) (hd : d.size ≤ 1048576) (hl : l.length ≤ 1048576) (w : World) (hr : Rd w 3 A l.length (cellsSpan l)) :
    Calls Tryd.prog 21 #[.string t, .slice A l.length c, .string d, .int .i64 r] w fun e w' => ∃ v, e = .returned (.tuple #[v, .bool (hwOk t l d r)]) ∧ SlSpan w.heap.size w' (hwOut t l d r) v ∧ Below w.heap.size w w' := by
  obtain ⟨i0, hi, hz0, hz1, hz2⟩ := info_parts infoSpan
  have H1 := fun W k => Lib.hid (l15Good_any t l A c ht hl W k)
  have H2 := fun W => Lib.hid (l2Word_any d (by omega) W)
  have HN := fun W => Lib.hid (l1In_any r 1 9 W)
  have E0 := fun W : World => Lib.hid (own_empty (B := W.heap.size) W 45 3 (Nat.le_refl _))
  have B0 := fun W : World => Lib.hid (Below.alloc (Below.refl W.heap.size W) (Nat.le_refl _) (.cells #[] 45))
  have HR := Lib.hid hr
  clear hr
  by_cases h1 : goodT t l = true
  · rw [h1] at H1
    by_cases h2 : wordB d = true
    · rw [h2] at H2
      by_cases h3 : inB r 1 9 = true
      · rw [h3] at HN
        have hok : hwOk1 t l d r = true := by rw [hwOk1, h1, h2, h3]; rfl
        have hex : ∃ q, goodT t (hwAll t l d r) = q := ⟨_, rfl⟩
        obtain ⟨q, hq⟩ := hex
        have e1 : Hid (hwOk t l d r = q) := by show _ = _; rw [hwOk, hok, hq]; rfl
        have e2 : Hid (hwOut t l d r = if q = true then hwAll t l d r else []) := by show _ = _; unfold hwOut; rw [e1.out]
        obtain ⟨_, ht100, hl8⟩ := goodT_true h1
        have hmem : ∀ p ∈ placesF t d, 0 ≤ p ∧ p + (d.size : Int) ≤ (t.size : Int) := fun p hp => placesF_mem hp
        have hlen := placesF_len t d ht100
        have hall : Hid (hwAll t l d r = insAll (hwNew l d.size r (placesF t d)) l) := by show _ = _; rfl
        obtain ⟨⟨hw1, hw2⟩, _⟩ := wordB_true h2
        have hsc : scanI t d = placesF t d := scan_places (goodT_text h1) h2
        have H3 := fun W => Lib.hid (l15Places_any t d ht hw1 hw2 W)
        rw [hsc] at H3
        have H4 := fun (v : Option Addr) cc (hn : (hwAll t l d r).length ≤ 1048576) W k => Lib.hid (l15Good_any t (hwAll t l d r) v cc ht hn W k)
        rw [hq] at H4
        clear h1 h2 h3 hok hq hsc
        generalize hwAll t l d r = out at H4 e2 hall
        generalize placesF t d = S at H3 hmem hlen hall
        have HM := Lib.hid hmem
        clear hmem
        go_enter Tryd.func21, Tryd.ntmps21
        go_wp2_with fail
        refine (H1 _ HR.out).out.mono ?_
        rintro e w1 ⟨rfl, hb1⟩
        have B1 := Lib.hid hb1
        clear hb1
        go_wp2_with (first
          | (go_at_call 33; refine (H2 _).out.mono ?_; rintro e w' ⟨rfl, rfl⟩)
          | (go_at_call 24; refine (HN _).out.mono ?_; rintro e w' ⟨rfl, rfl⟩))
        refine (H3 _).out.mono ?_
        rintro e w4 ⟨v, rfl, ⟨A4, c4, rfl, ho4⟩, hb4⟩
        have hs1 := B1.out.size
        have B4 := Lib.hid (Below.transB B1.out (Nat.le_refl _) hb4)
        have P4 := Lib.hid (own_base ho4 hs1)
        have hs4 := B4.out.size
        clear hb4 ho4 H1 H2 H3 HN
        go_wp2_with (at_builtin; refine wpList_appendMany' _ rfl _ _ 24 rfl w4.heap.size 45 i0 (.agg #[.int .i64 0, .int .i64 0, .int .i64 0]) 3 24 Tryd.underlying24 hi hz0 hz1 hz2 rfl (by decide) (by decide) (some ⟨w4.heap.size, 0, none⟩) 0 0 [] rfl (E0 w4).out A l.length c (cellsSpan l) rfl ((HR.out.below B4.out).below (B0 w4).out) hA (one_cellsSpan l) (by omega) (by simp) ?_; intro A5 c5 w5 hown5 hg5 hpl5)
        have hlz : 0 + l.length = l.length := Nat.zero_add _
        rw [hlz] at hown5 hpl5
        try rw [hlz]
        rw [List.nil_append] at hown5
        have hex5 : ∃ g5, A5 = some ⟨g5, 0, none⟩ := by
          rcases hpl5 with e | e
          · exact ⟨_, own_at hown5 (e.trans rfl)⟩
          · exact ⟨_, own_at hown5 e⟩
        obtain ⟨g5, rfl⟩ := hex5
        have hb5 : Below w4.heap.size w4 w5 := Below.row (B0 w4).out (E0 w4).out hg5 (Nat.le_refl _) (by simp)
        have B5 := Lib.hid (Below.transB B4.out (Nat.le_refl _) hb5)
        have O5 := Lib.hid (own_base hown5 hs4)
        have P5 := Lib.hid (own_below P4.out hb5)
        clear hb5 hown5 hg5 hpl5 hlz B1 B4 P4
        go_wp2_with fail
        go_loopw [11, 12] (fun v11 v12 wr => ∃ (k : Nat) (acc : List Span) (g' c' : Nat), k ≤ S.length ∧ acc.length ≤ l.length + k ∧ v12 = .int .i64 k ∧ v11 = .slice (some ⟨g', 0, none⟩) acc.length c' ∧ Below w.heap.size w wr ∧
          wr.ownsRow w.heap.size 45 3 (.slice (some ⟨g', 0, none⟩) acc.length c') acc.length (cellsSpan acc) ∧ wr.ownsRow w.heap.size 3 1 (.slice A4 S.length c4) S.length (cellsI S) ∧
          Hid (out = insAll (hwNew l d.size r (S.drop k)) acc)) (fun _ v12 _ => S.length - (intOf v12).toNat)
        case atStart => exact ⟨0, l, _, _, Nat.zero_le _, Nat.le_refl _, rfl, rfl, B5.out, O5.out, P5.out, hall⟩
        case round =>
          clear B5 O5 P5
          obtain ⟨k, acc, g', c', hk, hak, rfl, rfl, hb, hown, hpl, K⟩ := hrel
          by_cases hlt : k < S.length
          · obtain ⟨gb, go, rfl, hgb, hcell⟩ := (Rd.of_own hpl).2 (by omega)
            have c0 := cellsI_at hcell hlt
            clear hcell
            have hp := HM.out _ (List.getElem_mem hlt)
            have hlt' : (k : Int) < (S.length : Int) := by omega
            have hs0 := hb.size
            have HB := Lib.hid hb
            have HO := Lib.hid hown
            have HP := Lib.hid hpl
            have HT := Lib.hid (l15Touched_any l S[k] (S[k] + (d.size : Int)) A c hl wr (HR.out.below hb))
            have K1 := K.out
            rw [List.drop_eq_getElem_cons hlt, hwNew] at K1
            have hwrap : IntKind.i64.wrap (S[k] + (d.size : Int)) = S[k] + (d.size : Int) := IntWalk.i64_in _ (by omega)
            clear K hb hown hpl
            by_cases q : tchB l S[k] (S[k] + (d.size : Int)) = true
            · rw [if_pos q] at K1
              have HK := Lib.hid K1
              rw [q] at HT
              clear K1 q
              go_wp2_with fail
              refine HT.out.mono ?_
              rintro e w5 ⟨rfl, rfl⟩
              go_wp2_with fail
              go_roundw
              case rel => exact ⟨k + 1, acc, g', c', by omega, by omega, by go_num, rfl, HB.out, HO.out, HP.out, HK⟩
              case measure => simp [intOf]; omega
            · rw [if_neg q, insAll] at K1
              have q' : tchB l S[k] (S[k] + (d.size : Int)) = false := by simpa using q
              have HK := Lib.hid K1
              have HC := Lib.hid (own_cap HO.out)
              have hg' := (HO.out.lt g' rfl).2
              have HQ := Lib.hid (l15Insert_any acc ⟨S[k], S[k] + (d.size : Int), r⟩ acc.length g' c' rfl (by omega) HC.out wr (Rd.of_own HO.out) hg')
              rw [q'] at HT
              clear K1 q q'
              go_wp2_with fail
              refine HT.out.mono ?_
              rintro e w5 ⟨rfl, rfl⟩
              go_wp2_with fail
              refine HQ.out.mono ?_
              rintro e w6 ⟨g6, c6, rfl, ho6, hb6⟩
              have B6 := Lib.hid (Below.transB HB.out (Nat.le_refl _) hb6)
              have P6 := Lib.hid (own_below HP.out hb6)
              have hil : (insS ⟨S[k], S[k] + (d.size : Int), r⟩ acc).length = acc.length + 1 := by rw [(perm_insS _ _).length_eq]; rfl
              have O6 : Hid (w6.ownsRow w.heap.size 45 3 (.slice (some ⟨g6, 0, none⟩) (insS ⟨S[k], S[k] + (d.size : Int), r⟩ acc).length c6) (insS ⟨S[k], S[k] + (d.size : Int), r⟩ acc).length (cellsSpan (insS ⟨S[k], S[k] + (d.size : Int), r⟩ acc))) := by
                show World.ownsRow _ _ _ _ _ _ _
                rw [hil]; exact own_base ho6 hs0
              clear hb6 ho6
              go_wp2_with fail
              go_roundw
              case rel => exact ⟨k + 1, _, g6, c6, by omega, by omega, by go_num, by rw [hil], B6.out, O6.out, P6.out, HK⟩
              case measure => simp [intOf]; omega
          · have K2 : out = acc := by rw [K.out, List.drop_of_length_le (by omega)]; simp [hwNew, insAll]
            subst K2
            have HB := Lib.hid hb
            have HO := Lib.hid hown
            have hs0 := hb.size
            have hge : ¬ ((k : Int) < (S.length : Int)) := by omega
            have HF := Lib.hid (H4 (some ⟨g', 0, none⟩) c' (by omega) wr (Rd.of_own hown)).out
            clear K hb hown hpl
            go_wp2_with fail
            refine HF.out.mono ?_
            rintro e w6 ⟨rfl, hb6⟩
            have B6 := Lib.hid (Below.transB HB.out (Nat.le_refl _) hb6)
            have O6 := Lib.hid (own_below HO.out hb6)
            have hs6 := B6.out.size
            clear hb6
            cases q
            · go_wp2
              go_ret2
              exact ⟨_, by rw [e1.out]; rfl, by rw [e2.out]; exact ⟨_, _, rfl, own_base (E0 _).out hs6⟩, Below.transB B6.out (Nat.le_refl _) (B0 _).out⟩
            · go_wp2
              go_ret2
              exact ⟨_, by rw [e1.out]; rfl, by rw [e2.out]; exact ⟨_, c', rfl, O6.out⟩, B6.out⟩
      · have h3' : inB r 1 9 = false := by simpa using h3
        have e1 : Hid (hwOk t l d r = false) := by show _ = _; rw [hwOk, hwOk1, h3']; simp
        have e2 : Hid (hwOut t l d r = []) := if_neg (by rw [e1.out]; simp)
        rw [h3'] at HN
        clear h1 h2 h3 h3'
        go_enter Tryd.func21, Tryd.ntmps21
        go_wp2_with fail
        refine (H1 _ HR.out).out.mono ?_
        rintro e w1 ⟨rfl, hb1⟩
        have B1 := Lib.hid hb1
        have hs1 := B1.out.size
        clear hb1
        go_wp2_with (first
          | (go_at_call 33; refine (H2 _).out.mono ?_; rintro e w' ⟨rfl, rfl⟩)
          | (go_at_call 24; refine (HN _).out.mono ?_; rintro e w' ⟨rfl, rfl⟩))
        go_ret2
        exact ⟨_, by rw [e1.out]; rfl, by rw [e2.out]; exact ⟨_, _, rfl, own_base (E0 _).out hs1⟩, Below.transB B1.out (Nat.le_refl _) (B0 _).out⟩
    · have h2' : wordB d = false := by simpa using h2
      rw [h2'] at H2
      have e1 : Hid (hwOk t l d r = false) := by show _ = _; rw [hwOk, hwOk1, h2']; simp
      have e2 : Hid (hwOut t l d r = []) := if_neg (by rw [e1.out]; simp)
      clear h1 h2 h2'
      go_enter Tryd.func21, Tryd.ntmps21
      go_wp2_with fail
      refine (H1 _ HR.out).out.mono ?_
      rintro e w1 ⟨rfl, hb1⟩
      have B1 := Lib.hid hb1
      have hs1 := B1.out.size
      clear hb1
      go_wp2_with (go_at_call 33; refine (H2 _).out.mono ?_; rintro e w' ⟨rfl, rfl⟩)
      go_ret2
      exact ⟨_, by rw [e1.out]; rfl, by rw [e2.out]; exact ⟨_, _, rfl, own_base (E0 _).out hs1⟩, Below.transB B1.out (Nat.le_refl _) (B0 _).out⟩
  · have h1' : goodT t l = false := by simpa using h1
    rw [h1'] at H1
    have e1 : Hid (hwOk t l d r = false) := by show _ = _; rw [hwOk, hwOk1, h1']; rfl
    have e2 : Hid (hwOut t l d r = []) := if_neg (by rw [e1.out]; simp)
    clear h1 h1'
    go_enter Tryd.func21, Tryd.ntmps21
    go_wp2_with fail
    refine (H1 _ HR.out).out.mono ?_
    rintro e w1 ⟨rfl, hb1⟩
    have B1 := Lib.hid hb1
    have hs1 := B1.out.size
    clear hb1
    go_wp2
    go_ret2
    exact ⟨_, by rw [e1.out]; rfl, by rw [e2.out]; exact ⟨_, _, rfl, own_base (E0 _).out hs1⟩, Below.transB B1.out (Nat.le_refl _) (B0 _).out⟩

end Go.Proofs.YtllnnkiehckegaaDoor
