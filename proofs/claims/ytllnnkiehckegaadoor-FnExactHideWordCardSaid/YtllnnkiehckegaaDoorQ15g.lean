/-
  HideWord by the program.
  Conditions: those written at each theorem.
-/
import Derived.Test.YtllnnkiehckegaaDoorQ15f
import Derived.Test.YtllnnkiehckegaaDoorP15y
namespace Go.Proofs.YtllnnkiehckegaaDoor
open Go.RowKit Go.BigFrame H15
set_option maxRecDepth 100000

theorem sortSpan_own (base : Nat) (l : List Span) (A : Option Addr) (c : Nat) (w : World) (ho : w.ownsRow base 45 3 (.slice A l.length c) l.length (cellsSpan l)) (hl : l.length ≤ 1048576) :
    Calls Tryd.prog 43 #[.slice A l.length c, .func (.func 44) #[] #[]] w
      fun e w' => e = .returned (.tuple #[]) ∧ ∃ d : List Span, d.Perm l ∧ d.Pairwise (fun a b => ¬ b.lo < a.lo) ∧ w'.ownsRow base 45 3 (.slice A l.length c) l.length (cellsSpan d) ∧ w.grownBy w' (Value.slice A l.length c).ownBlock := by
  by_cases h0 : l = []
  · subst h0
    have hn := sortSpan_nil A c (.func (.func 44) #[] #[]) w
    refine Calls.mono (show Calls Tryd.prog 43 #[.slice A ([] : List Span).length c, .func (.func 44) #[] #[]] w _ from hn) ?_
    rintro e w' ⟨rfl, rfl⟩
    exact ⟨rfl, [], List.Perm.refl _, by simp, ho, ⟨rfl, rfl, rfl, Nat.le_refl _, fun _ _ _ => rfl⟩⟩
  · obtain ⟨g, rfl⟩ := own_some ho (List.length_pos_iff.2 h0)
    refine (sortSpan_any base l g c w ho hl).mono ?_
    rintro e w' ⟨rfl, d, h1, h2, h3, h4⟩
    exact ⟨rfl, d, h1, h2, h3, h4⟩

set_option maxHeartbeats 16000000 in
theorem implHideWord_any (t : ByteArray) (l : List Span) (d : ByteArray) (r : Int) (A : Option Addr) (c : Nat) (hA : A = none → c = 0) (ht : t.size ≤ 1048576) (hd : d.size ≤ 1048576) (hl : l.length ≤ 1048576) (w : World) (hr : Rd w 3 A l.length (cellsSpan l)) :
    Calls Tryd.prog 22 #[.string t, .slice A l.length c, .string d, .int .i64 r] w fun e w' => ∃ v, e = .returned (.tuple #[v, .bool (hwOk t l d r)]) ∧ SlSpan w.heap.size w' (hwOut t l d r) v ∧ Below w.heap.size w w' := by
  obtain ⟨i0, hi, hz0, hz1, hz2⟩ := info_parts infoSpan
  have H1 := fun W k => Lib.hid (implAreSpans_any t l A c ht hl W k)
  have H2 := fun W => Lib.hid (isWord_any d (by omega) W)
  have H3 := fun W => Lib.hid (placesOf_any t d ht W)
  have HR := Lib.hid hr
  clear hr
  by_cases h1 : goodT t l = true
  · rw [h1] at H1
    by_cases h2 : wordB d = true
    · rw [h2] at H2
      by_cases h3 : inB r 1 9 = true
      · have HS := @hw_sorted t l d r h1 h2
        have hok : hwOk1 t l d r = true := by rw [hwOk1, h1, h2, h3]; rfl
        have hex : ∃ q, goodT t (hwAll t l d r) = q := ⟨_, rfl⟩
        obtain ⟨q, hq⟩ := hex
        have e1 : Hid (hwOk t l d r = q) := by show _ = _; rw [hwOk, hok, hq]; rfl
        have e2 : Hid (hwOut t l d r = if q = true then hwAll t l d r else []) := by show _ = _; unfold hwOut; rw [e1.out]
        obtain ⟨_, ht100, hl8⟩ := goodT_true h1
        have hmem : ∀ p ∈ placesF t d, 0 ≤ p ∧ p + (d.size : Int) ≤ (t.size : Int) := fun p hp => placesF_mem hp
        have hlen := placesF_len t d ht100
        have hall := hwAll_len t l d r
        have hnl := hwNew_len l d.size r (placesF t d)
        have H4 := fun (v : Option Addr) cc W k => Lib.hid (implAreSpans_any t (hwAll t l d r) v cc ht (by omega) W k)
        rw [hq] at H4
        clear h1 h2 hok hq
        generalize hwAll t l d r = out at HS H4 e2 hall
        generalize placesF t d = S at H3 hmem hlen HS hall hnl
        have HS' : Hid (∀ x : List Span, x.Perm (l ++ hwNew l d.size r S) → x.Pairwise (fun a b => ¬ b.lo < a.lo) → x = out) := Lib.hid (fun x => HS (x := x))
        have HM := Lib.hid hmem
        clear HS hmem
        go_enter Tryd.func22, Tryd.ntmps22
        go_wp2_with fail
        refine (H1 _ HR.out).out.mono ?_
        rintro e w1 ⟨rfl, hb1⟩
        have B1 := Lib.hid hb1
        clear hb1
        go_wp2_with fail
        refine (H2 _).out.mono ?_
        rintro e w2 ⟨rfl, hb2⟩
        have B2 := Lib.hid (Below.transB B1.out (Nat.le_refl _) hb2)
        clear hb2
        go_wp2_with (go_at_call 27; refine (isReason_any _ _).mono ?_; rintro e w' ⟨rfl, rfl⟩; rw [h3])
        refine (cloneSpan_any l A c _ (HR.out.below B2.out) hA hl).mono ?_
        rintro e w3 ⟨v, rfl, ⟨A3, c3, rfl, ho3⟩, hb3⟩
        have hs2 := B2.out.size
        have B3 := Lib.hid (Below.transB B2.out (Nat.le_refl _) hb3)
        have O3 := Lib.hid (own_base ho3 hs2)
        clear hb3 ho3
        go_wp2_with fail
        refine (H3 _).out.mono ?_
        rintro e w4 ⟨v, rfl, ⟨A4, c4, rfl, ho4⟩, hb4⟩
        have hs3 := B3.out.size
        have NE4 := Lib.hid (own_ne' O3.out ho4 (Nat.le_refl _))
        have O4 := Lib.hid (own_below O3.out hb4)
        have B4 := Lib.hid (Below.transB B3.out (Nat.le_refl _) hb4)
        have P4 := Lib.hid (own_base ho4 hs3)
        clear hb4 ho4 O3 H1 H2 H3
        go_wp2_with fail
        go_loopw [10, 33] (fun v10 v33 wr => ∃ (k : Nat) (acc : List Span) (A' : Option Addr) (c' : Nat), k ≤ S.length ∧ acc.length ≤ l.length + k ∧ v33 = .int .i64 k ∧ v10 = .slice A' acc.length c' ∧ Below w.heap.size w wr ∧
          wr.ownsRow w.heap.size 45 3 (.slice A' acc.length c') acc.length (cellsSpan acc) ∧ wr.ownsRow w.heap.size 3 1 (.slice A4 S.length c4) S.length (cellsI S) ∧
          Hid ((Value.slice A4 S.length c4).ownBlock = none ∨ (Value.slice A4 S.length c4).ownBlock ≠ (Value.slice A' acc.length c').ownBlock) ∧
          Hid (l ++ hwNew l d.size r S = acc ++ hwNew l d.size r (S.drop k))) (fun _ v33 _ => S.length - (intOf v33).toNat)
        case atStart => exact ⟨0, l, _, _, Nat.zero_le _, Nat.le_refl _, rfl, rfl, B4.out, O4.out, P4.out, NE4, by show _ = _; rfl⟩
        case round =>
          clear B1 B2 B3 B4 O4 P4 NE4
          obtain ⟨k, acc, A', c', hk, hak, rfl, rfl, hb, hown, hpl, NE, K⟩ := hrel
          by_cases hlt : k < S.length
          · obtain ⟨gb, go, rfl, hgb, hcell⟩ := (Rd.of_own hpl).2 (by omega)
            have c0 := cellsI_at hcell hlt
            clear hcell
            have hp := HM.out _ (List.getElem_mem hlt)
            have hlt' : (k : Int) < (S.length : Int) := by omega
            have hs0 := hb.size
            have HB := Lib.hid hb
            have HO := Lib.hid hown
            have HP := Lib.hid hpl
            have HT := fun s : World => fun hh => Lib.hid (isTouched_any l S[k] (S[k] + (d.size : Int)) A c hl s hh)
            have K1 := K.out
            rw [List.drop_eq_getElem_cons hlt, hwNew] at K1
            have hwrap : IntKind.i64.wrap (S[k] + (d.size : Int)) = S[k] + (d.size : Int) := IntWalk.i64_in _ (by omega)
            clear K hb hown hpl
            by_cases q : tchB l S[k] (S[k] + (d.size : Int)) = true
            · rw [if_pos q] at K1
              have HK := Lib.hid K1
              rw [q] at HT
              clear K1 q
              go_wp2_with fail
              refine (HT _ (HR.out.below HB.out)).out.mono ?_
              rintro e w5 ⟨rfl, hb5⟩
              have B5 := Lib.hid (Below.transB HB.out (Nat.le_refl _) hb5)
              have O5 := Lib.hid (own_below HO.out hb5)
              have P5 := Lib.hid (own_below HP.out hb5)
              clear hb5 c0
              go_wp2_with fail
              go_roundw
              case rel => exact ⟨k + 1, acc, A', c', by omega, by omega, by go_num, rfl, B5.out, O5.out, P5.out, NE, HK⟩
              case measure => simp [intOf]; omega
            · rw [if_neg q] at K1
              have q' : tchB l S[k] (S[k] + (d.size : Int)) = false := by simpa using q
              have HK : Hid (l ++ hwNew l d.size r S = (acc ++ [⟨S[k], S[k] + d.size, r⟩]) ++ hwNew l d.size r (S.drop (k + 1))) := by show _ = _; rw [K1]; simp
              rw [q'] at HT
              clear K1 q q'
              go_wp2_with fail
              refine (HT _ (HR.out.below HB.out)).out.mono ?_
              rintro e w5 ⟨rfl, hb5⟩
              have B5 := Lib.hid (Below.transB HB.out (Nat.le_refl _) hb5)
              have O5 := Lib.hid (own_below HO.out hb5)
              have P5 := Lib.hid (own_below HP.out hb5)
              have hs5 := B5.out.size
              clear hb5 c0
              go_wp2_with (at_builtin; refine wpList_pushG rfl _ _ 24 rfl w.heap.size 45 i0 (.agg #[.int .i64 0, .int .i64 0, .int .i64 0]) 3 24 Tryd.underlying24 hi hz0 hz1 hz2 rfl (by decide) (by decide) _ _ _ _ rfl O5.out #[.int .i64 S[k], .int .i64 (S[k] + d.size), .int .i64 r] _ _ rfl (by simp) rfl (by simp [Value.oneCell']) (by omega) hs5 ?_; intro A6 c6 w6 hown6 hg6 hpl6)
              have hf : w6.ownsRow w.heap.size 45 3 (.slice A6 (acc ++ [(⟨S[k], S[k] + d.size, r⟩ : Span)]).length c6) (acc ++ [(⟨S[k], S[k] + d.size, r⟩ : Span)]).length (cellsSpan (acc ++ [(⟨S[k], S[k] + d.size, r⟩ : Span)])) := by
                rw [cellsSpan_append]; simpa [cellsSpan, cellSpan] using hown6
              have hP6 := P5.out.kept hg6 NE.out
              have hN6 : (Value.slice (some ⟨gb, go, none⟩) S.length c4).ownBlock = none ∨ (Value.slice (some ⟨gb, go, none⟩) S.length c4).ownBlock ≠ (Value.slice A6 (acc ++ [(⟨S[k], S[k] + d.size, r⟩ : Span)]).length c6).ownBlock := by
                have e6 : (Value.slice A6 (acc ++ [(⟨S[k], S[k] + d.size, r⟩ : Span)]).length c6).ownBlock = (Value.slice A6 (acc.length + 1) c6).ownBlock := by cases A6 <;> rfl
                rw [e6]
                rcases hpl6 with e | e
                · rw [e]; exact NE.out
                · rw [e]; refine .inr fun h => ?_
                  have h5 : gb < w5.heap.size := (P5.out.lt gb rfl).2
                  have h6 := Option.some.inj h
                  simp only [drew_size, World.size_alloc] at h6
                  omega
              have HN6 := Lib.hid hN6
              have HP6 := Lib.hid hP6
              have HB6 := Lib.hid (Below.row B5.out O5.out hg6 (Nat.le_refl _) hs5)
              clear hN6 hP6 hg6 hpl6 hown6
              go_roundw
              case rel => exact ⟨k + 1, acc ++ [⟨S[k], S[k] + d.size, r⟩], A6, c6, by omega, by simp; omega, by go_num, by simp, HB6.out, hf, HP6.out, HN6, HK⟩
              case measure => simp [intOf]; omega
          · have K2 : l ++ hwNew l d.size r S = acc := by rw [K.out, List.drop_of_length_le (by omega)]; simp [hwNew]
            have hacc : acc.length = out.length := by rw [← K2, List.length_append]; exact hall.symm
            have HB := Lib.hid hb
            have HO := Lib.hid hown
            have hs0 := hb.size
            have HK := Lib.hid K2
            have hge : ¬ ((k : Int) < (S.length : Int)) := by omega
            have hacc1 : acc.length ≤ 1048576 := by omega
            have HA := Lib.hid hacc
            clear K hb hown hpl NE K2 hacc hall hnl
            go_wp2_with fail
            refine (sortSpan_own w.heap.size acc A' c' _ HO.out hacc1).mono ?_
            rintro e w5 ⟨rfl, x, hperm, hsort, ho5, hg5⟩
            have hx : x = out := HS'.out x (by rw [HK.out]; exact hperm) (hsort.imp fun h => by omega)
            have B5 := Lib.hid (Below.row HB.out HO.out hg5 (Nat.le_refl _) hs0)
            have hacc := HA.out
            rw [hx, hacc] at ho5
            have O5 := Lib.hid ho5
            clear hperm hsort ho5 hg5 hx
            rw [hacc]
            clear hacc
            go_wp2_with fail
            refine (H4 _ c' _ (Rd.of_own O5.out)).out.mono ?_
            rintro e w6 ⟨rfl, hb6⟩
            have B6 := Lib.hid (Below.transB B5.out (Nat.le_refl _) hb6)
            have O6 := Lib.hid (own_below O5.out hb6)
            clear hb6
            cases q
            · go_wp2
              go_ret2
              exact ⟨_, by rw [e1.out]; rfl, by rw [e2.out]; exact SlSpan.nil _ _, B6.out⟩
            · go_wp2
              go_ret2
              exact ⟨_, by rw [e1.out]; rfl, by rw [e2.out]; exact ⟨_, c', rfl, O6.out⟩, B6.out⟩
      · have h3' : inB r 1 9 = false := by simpa using h3
        have e1 : Hid (hwOk t l d r = false) := by show _ = _; rw [hwOk, hwOk1, h3']; simp
        have e2 : Hid (hwOut t l d r = []) := if_neg (by rw [e1.out]; simp)
        clear h1 h2 h3
        go_enter Tryd.func22, Tryd.ntmps22
        go_wp2_with fail
        refine (H1 _ HR.out).out.mono ?_
        rintro e w1 ⟨rfl, hb1⟩
        have B1 := Lib.hid hb1
        clear hb1
        go_wp2_with fail
        refine (H2 _).out.mono ?_
        rintro e w2 ⟨rfl, hb2⟩
        have B2 := Lib.hid (Below.transB B1.out (Nat.le_refl _) hb2)
        clear hb2
        go_wp2_with (go_at_call 27; refine (isReason_any _ _).mono ?_; rintro e w' ⟨rfl, rfl⟩; rw [h3'])
        go_ret2
        exact ⟨_, by rw [e1.out]; rfl, by rw [e2.out]; exact SlSpan.nil _ _, B2.out⟩
    · have h2' : wordB d = false := by simpa using h2
      rw [h2'] at H2
      have e1 : Hid (hwOk t l d r = false) := by show _ = _; rw [hwOk, hwOk1, h2']; simp
      have e2 : Hid (hwOut t l d r = []) := if_neg (by rw [e1.out]; simp)
      clear h1 h2 h2'
      go_enter Tryd.func22, Tryd.ntmps22
      go_wp2_with fail
      refine (H1 _ HR.out).out.mono ?_
      rintro e w1 ⟨rfl, hb1⟩
      have B1 := Lib.hid hb1
      clear hb1
      go_wp2_with fail
      refine (H2 _).out.mono ?_
      rintro e w2 ⟨rfl, hb2⟩
      have B2 := Lib.hid (Below.transB B1.out (Nat.le_refl _) hb2)
      clear hb2
      go_wp2
      go_ret2
      exact ⟨_, by rw [e1.out]; rfl, by rw [e2.out]; exact SlSpan.nil _ _, B2.out⟩
  · have h1' : goodT t l = false := by simpa using h1
    rw [h1'] at H1
    have e1 : Hid (hwOk t l d r = false) := by show _ = _; rw [hwOk, hwOk1, h1']; rfl
    have e2 : Hid (hwOut t l d r = []) := if_neg (by rw [e1.out]; simp)
    clear h1 h1'
    go_enter Tryd.func22, Tryd.ntmps22
    go_wp2_with fail
    refine (H1 _ HR.out).out.mono ?_
    rintro e w1 ⟨rfl, hb1⟩
    have B1 := Lib.hid hb1
    clear hb1
    go_wp2
    go_ret2
    exact ⟨_, by rw [e1.out]; rfl, by rw [e2.out]; exact SlSpan.nil _ _, B1.out⟩

end Go.Proofs.YtllnnkiehckegaaDoor
