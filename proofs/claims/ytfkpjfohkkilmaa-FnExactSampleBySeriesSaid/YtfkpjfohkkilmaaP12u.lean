/-
  SampleBySeries by the reference: the numbers of a series; the draws of all series.
  Conditions: those written at each theorem.
-/
import Derived.Test.YtfkpjfohkkilmaaH12
import Derived.Test.YtfkpjfohkkilmaaP12q0
namespace Go.Proofs.Ytfkpjfohkkilmaa
open Go.RowKit Go.BigFrame
set_option maxRecDepth 100000

theorem own_cap0 {w : World} {base : Nat} {e : TypeId} {sz n c : Nat} {A : Option Addr} {xs : List Value} (h : w.ownsRow base e sz (.slice A n c) n xs) : A = none → c = 0 := fun hA => by
  rcases h.2 with ⟨hv, _⟩ | ⟨g, cap, cur, hv, _⟩
  · cases hv; rfl
  · cases hv; cases hA

set_option maxHeartbeats 4000000 in
theorem inSeries_any (L : List RQ) (s : Int) (A : Option Addr) (c : Nat) (hl : L.length ≤ 1048576) (hs : ∀ x ∈ L, x.r.events.length ≤ 1048576) (hG : goodR L = true) (hS : inB s 1 99 = true) (w : World) (hr : RdQ w A L) :
    Calls Try.prog 17 #[.slice A L.length c, .int .i64 s] w fun e w' => ∃ v, e = .returned (.tuple #[v, .bool true]) ∧ SlI w.heap.size w' (inS s L) v ∧ Below w.heap.size w w' := by
  obtain ⟨i0, hi, hz0, hz1, hz2⟩ := info_parts infoI
  have HL := fun W k => Lib.hid (l2Records_any L A c W k hl hs)
  rw [hG] at HL
  have HR := Lib.hid hr
  have E0 := Lib.hid (own_empty (B := w.heap.size) w 3 1 (Nat.le_refl _))
  have B0 := Lib.hid (Below.alloc (Below.refl w.heap.size w) (Nat.le_refl _) (.cells #[] 3))
  have hl8 := (goodR_true hG).2
  clear hr hs hG
  go_enter Try.func17, Try.ntmps17
  go_wp2_with fail
  refine (HL _ (HR.out.below B0.out)).out.mono ?_
  rintro e w1 ⟨rfl, hb1⟩
  have B1 := Lib.hid (Below.transB B0.out (Nat.le_refl _) hb1)
  have O1 : Hid (w1.ownsRow w.heap.size 3 1 (.slice (some ⟨w.heap.size, 0, none⟩) 0 0) 0 []) := Lib.hid (own_below E0.out hb1)
  clear hb1
  go_wp2_with (go_at_call 15; refine (l1In_any _ _ _ _).mono ?_; rintro e w' ⟨rfl, rfl⟩; rw [hS])
  go_loopw [6, 7] (fun v6 v7 wr => ∃ (k : Nat) (acc : List Int) (A' : Option Addr) (c' : Nat), k ≤ L.length ∧ acc.length ≤ k ∧ v7 = .int .i64 k ∧ v6 = .slice A' acc.length c' ∧ Below w.heap.size w wr ∧
    wr.ownsRow w.heap.size 3 1 (.slice A' acc.length c') acc.length (cellsI acc) ∧ Hid (inS s (L.take k) = acc)) (fun _ v7 _ => L.length - (intOf v7).toNat)
  case atStart => exact ⟨0, [], _, _, Nat.zero_le _, Nat.le_refl _, rfl, rfl, B1.out, O1.out, by show _ = _; rfl⟩
  case round =>
    clear B1 O1 HL E0 B0
    obtain ⟨k, acc, A', c', hk, hak, rfl, rfl, hb, hown, M⟩ := hrel
    by_cases hlt : k < L.length
    · have hlt' : ((k : Int) < (L.length : Int)) := by omega
      obtain ⟨gb, go, rfl, hgb, hcell⟩ := (HR.out.below hb).1.2 (by omega)
      obtain ⟨h0, h1, h2, h3⟩ := cellsRQ_at hcell hlt
      have M1 := inS_take hlt s
      rw [M.out] at M1
      have hs2 := hb.size
      have HB := Lib.hid hb
      have HO := Lib.hid hown
      clear hcell M hb hown h2 h3
      by_cases q : L[k].r.series = s
      · rw [if_pos q] at M1
        have M2 := Lib.hid M1
        clear M1
        have hpb : (L[k].r.series == s) = true := by simpa using q
        go_wp2_with (at_builtin; refine wpList_pushG rfl _ _ 24 rfl w.heap.size 3 i0 (.int .i64 0) 1 8 Try.underlying24 hi hz0 hz1 hz2 rfl (by decide) (by decide) _ _ _ _ rfl HO.out #[.int .i64 L[k].r.id] _ _ rfl (by simp) rfl (by simp [Value.oneCell']) (by omega) hs2 ?_; intro A5 c5 w5 hown5 hg5 hpl5)
        have hf : w5.ownsRow w.heap.size 3 1 (.slice A5 (acc ++ [L[k].r.id]).length c5) (acc ++ [L[k].r.id]).length (cellsI (acc ++ [L[k].r.id])) := by
          rw [cellsI_append]; simpa [cellsI] using hown5
        go_roundw
        case rel => exact ⟨k + 1, acc ++ [L[k].r.id], A5, c5, by omega, by simp; omega, by go_num, by simp, Below.row HB.out HO.out hg5 (Nat.le_refl _) hs2, hf, M2⟩
        case measure => simp [intOf]; omega
      · rw [if_neg q] at M1
        have M2 := Lib.hid M1
        clear M1
        have hpb : (L[k].r.series == s) = false := by simpa using q
        go_wp2
        go_roundw
        case rel => exact ⟨k + 1, acc, A', c', by omega, by omega, by go_num, rfl, HB.out, HO.out, M2⟩
        case measure => simp [intOf]; omega
    · have hge : ¬ ((k : Int) < (L.length : Int)) := by omega
      have K2 : Hid (inS s L = acc) := by
        have := M.out
        rw [List.take_of_length_le (by omega)] at this
        exact Lib.hid this
      have HO := Lib.hid hown
      have HB := Lib.hid hb
      clear M hb hown
      go_wp2
      go_ret2
      exact ⟨_, rfl, by rw [K2.out]; exact ⟨A', c', rfl, HO.out⟩, HB.out⟩

set_option maxHeartbeats 4000000 in
theorem specSample_any (L : List RQ) (p sd : Int) (A : Option Addr) (c : Nat) (hl : L.length ≤ 1048576) (hs : ∀ x ∈ L, x.r.events.length ≤ 1048576) (w : World) (hr : RdQ w A L) :
    Calls Try.prog 5 #[.slice A L.length c, .int .i64 p, .int .i64 sd] w fun e w' => ∃ v, e = .returned (.tuple #[v, .bool (sbOk L p sd)]) ∧ SlI w.heap.size w' (sbOut L p sd) v ∧ Below w.heap.size w w' := by
  obtain ⟨i0, hi, hz0, hz1, hz2⟩ := info_parts infoI
  have HL := fun W k => Lib.hid (l2Records_any L A c W k hl hs)
  have HR := Lib.hid hr
  have HS := Lib.hid hs
  have E0 := Lib.hid (own_empty (B := w.heap.size) w 3 1 (Nat.le_refl _))
  have B0 := Lib.hid (Below.alloc (Below.refl w.heap.size w) (Nat.le_refl _) (.cells #[] 3))
  clear hr hs
  have HNO : Hid (sbOk L p sd = false → sbOut L p sd = []) := Lib.hid (fun h => if_neg (by rw [h]; simp))
  by_cases h1 : goodR L = true
  · by_cases h2 : inB p 0 100 = true
    · by_cases h3 : inB sd 0 99999 = true
      · have e1 : Hid (sbOk L p sd = true) := by show _ = _; rw [sbOk, h1, h2, h3]; rfl
        have e2 : Hid (sbOut L p sd = sortF (sbAll L p sd)) := if_pos e1.out
        have G1 := Lib.hid h1
        have hp := inB_true h2
        have hsd := inB_true h3
        have ND := Lib.hid (sbAll_nodup h1 p sd)
        have LN := Lib.hid (len_sbAll h1 hp.1 sd)
        rw [h1] at HL
        have HA : Hid (sbAll L p sd = serF p (fun s => inS s L) 99 1 sd) := rfl
        generalize sbAll L p sd = all at e2 ND LN HA
        clear h1 HNO
        go_enter Try.func5, Try.ntmps5
        go_wp2_with fail
        refine (HL _ (HR.out.below B0.out)).out.mono ?_
        rintro e w1 ⟨rfl, hb1⟩
        have B1 := Lib.hid (Below.transB B0.out (Nat.le_refl _) hb1)
        have O1 : Hid (w1.ownsRow w.heap.size 3 1 (.slice (some ⟨w.heap.size, 0, none⟩) 0 0) 0 []) := Lib.hid (own_below E0.out hb1)
        clear hb1
        go_wp2_with (first
          | (go_at_call 15; refine (l1In_any _ _ _ _).mono ?_; rintro e w' ⟨rfl, rfl⟩; rw [h2])
          | (go_at_call 16; refine (l12Seed_any _ _).mono ?_; rintro e w' ⟨rfl, rfl⟩; rw [h3]))
        go_loopw [2, 8, 9] (fun v2 v8 v9 wr => ∃ (k : Nat) (q : Int) (acc : List Int) (A' : Option Addr) (c' : Nat), 1 ≤ k ∧ k ≤ 100 ∧ acc.length ≤ 20 * k ∧ (0 ≤ q ∧ q ≤ 99999) ∧ v2 = .int .i64 q ∧ v9 = .int .i64 k ∧ v8 = .slice A' acc.length c' ∧ Below w.heap.size w wr ∧
          wr.ownsRow w.heap.size 3 1 (.slice A' acc.length c') acc.length (cellsI acc) ∧ Hid (all = acc ++ serF p (fun s => inS s L) (100 - k) k q)) (fun _ _ v9 _ => 100 - (intOf v9).toNat)
        case atStart => exact ⟨1, sd, [], _, _, Nat.le_refl _, by omega, by simp, hsd, rfl, rfl, rfl, B1.out, O1.out, HA⟩
        case round =>
          clear B1 O1 HL E0 B0 HA
          obtain ⟨k, q, acc, A', c', hk1, hk, hak, hq, rfl, rfl, rfl, hb, hown, M⟩ := hrel
          by_cases hlt : k ≤ 99
          · have hlt' : ((k : Int) ≤ 99) := by omega
            have M1 := M.out
            rw [serF_step p _ k q hlt] at M1
            have hin := len_inS20 G1.out (k : Int)
            have hdr := drawN_eq (l := inS k L) hp.1
            have hqn := takeF_bd (drawN (inS k L) p) (inS k L) q hq
            have hlt2 := len_takeF (drawN (inS k L) p) (inS k L) q
            have HB := Lib.hid hb
            have HO := Lib.hid hown
            have HIN := Lib.hid (inSeries_any L k A c hl HS.out G1.out (inB_of (by omega) (by omega)) _ (HR.out.below hb))
            generalize hids : inS k L = ids at HIN M1 hin hdr hqn hlt2
            have HSZ := fun W => Lib.hid (l12Size_any ids.length p 1 ⟨by omega, by omega⟩ hp ⟨by omega, by omega⟩ W)
            rw [hdr.1] at HSZ
            have HT := fun A3 c3 W h1 h2 => Lib.hid (l12Take_any ids (drawN ids p) q A3 c3 W h1 h2 hin hdr.2 hq)
            have hdr2 := hdr.2
            generalize drawN ids p = nd at HSZ HT M1 hqn hlt2 hdr2
            generalize takeF ids nd q = tf at HT M1 hqn hlt2
            obtain ⟨tl, tq⟩ := tf
            have M2 : Hid (all = (acc ++ tl) ++ serF p (fun s => inS s L) (100 - (k + 1)) ((k + 1 : Nat) : Int) tq) := by show _ = _; rw [M1, List.append_assoc]
            simp only at hqn hlt2 HT
            clear M M1 hb hown hids hdr
            go_wp2_with fail
            refine HIN.out.mono ?_
            rintro e w2 ⟨_, rfl, ⟨A3, c3, rfl, ho3⟩, hb2⟩
            have B2 := Lib.hid (Below.transB HB.out (Nat.le_refl _) hb2)
            have O2 := Lib.hid (own_below HO.out hb2)
            have I2 := Lib.hid ho3
            clear hb2 ho3 HIN HB HO
            go_wp2_with (first
              | (go_at_call 19; refine (HSZ _).out.mono ?_; rintro e w' ⟨rfl, rfl⟩)
              | fail)
            refine (HT A3 c3 _ (Rd.of_own I2.out) (own_cap0 I2.out)).out.mono ?_
            rintro e w3 ⟨_, rfl, ⟨A4, c4, rfl, ho4⟩, hb3⟩
            have B3 := Lib.hid (Below.transB B2.out (Nat.le_refl _) hb3)
            have O3 := Lib.hid (own_below O2.out hb3)
            have T3 := Lib.hid ho4
            have hs3 := B3.out.size
            clear hb3 ho4 B2 O2 I2
            go_wp2_with (at_builtin; refine wpList_appendMany _ rfl _ _ 24 rfl w.heap.size 3 i0 (.int .i64 0) 1 8 Try.underlying24 hi hz0 hz1 hz2 rfl (by decide) (by decide) A' acc.length c' (cellsI acc) rfl O3.out A4 tl.length c4 (cellsI tl) rfl (Rd.of_own T3.out) (own_cap0 T3.out) (one_cellsI tl) (by omega) hs3 ?_; intro A5 c5 w5 hown5 hg5)
            have hf : w5.ownsRow w.heap.size 3 1 (.slice A5 (acc ++ tl).length c5) (acc ++ tl).length (cellsI (acc ++ tl)) := by
              rw [cellsI_append]; simpa using hown5
            have HF := Lib.hid hf
            have B5 := Lib.hid (Below.row B3.out O3.out hg5 (Nat.le_refl _) hs3)
            clear hf hown5 hg5 T3
            go_roundw
            case rel => exact ⟨k + 1, tq, acc ++ tl, A5, c5, by omega, by omega, by simp; omega, hqn, rfl, by go_num, by simp, B5.out, HF.out, M2⟩
            case measure => simp [intOf]; omega
          · obtain rfl : k = 100 := by omega
            have K2 : Hid (all = acc) := by
              have := M.out
              simp only [Nat.sub_self, serF, List.append_nil] at this
              exact Lib.hid this
            have hs2 := hb.size
            have HSO := Lib.hid (l12Sorted_any acc A' c' (by have := LN.out; rw [K2.out] at this; omega) (by have := ND.out; rw [K2.out] at this; exact this) wr (Rd.of_own hown))
            have HO := Lib.hid hown
            have HB := Lib.hid hb
            clear M hb hown hlt
            go_wp2_with fail
            refine HSO.out.mono ?_
            rintro e w2 ⟨_, rfl, ⟨A6, c6, rfl, ho6⟩, hb2⟩
            have B2 := Lib.hid (Below.transB HB.out (Nat.le_refl _) hb2)
            have O6 := Lib.hid (own_base ho6 hs2)
            clear hb2 ho6
            go_wp2
            go_ret2
            exact ⟨_, by rw [e1.out]; rfl, by rw [e2.out, K2.out]; exact ⟨A6, c6, rfl, O6.out⟩, B2.out⟩
      · have h3' : inB sd 0 99999 = false := by simpa using h3
        have e1 : Hid (sbOk L p sd = false) := by show _ = _; rw [sbOk, h3']; simp
        rw [h1] at HL
        clear h1
        go_enter Try.func5, Try.ntmps5
        go_wp2_with fail
        refine (HL _ (HR.out.below B0.out)).out.mono ?_
        rintro e w1 ⟨rfl, hb1⟩
        have B1 := Lib.hid (Below.transB B0.out (Nat.le_refl _) hb1)
        have O1 : Hid (w1.ownsRow w.heap.size 3 1 (.slice (some ⟨w.heap.size, 0, none⟩) 0 0) 0 []) := Lib.hid (own_below E0.out hb1)
        clear hb1
        go_wp2_with (first
          | (go_at_call 15; refine (l1In_any _ _ _ _).mono ?_; rintro e w' ⟨rfl, rfl⟩; rw [h2])
          | (go_at_call 16; refine (l12Seed_any _ _).mono ?_; rintro e w' ⟨rfl, rfl⟩; rw [h3']))
        go_ret2
        exact ⟨_, by rw [e1.out]; rfl, by rw [HNO.out e1.out]; exact ⟨_, _, rfl, O1.out⟩, B1.out⟩
    · have h2' : inB p 0 100 = false := by simpa using h2
      have e1 : Hid (sbOk L p sd = false) := by show _ = _; rw [sbOk, h2']; simp
      rw [h1] at HL
      clear h1
      go_enter Try.func5, Try.ntmps5
      go_wp2_with fail
      refine (HL _ (HR.out.below B0.out)).out.mono ?_
      rintro e w1 ⟨rfl, hb1⟩
      have B1 := Lib.hid (Below.transB B0.out (Nat.le_refl _) hb1)
      have O1 : Hid (w1.ownsRow w.heap.size 3 1 (.slice (some ⟨w.heap.size, 0, none⟩) 0 0) 0 []) := Lib.hid (own_below E0.out hb1)
      clear hb1
      go_wp2_with (go_at_call 15; refine (l1In_any _ _ _ _).mono ?_; rintro e w' ⟨rfl, rfl⟩; rw [h2'])
      go_ret2
      exact ⟨_, by rw [e1.out]; rfl, by rw [HNO.out e1.out]; exact ⟨_, _, rfl, O1.out⟩, B1.out⟩
  · have h1' : goodR L = false := by simpa using h1
    rw [h1'] at HL
    have e1 : Hid (sbOk L p sd = false) := by show _ = _; rw [sbOk, h1']; rfl
    clear h1 h1'
    go_enter Try.func5, Try.ntmps5
    go_wp2_with fail
    refine (HL _ (HR.out.below B0.out)).out.mono ?_
    rintro e w1 ⟨rfl, hb1⟩
    have B1 := Lib.hid (Below.transB B0.out (Nat.le_refl _) hb1)
    have O1 : Hid (w1.ownsRow w.heap.size 3 1 (.slice (some ⟨w.heap.size, 0, none⟩) 0 0) 0 []) := Lib.hid (own_below E0.out hb1)
    clear hb1
    go_wp2
    go_ret2
    exact ⟨_, by rw [e1.out]; rfl, by rw [HNO.out e1.out]; exact ⟨_, _, rfl, O1.out⟩, B1.out⟩

end Go.Proofs.Ytfkpjfohkkilmaa
