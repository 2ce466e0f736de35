/-
  What comes in as a list of records; the law SampleBySeries.
  Conditions: those written at each theorem.
-/
import Derived.Test.YtfkpjfohkkilmaaP12v
import Derived.Test.YtfkpjfohkkilmaaLay12c
namespace Go.Proofs.Ytfkpjfohkkilmaa
open Go.RowKit Go.BigFrame
set_option maxRecDepth 100000

/-- what came in as a list of records -/
def InRecS (W : World) (v : Value) : Prop := ∃ (A : Option Addr) (k : Nat) (L : List RQ), v = .slice A L.length k ∧ RdQ W A L ∧ L.length ≤ 9223372036854775807 ∧ ∀ x ∈ L, x.r.events.length ≤ 9223372036854775807

section
open Go.ChangeShapes Go.WideShapes Go.ChangeAt
variable {H : Type} {enc : TypeId × Value → H} {W : World} {r : Reach} {base : Nat} {v : Value} {d : DataW H} {p : List MemPlace}
theorem in_records (hv : Value.okWide Try.prog W r base 22 v) (h : DataW.Trod enc Try.prog W 0 (fun _ => true) true 22 v d p) : ∃ x, InRecS W x ∧ v = x := by
  obtain ⟨a, n, c, rfl⟩ := okWide_slice Try.underlying22 hv
  obtain ⟨fuel, hf⟩ := h
  obtain ⟨A, k, L, hL, hr, hq, hm⟩ := slice_of (c := cellRQ) (sz := 4) (Q := fun x : RQ => Rd W 2 x.A x.r.events.length (cellsEvent x.r.events) ∧ x.r.events.length ≤ 9223372036854775807) Try.underlying22 (by kernel_rfl) (by omega) (fun _ => rfl) (fun _ _ _ h => by
    obtain ⟨r, A, k, hcs, hr, hm, _⟩ := rec_of h
    exact ⟨⟨r, A, k⟩, hcs, hr, hm⟩) hf
  exact ⟨_, ⟨A, k, L, hL, ⟨hr, fun x hx => (hq x hx).1⟩, hm, fun x hx => (hq x hx).2⟩, rfl⟩
end

set_option maxHeartbeats 4000000 in
theorem walkSampleBySeries {w : World} (v0 : Value) (hv0 : InRecS w v0) (p : Int) (_ : I64 p) (sd : Int) (_ : I64 sd) :
    Calls Try.prog 3 #[v0, .int .i64 p, .int .i64 sd] w fun e w' => e = .returned (.bool true) ∧ Below w.heap.size w w' := by
  obtain ⟨A0, c0, L, rfl, hr0, hL0, hs0⟩ := hv0
  have HR0 := Lib.hid hr0
  have HZ := Lib.hid (szRecordS_any L A0 c0 w hr0 hL0 hs0)
  clear hr0
  go_enter Try.func3, Try.ntmps3
  go_wp2_with fail
  refine HZ.out.mono ?_
  rintro e w1 ⟨v, rfl, hb1, rfl | ⟨hv, hsum⟩⟩
  · have B1 := Lib.hid hb1
    clear hb1
    go_wp2
    go_ret
    exact ⟨rfl, B1.out⟩
  · have B1 := Lib.hid hb1
    have hvn : ¬ (v < 0) := by omega
    have hl : L.length ≤ 1048576 := by omega
    have hs : ∀ x ∈ L, x.r.events.length ≤ 9223372036854775807 := hs0
    have hout : (sbOut L p sd).length ≤ 1048576 := (by have := len_sbOut L p sd; omega)
    -- the reference and the program at any list with the same requests
    have HS : Hid (∀ (K : List RQ), K.map (·.r) = L.map (·.r) → ∀ (W : World) (g c : Nat), RdQ W (some ⟨g, 0, none⟩) K →
        Calls Try.prog 5 #[.slice (some ⟨g, 0, none⟩) K.length c, .int .i64 p, .int .i64 sd] W fun e w' => ∃ v, e = .returned (.tuple #[v, .bool (sbOk L p sd)]) ∧ SlI W.heap.size w' (sbOut L p sd) v ∧ Below W.heap.size W w') := Lib.hid (fun K hK W g c hr => by
      have hx := len_same hK
      have := specSample_any K p sd (some ⟨g, 0, none⟩) c (by omega) (fun x hx2 => by have := sumQ_mem hx2; omega) W hr
      rw [sbOk_same p sd hK, sbOut_same p sd hK] at this
      exact this)
    have HI : Hid (∀ (K : List RQ), K.map (·.r) = L.map (·.r) → ∀ (W : World) (g c : Nat), RdQ W (some ⟨g, 0, none⟩) K →
        Calls Try.prog 7 #[.slice (some ⟨g, 0, none⟩) K.length c, .int .i64 p, .int .i64 sd] W fun e w' => ∃ v, e = .returned (.tuple #[v, .bool (sbOk L p sd)]) ∧ SlI W.heap.size w' (sbOut L p sd) v ∧ Below W.heap.size W w') := Lib.hid (fun K hK W g c hr => by
      have hx := len_same hK
      have := implSample_any ownSort sortNil K p sd (some ⟨g, 0, none⟩) c (by omega) (fun x hx2 => by have := sumQ_mem hx2; omega) W hr
      rw [sbOk_same p sd hK, sbOut_same p sd hK] at this
      exact this)
    generalize sbOut L p sd = out at HS HI hout
    generalize sbOk L p sd = q at HS HI
    clear hb1 hs0 hs HZ
    clear hL0
    go_wp2_with fail
    refine (toRecordS_any L A0 c0 _ (HR0.out.below B1.out) hsum).mono ?_
    rintro e w2 ⟨K1, rfl, hK1, hQ1, hb⟩
    have B2 := Lib.hid (Below.transB B1.out (Nat.le_refl _) hb)
    have Q1 := Lib.hid hQ1.rd
    have M1 := Lib.hid hK1
    clear hb hQ1 hK1 B1
    go_wp2_with fail
    refine (HS.out K1 M1.out _ _ _ Q1.out).mono ?_
    rintro e w3 ⟨_, rfl, ⟨A_s, c_s, rfl, ho⟩, hb⟩
    have B3 := Lib.hid (Below.transB B2.out (Nat.le_refl _) hb)
    have OW3 := Lib.hid ho
    have LW : Hid (∀ p, (Value.slice A_s out.length c_s).ownBlock = some p → p < w3.heap.size) := Lib.hid (fun p hp => (ho.lt p hp).2)
    clear hb ho Q1 B2 M1 HS
    go_wp2_with fail
    refine (toRecordS_any L A0 c0 _ (HR0.out.below B3.out) hsum).mono ?_
    rintro e w4 ⟨K2, rfl, hK2, hQ2, hb⟩
    have B4 := Lib.hid (Below.transB B3.out (Nat.le_refl _) hb)
    have OW4 := Lib.hid (own_below OW3.out hb)
    have Q4 := Lib.hid hQ2
    have M2 := Lib.hid hK2
    have hs34 : w3.heap.size < w4.heap.size := (hQ2.1.lt w3.heap.size rfl).2
    have LX : Hid (∀ x ∈ K2, ∀ p, blkQ x = some p → p < w4.heap.size) := Lib.hid (fun x hx p hp => ((hQ2.2.1 x hx).2.lt p hp).2)
    have hsz : Hid (w.heap.size ≤ w3.heap.size) := Lib.hid B3.out.size
    clear hb hQ2 hK2 OW3 B3
    go_wp2_with fail
    refine (HI.out K2 M2.out _ _ _ Q4.out.rd).mono ?_
    rintro e w5 ⟨_, rfl, ⟨A_i, c_i, rfl, ho⟩, hb⟩
    have NE1 := Lib.hid (own_ne OW4.out ho (Nat.le_refl _))
    have B5 := Lib.hid (Below.transB B4.out (Nat.le_refl _) hb)
    have OW5 := Lib.hid (own_below OW4.out hb)
    have Q5 := Lib.hid (Q4.out.below hb)
    have OG5 := Lib.hid ho
    clear hb ho OW4 Q4 B4
    go_wp2_with fail
    refine (eqIntS_same out _ _ _ _ _ (Rd.of_own OG5.out) (Rd.of_own OW5.out) hout).mono ?_
    rintro e w6 ⟨rfl, hb⟩
    have B6 := Lib.hid (Below.transB B5.out (Nat.le_refl _) hb)
    have OW6 := Lib.hid (own_below OW5.out hb)
    have OG6 := Lib.hid (own_below OG5.out hb)
    have Q6 := Lib.hid (Q5.out.below hb)
    clear hb OW5 OG5 Q5 B5
    go_wp2_with fail
    refine (toRecordS_any L A0 c0 _ (HR0.out.below B6.out) hsum).mono ?_
    rintro e w7 ⟨K3, rfl, hK3, hQ3, hb⟩
    have B7 := Lib.hid (Below.transB B6.out (Nat.le_refl _) hb)
    have OW7 := Lib.hid (own_below OW6.out hb)
    have OG7 := Lib.hid (own_below OG6.out hb)
    have Q7 := Lib.hid (Q6.out.below hb)
    have M3 : Hid (K2.map (·.r) = K3.map (·.r)) := Lib.hid (M2.out.trans hK3.symm)
    have R7 := Lib.hid hQ3.rd
    have hx2 := len_same M2.out
    have hk2 : K2.length + sumQ K2 ≤ 1048576 := by omega
    clear hb hQ3 hK3 OW6 OG6 Q6 B6 hx2
    go_wp2_with fail
    refine (eqRecordS_same K2 K3 _ _ _ _ _ Q7.out.rd R7.out M3.out hk2).mono ?_
    rintro e w8 ⟨rfl, hb⟩
    have B8 := Lib.hid (Below.transB B7.out (Nat.le_refl _) hb)
    have OW8 := Lib.hid (own_below OW7.out hb)
    have OG8 := Lib.hid (own_below OG7.out hb)
    have Q8 := Lib.hid (Q7.out.below hb)
    clear hb OW7 OG7 Q7 B7 R7 M3
    go_wp2_with fail
    refine (markRecordS_any w3.heap.size w4.heap.size K2 w3.heap.size K2.length _ Q8.out hk2 ⟨Nat.le_refl _, hs34⟩ LX.out).mono ?_
    rintro e w9 ⟨v2, rfl, hv2, hf⟩
    have OW9 := Lib.hid (hf.own OW8.out (fun p hp => .inl (LW.out p hp)))
    have OG9 := Lib.hid (hf.own OG8.out (fun p hp => .inr (OG8.out.lt p hp).1))
    have B9 := Lib.hid (Frm.below B8.out hf hsz.out B8.out.size)
    have hvn2 : ¬ (v2 < 0) := by omega
    clear hf OW8 OG8 Q8 B8
    go_wp2_with fail
    refine (eqIntS_same out _ _ _ _ _ (Rd.of_own OG9.out) (Rd.of_own OW9.out) hout).mono ?_
    rintro e w10 ⟨rfl, hb⟩
    have B10 := Lib.hid (Below.transB B9.out (Nat.le_refl _) hb)
    have OW10 := Lib.hid (own_below OW9.out hb)
    have OG10 := Lib.hid (own_below OG9.out hb)
    clear hb OW9 OG9 B9
    go_wp2_with fail
    refine (markIntS_any _ out.length 1 _ _ _ _ OG10.out (by omega) (by omega)).mono ?_
    rintro e w11 ⟨rfl, ho, hg⟩
    have OW11 := Lib.hid (OW10.out.kept hg NE1.out)
    have B11 := Lib.hid (Below.row B10.out OG10.out hg (by have := hsz.out; omega) B10.out.size)
    have OG11 := Lib.hid ho
    clear hg ho OW10 OG10 B10
    go_wp2_with fail
    refine (heldIntS_any out.length 1 _ _ _ (Rd.of_own OG11.out) (by omega) (by omega)).mono ?_
    rintro e wb ⟨rfl, rfl⟩
    go_wp2_with fail
    refine (toRecordS_any L A0 c0 _ (HR0.out.below B11.out) hsum).mono ?_
    rintro e w12 ⟨K4, rfl, hK4, hQ4, hb⟩
    have B12 := Lib.hid (Below.transB B11.out (Nat.le_refl _) hb)
    have OW12 := Lib.hid (own_below OW11.out hb)
    have OG12 := Lib.hid (own_below OG11.out hb)
    have R12 := Lib.hid hQ4.rd
    have M4 := Lib.hid hK4
    clear hb hQ4 hK4 OW11 OG11 B11
    go_wp2_with fail
    refine (HI.out K4 M4.out _ _ _ R12.out).mono ?_
    rintro e w13 ⟨_, rfl, ⟨A_h, c_h, rfl, ho⟩, hb⟩
    have B13 := Lib.hid (Below.transB B12.out (Nat.le_refl _) hb)
    have OW13 := Lib.hid (own_below OW12.out hb)
    have OG13 := Lib.hid (own_below OG12.out hb)
    have OH13 := Lib.hid ho
    clear hb ho OW12 OG12 R12 M4 B12
    go_wp2_with fail
    refine (eqIntS_same out _ _ _ _ _ (Rd.of_own OH13.out) (Rd.of_own OW13.out) hout).mono ?_
    rintro e w14 ⟨rfl, hb⟩
    have B14 := Lib.hid (Below.transB B13.out (Nat.le_refl _) hb)
    have OG14 := Lib.hid (own_below OG13.out hb)
    clear hb OW13 OG13 OH13 B13
    go_wp2_with fail
    refine (heldIntS_any out.length 1 _ _ _ (Rd.of_own OG14.out) (by omega) (by omega)).mono ?_
    rintro e wf ⟨rfl, rfl⟩
    go_wp2
    go_ret
    exact ⟨rfl, B14.out⟩

end Go.Proofs.Ytfkpjfohkkilmaa
