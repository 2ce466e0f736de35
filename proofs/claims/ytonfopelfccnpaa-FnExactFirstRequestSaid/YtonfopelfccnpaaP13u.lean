/-
  What comes in as a list of requests; the law OverdueOn.
  Conditions: those written at each theorem.
-/
import Derived.Test.YtonfopelfccnpaaP13t
namespace Go.Proofs.Ytonfopelfccnpaa
open Go.RowKit Go.BigFrame
set_option maxRecDepth 100000

/-- what came in as a list of requests -/
def InReqS (W : World) (v : Value) : Prop := ∃ (A : Option Addr) (k : Nat) (L : List RQ), v = .slice A L.length k ∧ RdQ W A L ∧ L.length ≤ 9223372036854775807 ∧ ∀ x ∈ L, x.r.stops.length ≤ 9223372036854775807

theorem OwnQ.of_frame {base : Nat} {w w' : World} {g c : Nat} {K : List RQ} (h : OwnQ base w g c K) (hb : Below w.heap.size w w') : RdQ w' (some ⟨g, 0, none⟩) K := (h.below hb).rd

theorem len_same {K L : List RQ} (h : K.map (·.r) = L.map (·.r)) : K.length = L.length ∧ sumQ K = sumQ L := by
  refine ⟨by simpa using congrArg List.length h, ?_⟩
  induction K generalizing L with
  | nil => cases L with
    | nil => rfl
    | cons y t => simp at h
  | cons x t ih => cases L with
    | nil => simp at h
    | cons y u =>
      simp only [List.map_cons, List.cons.injEq] at h
      rw [sumQ, sumQ, h.1, ih h.2]
theorem listB_same : ∀ {K L : List RQ} {last : Int}, K.map (·.r) = L.map (·.r) → listB last K = listB last L
  | [], [], _, _ => rfl
  | [], y :: u, _, h => by simp at h
  | x :: t, [], _, h => by simp at h
  | x :: t, y :: u, last, h => by
    simp only [List.map_cons, List.cons.injEq] at h
    rw [listB, listB, h.1, listB_same h.2]
theorem odF_same (day : Int) : ∀ {K L : List RQ}, K.map (·.r) = L.map (·.r) → odF day K = odF day L
  | [], [], _ => rfl
  | [], y :: u, h => by simp at h
  | x :: t, [], h => by simp at h
  | x :: t, y :: u, h => by
    simp only [List.map_cons, List.cons.injEq] at h
    rw [odF, odF, h.1, odF_same day h.2]
theorem goodQ_same {K L : List RQ} (h : K.map (·.r) = L.map (·.r)) : goodQ K = goodQ L := by rw [goodQ, goodQ, listB_same h, (len_same h).1]
theorem odOk_same {K L : List RQ} (day : Int) (h : K.map (·.r) = L.map (·.r)) : odOk K day = odOk L day := by rw [odOk, odOk, goodQ_same h]
theorem odOut_same {K L : List RQ} (day : Int) (h : K.map (·.r) = L.map (·.r)) : odOut K day = odOut L day := by rw [odOut, odOut, odOk_same day h, odF_same day h]

section
open Go.ChangeShapes Go.WideShapes Go.ChangeAt
variable {H : Type} {enc : TypeId × Value → H} {W : World} {r : Reach} {base : Nat} {v : Value} {d : DataW H} {p : List MemPlace}
theorem in_requests (hv : Value.okWide Try.prog W r base 22 v) (h : DataW.Trod enc Try.prog W 0 (fun _ => true) true 22 v d p) : ∃ x, InReqS W x ∧ v = x := by
  obtain ⟨a, n, c, rfl⟩ := okWide_slice Try.underlying22 hv
  obtain ⟨fuel, hf⟩ := h
  obtain ⟨A, k, L, hL, hr, hq, hm⟩ := slice_of (c := cellRQ) (sz := 5) (Q := fun x : RQ => Rd W 2 x.A x.r.stops.length (cells2 x.r.stops) ∧ x.r.stops.length ≤ 9223372036854775807) Try.underlying22 (by kernel_rfl) (by omega) (fun _ => rfl) (fun _ _ _ h => by
    obtain ⟨a0, a1, a2, a3, S, A, k, hcs, hr, hm, _⟩ := req_of h
    exact ⟨⟨⟨a0, a1, a2, a3, S⟩, A, k⟩, hcs, hr, hm⟩) hf
  exact ⟨_, ⟨A, k, L, hL, ⟨hr, fun x hx => (hq x hx).1⟩, hm, fun x hx => (hq x hx).2⟩, rfl⟩
end

set_option maxHeartbeats 4000000 in
theorem walkOverdueOn {w : World} (v0 : Value) (hv0 : InReqS w v0) (day : Int) (_ : I64 day) :
    Calls Try.prog 4 #[v0, .int .i64 day] w fun e w' => e = .returned (.bool true) ∧ Below w.heap.size w w' := by
  obtain ⟨A0, c0, L, rfl, hr0, hL0, hs0⟩ := hv0
  have HR0 := Lib.hid hr0
  have HZ := Lib.hid (szRequestS_any L A0 c0 w hr0 hL0 hs0)
  clear hr0
  go_enter Try.func4, Try.ntmps4
  go_wp2_with fail
  refine HZ.out.mono ?_
  rintro e w1 ⟨v, rfl, hb1, rfl | ⟨hv, hsum⟩⟩
  · have B1 := Lib.hid hb1
    clear hb1
    go_wp2
    go_ret
    exact ⟨rfl, B1.out⟩
  · have B1 := Lib.hid hb1
    have hvn : ¬ (v < 0) := by omega
    have hl : L.length ≤ 1048576 := by omega
    have hs : ∀ x ∈ L, x.r.stops.length ≤ 9223372036854775807 := hs0
    have hout : (odOut L day).length ≤ 1048576 := len_od L day hl
    -- the reference and the program at any list with the same requests
    have HS : Hid (∀ (K : List RQ), K.map (·.r) = L.map (·.r) → ∀ (W : World) (g c : Nat), RdQ W (some ⟨g, 0, none⟩) K →
        Calls Try.prog 10 #[.slice (some ⟨g, 0, none⟩) K.length c, .int .i64 day] W fun e w' => ∃ v, e = .returned (.tuple #[v, .bool (odOk L day)]) ∧ SlI W.heap.size w' (odOut L day) v ∧ Below W.heap.size W w') := Lib.hid (fun K hK W g c hr => by
      have hx := len_same hK
      have := specOverdueOn_any K day (some ⟨g, 0, none⟩) c (by omega) (fun x hx2 => by have := sumQ_mem hx2; omega) W hr
      rw [odOk_same day hK, odOut_same day hK] at this
      exact this)
    have HI : Hid (∀ (K : List RQ), K.map (·.r) = L.map (·.r) → ∀ (W : World) (g c : Nat), RdQ W (some ⟨g, 0, none⟩) K →
        Calls Try.prog 11 #[.slice (some ⟨g, 0, none⟩) K.length c, .int .i64 day] W fun e w' => ∃ v, e = .returned (.tuple #[v, .bool (odOk L day)]) ∧ SlI W.heap.size w' (odOut L day) v ∧ Below W.heap.size W w') := Lib.hid (fun K hK W g c hr => by
      have hx := len_same hK
      have := implOverdueOn_any K day (some ⟨g, 0, none⟩) c (by omega) (fun x hx2 => by have := sumQ_mem hx2; omega) W hr
      rw [odOk_same day hK, odOut_same day hK] at this
      exact this)
    generalize odOut L day = out at HS HI hout
    generalize odOk L day = q at HS HI
    clear hb1 hs0 hs HZ
    clear hL0
    go_wp2_with fail
    refine (toRequestS_any L A0 c0 _ (HR0.out.below B1.out) hsum).mono ?_
    rintro e w2 ⟨K1, rfl, hK1, hQ1, hb⟩
    have B2 := Lib.hid (Below.transB B1.out (Nat.le_refl _) hb)
    have Q1 := Lib.hid hQ1.rd
    have M1 := Lib.hid hK1
    clear hb hQ1 hK1 B1
    go_wp2_with fail
    refine (HS.out K1 M1.out _ _ _ Q1.out).mono ?_
    rintro e w3 ⟨_, rfl, ⟨A_s, c_s, rfl, ho⟩, hb⟩
    have B3 := Lib.hid (Below.transB B2.out (Nat.le_refl _) hb)
    have OW3 := Lib.hid ho
    have LW : Hid (∀ p, (Value.slice A_s out.length c_s).ownBlock = some p → p < w3.heap.size) := Lib.hid (fun p hp => (ho.lt p hp).2)
    clear hb ho Q1 B2 M1 HS
    go_wp2_with fail
    refine (toRequestS_any L A0 c0 _ (HR0.out.below B3.out) hsum).mono ?_
    rintro e w4 ⟨K2, rfl, hK2, hQ2, hb⟩
    have B4 := Lib.hid (Below.transB B3.out (Nat.le_refl _) hb)
    have OW4 := Lib.hid (own_below OW3.out hb)
    have Q4 := Lib.hid hQ2
    have M2 := Lib.hid hK2
    have hs34 : w3.heap.size < w4.heap.size := (hQ2.1.lt w3.heap.size rfl).2
    have LX : Hid (∀ x ∈ K2, ∀ p, blkQ x = some p → p < w4.heap.size) := Lib.hid (fun x hx p hp => ((hQ2.2.1 x hx).2.lt p hp).2)
    have hsz : Hid (w.heap.size ≤ w3.heap.size) := Lib.hid B3.out.size
    clear hb hQ2 hK2 OW3 B3
    go_wp2_with fail
    refine (HI.out K2 M2.out _ _ _ Q4.out.rd).mono ?_
    rintro e w5 ⟨_, rfl, ⟨A_i, c_i, rfl, ho⟩, hb⟩
    have NE1 := Lib.hid (own_ne OW4.out ho (Nat.le_refl _))
    have B5 := Lib.hid (Below.transB B4.out (Nat.le_refl _) hb)
    have OW5 := Lib.hid (own_below OW4.out hb)
    have Q5 := Lib.hid (Q4.out.below hb)
    have OG5 := Lib.hid ho
    clear hb ho OW4 Q4 B4
    go_wp2_with fail
    refine (eqIntS_same out _ _ _ _ _ (Rd.of_own OG5.out) (Rd.of_own OW5.out) hout).mono ?_
    rintro e w6 ⟨rfl, hb⟩
    have B6 := Lib.hid (Below.transB B5.out (Nat.le_refl _) hb)
    have OW6 := Lib.hid (own_below OW5.out hb)
    have OG6 := Lib.hid (own_below OG5.out hb)
    have Q6 := Lib.hid (Q5.out.below hb)
    clear hb OW5 OG5 Q5 B5
    go_wp2_with fail
    refine (toRequestS_any L A0 c0 _ (HR0.out.below B6.out) hsum).mono ?_
    rintro e w7 ⟨K3, rfl, hK3, hQ3, hb⟩
    have B7 := Lib.hid (Below.transB B6.out (Nat.le_refl _) hb)
    have OW7 := Lib.hid (own_below OW6.out hb)
    have OG7 := Lib.hid (own_below OG6.out hb)
    have Q7 := Lib.hid (Q6.out.below hb)
    have M3 : Hid (K2.map (·.r) = K3.map (·.r)) := Lib.hid (M2.out.trans hK3.symm)
    have R7 := Lib.hid hQ3.rd
    have hx2 := len_same M2.out
    have hk2 : K2.length + sumQ K2 ≤ 1048576 := by omega
    clear hb hQ3 hK3 OW6 OG6 Q6 B6 hx2
    go_wp2_with fail
    refine (eqRequestS_same K2 K3 _ _ _ _ _ Q7.out.rd R7.out M3.out hk2).mono ?_
    rintro e w8 ⟨rfl, hb⟩
    have B8 := Lib.hid (Below.transB B7.out (Nat.le_refl _) hb)
    have OW8 := Lib.hid (own_below OW7.out hb)
    have OG8 := Lib.hid (own_below OG7.out hb)
    have Q8 := Lib.hid (Q7.out.below hb)
    clear hb OW7 OG7 Q7 B7 R7 M3
    go_wp2_with fail
    refine (markRequestS_any w3.heap.size w4.heap.size K2 w3.heap.size K2.length _ Q8.out hk2 ⟨Nat.le_refl _, hs34⟩ LX.out).mono ?_
    rintro e w9 ⟨v2, rfl, hv2, hf⟩
    have OW9 := Lib.hid (hf.own OW8.out (fun p hp => .inl (LW.out p hp)))
    have OG9 := Lib.hid (hf.own OG8.out (fun p hp => .inr (OG8.out.lt p hp).1))
    have B9 := Lib.hid (Frm.below B8.out hf hsz.out B8.out.size)
    have hvn2 : ¬ (v2 < 0) := by omega
    clear hf OW8 OG8 Q8 B8
    go_wp2_with fail
    refine (eqIntS_same out _ _ _ _ _ (Rd.of_own OG9.out) (Rd.of_own OW9.out) hout).mono ?_
    rintro e w10 ⟨rfl, hb⟩
    have B10 := Lib.hid (Below.transB B9.out (Nat.le_refl _) hb)
    have OW10 := Lib.hid (own_below OW9.out hb)
    have OG10 := Lib.hid (own_below OG9.out hb)
    clear hb OW9 OG9 B9
    go_wp2_with fail
    refine (markIntS_any _ out.length 1 _ _ _ _ OG10.out (by omega) (by omega)).mono ?_
    rintro e w11 ⟨rfl, ho, hg⟩
    have OW11 := Lib.hid (OW10.out.kept hg NE1.out)
    have B11 := Lib.hid (Below.row B10.out OG10.out hg (by have := hsz.out; omega) B10.out.size)
    have OG11 := Lib.hid ho
    clear hg ho OW10 OG10 B10
    go_wp2_with fail
    refine (heldIntS_any out.length 1 _ _ _ (Rd.of_own OG11.out) (by omega) (by omega)).mono ?_
    rintro e wb ⟨rfl, rfl⟩
    go_wp2_with fail
    refine (toRequestS_any L A0 c0 _ (HR0.out.below B11.out) hsum).mono ?_
    rintro e w12 ⟨K4, rfl, hK4, hQ4, hb⟩
    have B12 := Lib.hid (Below.transB B11.out (Nat.le_refl _) hb)
    have OW12 := Lib.hid (own_below OW11.out hb)
    have OG12 := Lib.hid (own_below OG11.out hb)
    have R12 := Lib.hid hQ4.rd
    have M4 := Lib.hid hK4
    clear hb hQ4 hK4 OW11 OG11 B11
    go_wp2_with fail
    refine (HI.out K4 M4.out _ _ _ R12.out).mono ?_
    rintro e w13 ⟨_, rfl, ⟨A_h, c_h, rfl, ho⟩, hb⟩
    have B13 := Lib.hid (Below.transB B12.out (Nat.le_refl _) hb)
    have OW13 := Lib.hid (own_below OW12.out hb)
    have OG13 := Lib.hid (own_below OG12.out hb)
    have OH13 := Lib.hid ho
    clear hb ho OW12 OG12 R12 M4 B12
    go_wp2_with fail
    refine (eqIntS_same out _ _ _ _ _ (Rd.of_own OH13.out) (Rd.of_own OW13.out) hout).mono ?_
    rintro e w14 ⟨rfl, hb⟩
    have B14 := Lib.hid (Below.transB B13.out (Nat.le_refl _) hb)
    have OG14 := Lib.hid (own_below OG13.out hb)
    clear hb OW13 OG13 OH13 B13
    go_wp2_with fail
    refine (heldIntS_any out.length 1 _ _ _ (Rd.of_own OG14.out) (by omega) (by omega)).mono ?_
    rintro e wf ⟨rfl, rfl⟩
    go_wp2
    go_ret
    exact ⟨rfl, B14.out⟩

end Go.Proofs.Ytonfopelfccnpaa
