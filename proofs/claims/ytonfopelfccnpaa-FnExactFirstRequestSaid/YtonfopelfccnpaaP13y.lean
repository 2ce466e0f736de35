/-
  The law FirstRequest.
  Conditions: those written at each theorem.
-/
import Derived.Test.YtonfopelfccnpaaP13x
namespace Go.Proofs.Ytonfopelfccnpaa
open Go.RowKit Go.BigFrame
set_option maxRecDepth 100000

theorem daysQ_same : ∀ {K L : List RQ}, K.map (·.r) = L.map (·.r) → daysQ K = daysQ L
  | [], [], _ => rfl
  | [], y :: u, h => by simp at h
  | x :: t, [], h => by simp at h
  | x :: t, y :: u, h => by
    simp only [List.map_cons, List.cons.injEq] at h
    have := daysQ_same h.2
    unfold daysQ at *
    rw [List.map_cons, List.map_cons, h.1, this]
theorem idAt_same {K L : List RQ} (k : Nat) (h : K.map (·.r) = L.map (·.r)) : idAt K k = idAt L k := by
  have : ∀ M : List RQ, idAt M k = (((M.map (·.r))[k]?).map (·.id)).getD 0 := fun M => by simp [idAt]; congr 1
  rw [this, this, h]
theorem frOk_same {K L : List RQ} (h : K.map (·.r) = L.map (·.r)) : frOk K = frOk L := by rw [frOk, frOk, goodQ_same h, (len_same h).1]
theorem fi_same {K L : List RQ} (h : K.map (·.r) = L.map (·.r)) : fi K = fi L := by rw [fi, fi, daysQ_same h]
theorem frId_same {K L : List RQ} (h : K.map (·.r) = L.map (·.r)) : frId K = frId L := by rw [frId, frId, frOk_same h, fi_same h, idAt_same _ h]
theorem frDay_same {K L : List RQ} (h : K.map (·.r) = L.map (·.r)) : frDay K = frDay L := by rw [frDay, frDay, frOk_same h, fi_same h, daysQ_same h]

set_option maxHeartbeats 4000000 in
theorem walkFirstRequest {w : World} (v0 : Value) (hv0 : InReqS w v0) :
    Calls Try.prog 3 #[v0] w fun e w' => e = .returned (.bool true) ∧ Below w.heap.size w w' := by
  obtain ⟨A0, c0, L, rfl, hr0, hL0, hs0⟩ := hv0
  have HR0 := Lib.hid hr0
  have HZ := Lib.hid (szRequestS_any L A0 c0 w hr0 hL0 hs0)
  clear hr0
  go_enter Try.func3, Try.ntmps3
  go_wp2_with fail
  refine HZ.out.mono ?_
  rintro e w1 ⟨v, rfl, hb1, rfl | ⟨hv, hsum⟩⟩
  · have B1 := Lib.hid hb1
    clear hb1
    go_wp2
    go_ret
    exact ⟨rfl, B1.out⟩
  · have B1 := Lib.hid hb1
    have hvn : ¬ (v < 0) := by omega
    have hl : L.length ≤ 1048576 := by omega
    have hs : ∀ x ∈ L, x.r.stops.length ≤ 9223372036854775807 := hs0
    have HS : Hid (∀ (K : List RQ), K.map (·.r) = L.map (·.r) → ∀ (W : World) (g c : Nat), RdQ W (some ⟨g, 0, none⟩) K →
        Calls Try.prog 6 #[.slice (some ⟨g, 0, none⟩) K.length c] W fun e w' => e = .returned (.tuple #[.int .i64 (frId L), .int .i64 (frDay L), .bool (frOk L)]) ∧ Below W.heap.size W w') := Lib.hid (fun K hK W g c hr => by
      have hx := len_same hK
      have := specFirst_any K (some ⟨g, 0, none⟩) c (by omega) (fun x hx2 => by have := sumQ_mem hx2; omega) W hr
      rw [frId_same hK, frDay_same hK, frOk_same hK] at this
      exact this)
    have HI : Hid (∀ (K : List RQ), K.map (·.r) = L.map (·.r) → ∀ (W : World) (g c : Nat), RdQ W (some ⟨g, 0, none⟩) K →
        Calls Try.prog 8 #[.slice (some ⟨g, 0, none⟩) K.length c] W fun e w' => e = .returned (.tuple #[.int .i64 (frId L), .int .i64 (frDay L), .bool (frOk L)]) ∧ Below W.heap.size W w') := Lib.hid (fun K hK W g c hr => by
      have hx := len_same hK
      have := implFirst_any K (some ⟨g, 0, none⟩) c (by omega) (fun x hx2 => by have := sumQ_mem hx2; omega) W hr
      rw [frId_same hK, frDay_same hK, frOk_same hK] at this
      exact this)
    generalize frId L = q1 at HS HI
    generalize frDay L = q2 at HS HI
    generalize frOk L = q3 at HS HI
    clear hb1 hs0 hs HZ
    clear hL0
    go_wp2_with fail
    refine (toRequestS_any L A0 c0 _ (HR0.out.below B1.out) hsum).mono ?_
    rintro e w2 ⟨K1, rfl, hK1, hQ1, hb⟩
    have B2 := Lib.hid (Below.transB B1.out (Nat.le_refl _) hb)
    have Q1 := Lib.hid hQ1.rd
    have M1 := Lib.hid hK1
    clear hb hQ1 hK1 B1
    go_wp2_with fail
    refine (HS.out K1 M1.out _ _ _ Q1.out).mono ?_
    rintro e w3 ⟨rfl, hb⟩
    have B3 := Lib.hid (Below.transB B2.out (Nat.le_refl _) hb)
    clear hb Q1 B2 M1 HS
    go_wp2_with fail
    refine (toRequestS_any L A0 c0 _ (HR0.out.below B3.out) hsum).mono ?_
    rintro e w4 ⟨K2, rfl, hK2, hQ2, hb⟩
    have B4 := Lib.hid (Below.transB B3.out (Nat.le_refl _) hb)
    have Q4 := Lib.hid hQ2
    have M2 := Lib.hid hK2
    clear hb hQ2 hK2 B3
    go_wp2_with fail
    refine (HI.out K2 M2.out _ _ _ Q4.out.rd).mono ?_
    rintro e w5 ⟨rfl, hb⟩
    have B5 := Lib.hid (Below.transB B4.out (Nat.le_refl _) hb)
    have Q5 := Lib.hid (Q4.out.below hb)
    clear hb Q4 B4
    go_wp2_with fail
    refine (toRequestS_any L A0 c0 _ (HR0.out.below B5.out) hsum).mono ?_
    rintro e w7 ⟨K3, rfl, hK3, hQ3, hb⟩
    have B7 := Lib.hid (Below.transB B5.out (Nat.le_refl _) hb)
    have Q7 := Lib.hid (Q5.out.below hb)
    have M3 : Hid (K2.map (·.r) = K3.map (·.r)) := Lib.hid (M2.out.trans hK3.symm)
    have R7 := Lib.hid hQ3.rd
    have hx2 := len_same M2.out
    have hk2 : K2.length + sumQ K2 ≤ 1048576 := by omega
    clear hb hQ3 hK3 Q5 B5 hx2
    go_wp2_with fail
    refine (eqRequestS_same K2 K3 _ _ _ _ _ Q7.out.rd R7.out M3.out hk2).mono ?_
    rintro e w8 ⟨rfl, hb⟩
    have B8 := Lib.hid (Below.transB B7.out (Nat.le_refl _) hb)
    clear hb Q7 B7 R7 M3
    go_wp2
    go_ret
    exact ⟨rfl, B8.out⟩

end Go.Proofs.Ytonfopelfccnpaa
