/-
  The law PlacesOfWord. Written by mklaw.py.
  Conditions: those written at each theorem.
-/
import Derived.Test.YtllnnkiehckegaaDoorP15y
namespace Go.Proofs.YtllnnkiehckegaaDoor
open Go.RowKit Go.BigFrame
set_option maxRecDepth 100000

set_option maxHeartbeats 1000000 in
theorem walkPlacesOfWord {w : World} (t : ByteArray) (ht : t.size ≤ 9223372036854775807) (d : ByteArray) (hd : d.size ≤ 9223372036854775807) :
    Calls Tryd.prog 4 #[.string t, .string d] w fun e w' => e = .returned (.bool true) ∧ Below w.heap.size w w' := by
  by_cases hl_t : t.size ≤ 1048576
  · by_cases hl_d : d.size ≤ 1048576
    · have hout : (pwOut t d).length ≤ 1048576 := len_pw t d
      have HS := fun (W : World)  => Lib.hid (specPlacesOfWord_any t d hl_t hl_d W)
      have HI := fun (W : World)  => Lib.hid (implPlacesOfWord_any t d hl_t hl_d W)
      generalize pwOut t d = out at HS HI hout
      generalize pwOk t d = q at HS HI
      go_enter Tryd.func4, Tryd.ntmps4
      go_wp2_with fail
      have B0 := Lib.hid (Below.refl w.heap.size w)
      refine (HS _  ).out.mono ?_
      rintro e w1 ⟨_, rfl, ⟨A_s, c_s, rfl, ho⟩, hb⟩
      have SOW := B0.out.size
      have B1 := Lib.hid (Below.transB B0.out (Nat.le_refl _) hb)
      clear hb B0 
      have OW1 := Lib.hid ho
      clear ho
      go_wp2_with fail
      refine (HI _  ).out.mono ?_
      rintro e w2 ⟨_, rfl, ⟨A_i, c_i, rfl, ho⟩, hb⟩
      have n1 : (Value.slice A_s out.length c_s).ownBlock = none ∨ (Value.slice A_s out.length c_s).ownBlock ≠ (Value.slice A_i out.length c_i).ownBlock := own_ne OW1.out ho (Nat.le_refl _)
      have n2 : (Value.slice A_i out.length c_i).ownBlock = none ∨ (Value.slice A_i out.length c_i).ownBlock ≠ (Value.slice A_s out.length c_s).ownBlock := own_ne' OW1.out ho (Nat.le_refl _)
      have NE_OW_OG := Lib.hid n1
      have NE_OG_OW := Lib.hid n2
      clear n1 n2
      have SOG := B1.out.size
      have OW2 := Lib.hid (own_below OW1.out hb)
      have B2 := Lib.hid (Below.transB B1.out (Nat.le_refl _) hb)
      clear hb OW1 B1
      have OG2 := Lib.hid ho
      clear ho
      go_wp2_with fail
      refine (eqIntS_same out _ _ _ _ _ (Rd.of_own OG2.out) (Rd.of_own OW2.out) hout).mono ?_
      rintro e w3 ⟨rfl, hb⟩
      have OW3 := Lib.hid (own_below OW2.out hb)
      have OG3 := Lib.hid (own_below OG2.out hb)
      have B3 := Lib.hid (Below.transB B2.out (Nat.le_refl _) hb)
      clear hb OW2 OG2 B2
      go_wp2_with fail
      refine (markIntS_any _ out.length 1 _ _ _ _ OG3.out (by omega) (by omega)).mono ?_
      rintro e w4 ⟨rfl, ho, hg⟩
      have OW4 := Lib.hid (OW3.out.kept hg NE_OW_OG.out)
      have B4 := Lib.hid (Below.row B3.out OG3.out hg SOG B3.out.size)
      have OG4 := Lib.hid ho
      clear hg ho OW3 OG3 B3
      go_wp2_with fail
      refine (heldIntS_any out.length 1 _ _ _ (Rd.of_own OG4.out) (by omega) (by omega)).mono ?_
      rintro e wb ⟨rfl, rfl⟩
      go_wp2_with fail
      refine (HI _  ).out.mono ?_
      rintro e w5 ⟨_, rfl, ⟨A_h, c_h, rfl, ho⟩, hb⟩
      have n1 : (Value.slice A_s out.length c_s).ownBlock = none ∨ (Value.slice A_s out.length c_s).ownBlock ≠ (Value.slice A_h out.length c_h).ownBlock := own_ne OW4.out ho (Nat.le_refl _)
      have n2 : (Value.slice A_h out.length c_h).ownBlock = none ∨ (Value.slice A_h out.length c_h).ownBlock ≠ (Value.slice A_s out.length c_s).ownBlock := own_ne' OW4.out ho (Nat.le_refl _)
      have NE_OW_OH := Lib.hid n1
      have NE_OH_OW := Lib.hid n2
      clear n1 n2
      have n1 : (Value.slice A_i out.length c_i).ownBlock = none ∨ (Value.slice A_i out.length c_i).ownBlock ≠ (Value.slice A_h out.length c_h).ownBlock := own_ne OG4.out ho (Nat.le_refl _)
      have n2 : (Value.slice A_h out.length c_h).ownBlock = none ∨ (Value.slice A_h out.length c_h).ownBlock ≠ (Value.slice A_i out.length c_i).ownBlock := own_ne' OG4.out ho (Nat.le_refl _)
      have NE_OG_OH := Lib.hid n1
      have NE_OH_OG := Lib.hid n2
      clear n1 n2
      have SOH := B4.out.size
      have OW5 := Lib.hid (own_below OW4.out hb)
      have OG5 := Lib.hid (own_below OG4.out hb)
      have B5 := Lib.hid (Below.transB B4.out (Nat.le_refl _) hb)
      clear hb OW4 OG4 B4 
      have OH5 := Lib.hid ho
      clear ho
      go_wp2_with fail
      refine (eqIntS_same out _ _ _ _ _ (Rd.of_own OH5.out) (Rd.of_own OW5.out) hout).mono ?_
      rintro e w6 ⟨rfl, hb⟩
      have OW6 := Lib.hid (own_below OW5.out hb)
      have OG6 := Lib.hid (own_below OG5.out hb)
      have OH6 := Lib.hid (own_below OH5.out hb)
      have B6 := Lib.hid (Below.transB B5.out (Nat.le_refl _) hb)
      clear hb OW5 OG5 OH5 B5
      go_wp2_with fail
      refine (heldIntS_any out.length 1 _ _ _ (Rd.of_own OG6.out) (by omega) (by omega)).mono ?_
      rintro e wf ⟨rfl, rfl⟩
      go_wp2
      go_ret
      exact ⟨rfl, B6.out⟩
    · go_enter Tryd.func4, Tryd.ntmps4
      go_wp2
      go_ret
      exact ⟨rfl, by go_grown⟩
  · go_enter Tryd.func4, Tryd.ntmps4
    go_wp2
    go_ret
    exact ⟨rfl, by go_grown⟩

end Go.Proofs.YtllnnkiehckegaaDoor
