/-
  Chapter 16: what comes out of an entry and a path, by the reference and by the program.
  Conditions: those written at each theorem; the program's way asks the library's table.
-/
import Derived.Test.YtnlhjbplpnkjbaaDoorP16i
import Derived.Test.YtnlhjbplpnkjbaaDoorP16d
namespace Go.Proofs.YtnlhjbplpnkjbaaDoor
open Go.RowKit Go.BigFrame
set_option maxRecDepth 100000

def rootF : Int → List (Int × Int) → Int
  | h, [] => h
  | h, p :: r => rootF (if p.1 = 0 then pairF p.2 h else pairF h p.2) r
theorem leafF_bd (s : ByteArray) : 0 ≤ leafF s ∧ leafF s ≤ 999999 := by
  have := sumF_bd (108 :: bytesOf s) 7 (by omega)
  unfold leafF; omega

set_option maxHeartbeats 800000 in
theorem l16From_any (s : ByteArray) (l : List (Int × Int)) (A : Option Addr) (c : Nat) (hs : s.size ≤ 1048576) (hp : pathB l = true) (w : World) (hr : Rd w 2 A l.length (cells2 l)) :
    Calls Tryd.prog 67 #[.string s, .slice A l.length c] w fun e w' => e = .returned (.int .i64 (rootF (leafF s) l)) ∧ Below w.heap.size w w' := by
  have HR := Lib.hid hr
  obtain ⟨hst, hl8⟩ := pathB_true hp
  have HS := Lib.hid hst
  have hlf := leafF_bd s
  have HL := fun W => Lib.hid (l16Leaf_any s hs W)
  have HG : Hid (rootF (leafF s) l = rootF (leafF s) l) := rfl
  clear hst hr hp
  generalize leafF s = h0 at HL hlf HG ⊢
  go_enter Tryd.func67, Tryd.ntmps67
  go_wp2_with (go_at_call 48; refine (HL _).out.mono ?_; rintro e w' ⟨rfl, rfl⟩)
  go_loopw [5, 6] (fun v5 v6 wr => ∃ (k : Nat) (h : Int), k ≤ l.length ∧ v6 = .int .i64 k ∧ v5 = .int .i64 h ∧ (0 ≤ h ∧ h ≤ 999999) ∧ Below w.heap.size w wr ∧ Hid (rootF h0 l = rootF h (l.drop k))) (fun _ v6 _ => l.length - (intOf v6).toNat)
  case atStart => exact ⟨0, h0, Nat.zero_le _, rfl, rfl, hlf, Below.refl _ _, by show _ = _; rfl⟩
  case round =>
    clear hlf HL HG
    obtain ⟨k, h, hk, rfl, rfl, hh, hb, K⟩ := hrel
    by_cases hlt : k < l.length
    · obtain ⟨gb, go, rfl, hgb, hcell⟩ := (HR.out.below hb).2 (by omega)
      obtain ⟨c0, c1⟩ := cells2_at hcell hlt
      clear hcell
      have hlt' : ((k : Int) < (l.length : Int)) := by omega
      have h01 := HS.out k hlt
      have K1 := K.out
      rw [List.drop_eq_getElem_cons hlt, rootF] at K1
      have HB := Lib.hid hb
      clear K hb
      by_cases hz : l[k].1 = 0
      · rw [if_pos hz] at K1
        have HP := fun W => Lib.hid (l16Pair_any l[k].2 h h01.2 hh W)
        have hbd := pairF_bd l[k].2 h
        have hz2 : (l[k].1 == 0) = true := by simpa using hz
        have HK := Lib.hid K1
        generalize pairF l[k].2 h = h' at HP hbd HK
        clear K1 hz
        go_wp2_with fail
        refine (HP _).out.mono ?_
        rintro e w2 ⟨rfl, hb2⟩
        have HB2 := Lib.hid (Below.transB HB.out (Nat.le_refl _) hb2)
        clear hb2
        go_wp2
        go_roundw
        case rel => exact ⟨k + 1, h', by omega, by go_num, rfl, hbd, HB2.out, HK⟩
        case measure => simp [intOf]; omega
      · rw [if_neg hz] at K1
        have HP := fun W => Lib.hid (l16Pair_any h l[k].2 hh h01.2 W)
        have hbd := pairF_bd h l[k].2
        have hz2 : (l[k].1 == 0) = false := by simpa using hz
        have HK := Lib.hid K1
        generalize pairF h l[k].2 = h' at HP hbd HK
        clear K1 hz
        go_wp2_with fail
        refine (HP _).out.mono ?_
        rintro e w2 ⟨rfl, hb2⟩
        have HB2 := Lib.hid (Below.transB HB.out (Nat.le_refl _) hb2)
        clear hb2
        go_wp2
        go_roundw
        case rel => exact ⟨k + 1, h', by omega, by go_num, rfl, hbd, HB2.out, HK⟩
        case measure => simp [intOf]; omega
    · have K2 : Hid (rootF h0 l = h) := by
        show _ = _; rw [K.out, List.drop_of_length_le (by omega), rootF]
      clear K
      go_wp2
      go_ret
      exact ⟨by rw [K2.out]; rfl, hb⟩

def rfB (s : ByteArray) (l : List (Int × Int)) : Bool := entryB s && pathB l
def rfAns (s : ByteArray) (l : List (Int × Int)) : Value := if rfB s l = true then .tuple #[.int .i64 (rootF (leafF s) l), .bool true] else .tuple #[.int .i64 0, .bool false]
theorem rfAns_form (s : ByteArray) (l : List (Int × Int)) : ∃ (x : Int) (y : Bool), rfAns s l = .tuple #[.int .i64 x, .bool y] := by
  unfold rfAns; split <;> exact ⟨_, _, rfl⟩
def icAns (s : ByteArray) (l : List (Int × Int)) (r : Int) : Value := if rfB s l = true then .tuple #[.bool (rootF (leafF s) l == r), .bool true] else .tuple #[.bool false, .bool false]
theorem icAns_form (s : ByteArray) (l : List (Int × Int)) (r : Int) : ∃ (x : Bool) (y : Bool), icAns s l r = .tuple #[.bool x, .bool y] := by
  unfold icAns; split <;> exact ⟨_, _, rfl⟩

theorem specRootFrom_any (s : ByteArray) (l : List (Int × Int)) (A : Option Addr) (c : Nat) (hs : s.size ≤ 1048576) (hl : l.length ≤ 1048576) (w : World) (hr : Rd w 2 A l.length (cells2 l)) :
    Calls Tryd.prog 31 #[.string s, .slice A l.length c] w fun e w' => e = .returned (rfAns s l) ∧ Below w.heap.size w w' := by
  have HE := fun W => Lib.hid (l16Entry_any s (by omega) W)
  have HP := Lib.hid (l16Path_any l A c hl w hr)
  by_cases h1 : entryB s = true
  · rw [h1] at HE
    by_cases h2 : pathB l = true
    · have e1 : Hid (rfAns s l = .tuple #[.int .i64 (rootF (leafF s) l), .bool true]) := if_pos (by unfold rfB; rw [h1, h2]; rfl)
      have HF := Lib.hid (l16From_any s l A c hs h2 w hr)
      rw [h2] at HP
      clear hr
      go_enter Tryd.func31, Tryd.ntmps31
      go_wp2_with (first
        | (go_at_call 47; refine (HE _).out.mono ?_; rintro e w' ⟨rfl, rfl⟩)
        | (go_at_call 66; refine HP.out.mono ?_; rintro e w' ⟨rfl, rfl⟩)
        | (go_at_call 67; refine HF.out.mono ?_; rintro e w2 ⟨rfl, hb2⟩))
      go_ret2
      exact ⟨by rw [e1.out]; rfl, hb2⟩
    · have e1 : Hid (rfAns s l = .tuple #[.int .i64 0, .bool false]) := if_neg (by unfold rfB; simp [h2])
      rw [show pathB l = false by simpa using h2] at HP
      clear hr
      go_enter Tryd.func31, Tryd.ntmps31
      go_wp2_with (first
        | (go_at_call 47; refine (HE _).out.mono ?_; rintro e w' ⟨rfl, rfl⟩)
        | (go_at_call 66; refine HP.out.mono ?_; rintro e w' ⟨rfl, rfl⟩))
      go_ret2
      exact ⟨by rw [e1.out]; rfl, Below.refl _ _⟩
  · have e1 : Hid (rfAns s l = .tuple #[.int .i64 0, .bool false]) := if_neg (by unfold rfB; simp [h1])
    rw [show entryB s = false by simpa using h1] at HE
    clear hr HP
    go_enter Tryd.func31, Tryd.ntmps31
    go_wp2_with (go_at_call 47; refine (HE _).out.mono ?_; rintro e w' ⟨rfl, rfl⟩)
    go_ret2
    exact ⟨by rw [e1.out]; rfl, Below.refl _ _⟩

theorem specIsCertified_any (s : ByteArray) (l : List (Int × Int)) (r : Int) (A : Option Addr) (c : Nat) (hs : s.size ≤ 1048576) (hl : l.length ≤ 1048576) (w : World) (hr : Rd w 2 A l.length (cells2 l)) :
    Calls Tryd.prog 35 #[.string s, .slice A l.length c, .int .i64 r] w fun e w' => e = .returned (icAns s l r) ∧ Below w.heap.size w w' := by
  have HE := fun W => Lib.hid (l16Entry_any s (by omega) W)
  have HP := Lib.hid (l16Path_any l A c hl w hr)
  by_cases h1 : entryB s = true
  · rw [h1] at HE
    by_cases h2 : pathB l = true
    · have e1 : Hid (icAns s l r = .tuple #[.bool (rootF (leafF s) l == r), .bool true]) := if_pos (by unfold rfB; rw [h1, h2]; rfl)
      have HF := Lib.hid (l16From_any s l A c hs h2 w hr)
      rw [h2] at HP
      clear hr
      go_enter Tryd.func35, Tryd.ntmps35
      go_wp2_with (first
        | (go_at_call 47; refine (HE _).out.mono ?_; rintro e w' ⟨rfl, rfl⟩)
        | (go_at_call 66; refine HP.out.mono ?_; rintro e w' ⟨rfl, rfl⟩)
        | (go_at_call 67; refine HF.out.mono ?_; rintro e w2 ⟨rfl, hb2⟩))
      go_ret2
      exact ⟨by rw [e1.out]; rfl, hb2⟩
    · have e1 : Hid (icAns s l r = .tuple #[.bool false, .bool false]) := if_neg (by unfold rfB; simp [h2])
      rw [show pathB l = false by simpa using h2] at HP
      clear hr
      go_enter Tryd.func35, Tryd.ntmps35
      go_wp2_with (first
        | (go_at_call 47; refine (HE _).out.mono ?_; rintro e w' ⟨rfl, rfl⟩)
        | (go_at_call 66; refine HP.out.mono ?_; rintro e w' ⟨rfl, rfl⟩))
      go_ret2
      exact ⟨by rw [e1.out]; rfl, Below.refl _ _⟩
  · have e1 : Hid (icAns s l r = .tuple #[.bool false, .bool false]) := if_neg (by unfold rfB; simp [h1])
    rw [show entryB s = false by simpa using h1] at HE
    clear hr HP
    go_enter Tryd.func35, Tryd.ntmps35
    go_wp2_with (go_at_call 47; refine (HE _).out.mono ?_; rintro e w' ⟨rfl, rfl⟩)
    go_ret2
    exact ⟨by rw [e1.out]; rfl, Below.refl _ _⟩

set_option maxHeartbeats 1600000 in
theorem implRootFrom_any (s : ByteArray) (l : List (Int × Int)) (A : Option Addr) (c : Nat) (hs : s.size ≤ 1048576) (hl : l.length ≤ 1048576) (w : World) (hr : Rd w 2 A l.length (cells2 l)) (hT : TabP w) :
    Calls Tryd.prog 33 #[.string s, .slice A l.length c] w fun e w' => e = .returned (rfAns s l) ∧ Below w.heap.size w w' := by
  have HE := Lib.hid (isEntry_any s (by omega) w)
  have HP := fun W k => Lib.hid (isPath_any l A c hl W k)
  have HR := Lib.hid hr
  have HT := Lib.hid hT
  clear hr hT
  by_cases h1 : entryB s = true
  · have h40 := (entryB_true h1).2
    by_cases h2 : pathB l = true
    · have e1 : Hid (rfAns s l = .tuple #[.int .i64 (rootF (leafF s) l), .bool true]) := if_pos (by unfold rfB; rw [h1, h2]; rfl)
      obtain ⟨hst, hl8⟩ := pathB_true h2
      have HS := Lib.hid hst
      have hlf := leafF_bd s
      have HL := fun W => Lib.hid (entryHash_any s h40 W)
      rw [h1] at HE
      rw [h2] at HP
      clear hst h1 h2
      generalize leafF s = h0 at HL hlf e1
      go_enter Tryd.func33, Tryd.ntmps33
      go_wp2_with fail
      refine HE.out.mono ?_
      rintro e w1 ⟨rfl, hb1⟩
      have B1 := Lib.hid hb1
      clear hb1
      go_wp2_with fail
      refine (HP _ (HR.out.below B1.out)).out.mono ?_
      rintro e w2 ⟨rfl, hb2⟩
      have B2 := Lib.hid (Below.transB B1.out (Nat.le_refl _) hb2)
      clear hb2
      go_wp2_with (go_at_call 50; refine (HL _).out.mono ?_; rintro e w' ⟨rfl, rfl⟩)
      go_loopw [6, 21] (fun v6 v21 wr => ∃ (k : Nat) (h : Int), k ≤ l.length ∧ v21 = .int .i64 k ∧ v6 = .int .i64 h ∧ (0 ≤ h ∧ h ≤ 999999) ∧ Below w.heap.size w wr ∧ Hid (rootF h0 l = rootF h (l.drop k))) (fun _ v21 _ => l.length - (intOf v21).toNat)
      case atStart => exact ⟨0, h0, Nat.zero_le _, rfl, rfl, hlf, B2.out, by show _ = _; rfl⟩
      case round =>
        clear hlf HL HE HP
        obtain ⟨k, h, hk, rfl, rfl, hh, hb, K⟩ := hrel
        by_cases hlt : k < l.length
        · obtain ⟨gb, go, rfl, hgb, hcell⟩ := (HR.out.below hb).2 (by omega)
          obtain ⟨c0, c1⟩ := cells2_at hcell hlt
          clear hcell
          have hlt' : ((k : Int) < (l.length : Int)) := by omega
          have h01 := HS.out k hlt
          have K1 := K.out
          rw [List.drop_eq_getElem_cons hlt, rootF] at K1
          have HB := Lib.hid (Below.alloc hb hb.size (.cells #[.int .i64 l[k].1, .int .i64 l[k].2] 73))
          clear K hb
          by_cases hz : l[k].1 = 0
          · rw [if_pos hz] at K1
            have HP := fun W t => Lib.hid (pairHash_any l[k].2 h h01.2 hh W t)
            have hbd := pairF_bd l[k].2 h
            have hz2 : (l[k].1 == 0) = true := by simpa using hz
            have HK := Lib.hid K1
            generalize pairF l[k].2 h = h' at HP hbd HK
            clear K1 hz
            go_wp2_with fail
            refine (HP _ (HT.out.below HB.out)).out.mono ?_
            rintro e w3 ⟨rfl, hb3⟩
            have HB2 := Lib.hid (Below.transB HB.out (Nat.le_refl _) hb3)
            clear hb3
            go_wp2
            go_roundw
            case rel => exact ⟨k + 1, h', by omega, by go_num, rfl, hbd, HB2.out, HK⟩
            case measure => simp [intOf]; omega
          · rw [if_neg hz] at K1
            have HP := fun W t => Lib.hid (pairHash_any h l[k].2 hh h01.2 W t)
            have hbd := pairF_bd h l[k].2
            have hz2 : (l[k].1 == 0) = false := by simpa using hz
            have HK := Lib.hid K1
            generalize pairF h l[k].2 = h' at HP hbd HK
            clear K1 hz
            go_wp2_with fail
            refine (HP _ (HT.out.below HB.out)).out.mono ?_
            rintro e w3 ⟨rfl, hb3⟩
            have HB2 := Lib.hid (Below.transB HB.out (Nat.le_refl _) hb3)
            clear hb3
            go_wp2
            go_roundw
            case rel => exact ⟨k + 1, h', by omega, by go_num, rfl, hbd, HB2.out, HK⟩
            case measure => simp [intOf]; omega
        · have K2 : Hid (rootF h0 l = h) := by
            show _ = _; rw [K.out, List.drop_of_length_le (by omega), rootF]
          clear K
          go_wp2
          go_ret2
          exact ⟨by rw [e1.out, K2.out]; rfl, hb⟩
    · have e1 : Hid (rfAns s l = .tuple #[.int .i64 0, .bool false]) := if_neg (by unfold rfB; simp [h2])
      rw [show pathB l = false by simpa using h2] at HP
      rw [h1] at HE
      go_enter Tryd.func33, Tryd.ntmps33
      go_wp2_with fail
      refine HE.out.mono ?_
      rintro e w1 ⟨rfl, hb1⟩
      have B1 := Lib.hid hb1
      clear hb1
      go_wp2_with fail
      refine (HP _ (HR.out.below B1.out)).out.mono ?_
      rintro e w2 ⟨rfl, hb2⟩
      have B2 := Lib.hid (Below.transB B1.out (Nat.le_refl _) hb2)
      clear hb2
      go_wp2
      go_ret2
      exact ⟨by rw [e1.out]; rfl, B2.out⟩
  · have e1 : Hid (rfAns s l = .tuple #[.int .i64 0, .bool false]) := if_neg (by unfold rfB; simp [h1])
    rw [show entryB s = false by simpa using h1] at HE
    go_enter Tryd.func33, Tryd.ntmps33
    go_wp2_with fail
    refine HE.out.mono ?_
    rintro e w1 ⟨rfl, hb1⟩
    go_wp2
    go_ret2
    exact ⟨by rw [e1.out]; rfl, hb1⟩

theorem implIsCertified_any (s : ByteArray) (l : List (Int × Int)) (r : Int) (A : Option Addr) (c : Nat) (hs : s.size ≤ 1048576) (hl : l.length ≤ 1048576) (w : World) (hr : Rd w 2 A l.length (cells2 l)) (hT : TabP w) :
    Calls Tryd.prog 36 #[.string s, .slice A l.length c, .int .i64 r] w fun e w' => e = .returned (icAns s l r) ∧ Below w.heap.size w w' := by
  have HF := Lib.hid (implRootFrom_any s l A c hs hl w hr hT)
  clear hr hT
  by_cases h1 : rfB s l = true
  · have e1 : Hid (icAns s l r = .tuple #[.bool (rootF (leafF s) l == r), .bool true]) := if_pos h1
    rw [show rfAns s l = .tuple #[.int .i64 (rootF (leafF s) l), .bool true] from if_pos h1] at HF
    go_enter Tryd.func36, Tryd.ntmps36
    go_wp2_with (go_at_call 33; refine HF.out.mono ?_; rintro e w2 ⟨rfl, hb2⟩)
    go_ret2
    exact ⟨by rw [e1.out]; rfl, hb2⟩
  · have e1 : Hid (icAns s l r = .tuple #[.bool false, .bool false]) := if_neg h1
    rw [show rfAns s l = .tuple #[.int .i64 0, .bool false] from if_neg h1] at HF
    go_enter Tryd.func36, Tryd.ntmps36
    go_wp2_with (go_at_call 33; refine HF.out.mono ?_; rintro e w2 ⟨rfl, hb2⟩)
    go_ret2
    exact ⟨by rw [e1.out]; rfl, hb2⟩

end Go.Proofs.YtnlhjbplpnkjbaaDoor
