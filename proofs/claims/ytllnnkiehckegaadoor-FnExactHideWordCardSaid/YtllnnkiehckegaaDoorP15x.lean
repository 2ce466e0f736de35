/-
  The places of a word by the reference, and PlacesOfWord by the program and by the reference. Written by mk15x.py.
  Conditions: those written at each theorem.
-/
import Derived.Test.YtllnnkiehckegaaDoorP15w
namespace Go.Proofs.YtllnnkiehckegaaDoor
open Go.RowKit Go.BigFrame W15
set_option maxRecDepth 100000

/-- a letter stands ahead of the k-th place -/
def prevB (l : List UInt8) : Nat → Bool
  | 0 => false
  | k + 1 => ((l[k]?).map letU).getD false
theorem byte_at (t : ByteArray) (k : Nat) (h : k < t.size) : (bytesOf t)[k]? = some t[k] := by
  have := byte_drop t k h
  have e : ((bytesOf t).drop k)[0]? = (bytesOf t)[k]? := by simp
  rw [← e, this]; rfl
theorem ext_eq (t wd : ByteArray) (k : Nat) : ((t.extract k (k + wd.size)).toList == wd.toList) = true ↔ ((bytesOf t).drop k).take (bytesOf wd).length = bytesOf wd := by
  rw [beq_iff_eq, ByteArray.toList_eq, ByteArray.toList_eq, len_bytesOf]
  show bytesOf _ = bytesOf _ ↔ _
  rw [bytes_extract, show k + wd.size - k = wd.size by omega]
theorem scan_short (wd : List UInt8) : ∀ (l : List UInt8) (p : Bool) (k : Nat), l.length < wd.length → scanF wd p k l = []
  | [], _, _, _ => rfl
  | c :: r, p, k, h => by
    rw [scanF, if_neg (fun h2 => by have := congrArg List.length h2.1; simp at this h; omega), scan_short wd r _ _ (by simp at h; omega)]
    rfl
/-- the places that the reference finds -/
def scanI (t wd : ByteArray) : List Int := (scanF (bytesOf wd) false 0 (bytesOf t)).map fun k : Nat => (k : Int)
theorem scan_at (t wd : ByteArray) (k : Nat) (hk : k < t.size) :
    ((scanF (bytesOf wd) (prevB (bytesOf t) k) k ((bytesOf t).drop k)).map fun k : Nat => (k : Int)) =
      (if ((bytesOf t).drop k).take (bytesOf wd).length = bytesOf wd ∧ prevB (bytesOf t) k = false ∧ (((bytesOf t)[k + wd.size]?).map letU).getD false = false then [(k : Int)] else []) ++
        (scanF (bytesOf wd) (prevB (bytesOf t) (k + 1)) (k + 1) ((bytesOf t).drop (k + 1))).map fun k : Nat => (k : Int) := by
  have e : (bytesOf t)[k + wd.size]? = ((bytesOf t).drop k)[(bytesOf wd).length]? := by rw [len_bytesOf]; simp
  have ep : prevB (bytesOf t) (k + 1) = letU t[k] := by simp [prevB, byte_at t k hk]
  rw [e, ep, byte_drop t k hk, scanF]
  rw [List.map_append]
  split <;> rfl

set_option maxHeartbeats 4000000 in
theorem l15Places_any (t wd : ByteArray) (ht : t.size ≤ 1048576) (hw1 : 1 ≤ wd.size) (hw2 : wd.size ≤ 10) (w : World) :
    Calls Tryd.prog 34 #[.string t, .string wd] w fun e w' => ∃ v, e = .returned v ∧ SlI w.heap.size w' (scanI t wd) v ∧ Below w.heap.size w w' := by
  obtain ⟨i0, hi, hz0, hz1, hz2⟩ := info_parts infoI
  have E0 := Lib.hid (own_empty (B := w.heap.size) w 3 1 (Nat.le_refl _))
  have B0 := Lib.hid (Below.alloc (Below.refl w.heap.size w) (Nat.le_refl _) (.cells #[] 3))
  have HL : ∀ c W, Hid (Calls Tryd.prog 48 #[.int .u8 (c.toNat : Int)] W fun e w' => e = .returned (.bool (ltC c)) ∧ W = w') := fun c W => l15Letter_any c W
  go_enter Tryd.func34, Tryd.ntmps34
  go_wp2_with fail
  go_loopw [5, 7] (fun v5 v7 wr => ∃ (k : Nat) (acc : List Int) (A' : Option Addr) (c' : Nat), k ≤ t.size ∧ acc.length ≤ k ∧ v7 = .int .i64 k ∧ v5 = .slice A' acc.length c' ∧ wr.ownsRow w.heap.size 3 1 (.slice A' acc.length c') acc.length (cellsI acc) ∧ Below w.heap.size w wr ∧
    Hid (scanI t wd = acc ++ (scanF (bytesOf wd) (prevB (bytesOf t) k) k ((bytesOf t).drop k)).map fun k : Nat => (k : Int))) (fun _ v7 _ => t.size + 1 - (intOf v7).toNat)
  case atStart => exact ⟨0, [], _, _, Nat.zero_le _, Nat.zero_le _, rfl, rfl, E0.out, B0.out, by show _ = _; rfl⟩
  case round =>
    clear E0 B0
    obtain ⟨k, acc, A', c', hk, hak, rfl, rfl, hown, hb, K⟩ := hrel
    by_cases hlt : k + wd.size ≤ t.size
    · have hks : k < t.size := by omega
      have e0 : IntKind.i64.wrap ((k : Int) + (wd.size : Int)) = (k : Int) + (wd.size : Int) := IntWalk.i64_in _ (by omega)
      have e1 : (k : Int) + (wd.size : Int) ≤ (t.size : Int) := by omega
      have e2 : (0 : Int) ≤ (k : Int) + (wd.size : Int) := by omega
      have e3 : (k : Int) ≤ (k : Int) + (wd.size : Int) := by omega
      have e4 : ((k : Int) + (wd.size : Int)).toNat = k + wd.size := by omega
      have HS := Lib.hid (K.out.trans (congrArg (acc ++ ·) (scan_at t wd k hks)))
      have hsz := hb.size
      have HO := Lib.hid hown
      have HB := Lib.hid hb
      clear K hown hb
      by_cases hm : ((bytesOf t).drop k).take (bytesOf wd).length = bytesOf wd
      · have b1 : ((t.extract k (k + wd.size)).toList == wd.toList) = true := (ext_eq t wd k).2 hm
        by_cases hk0 : k = 0
        · have g1 : decide ((0 : Int) < (k : Int)) = false := by simp; omega
          have g2 : decide (0 < k) = false := by simp; omega
          have hpv : prevB (bytesOf t) k = false := by rw [hk0]; rfl
          clear hk0
          by_cases h3 : k + wd.size < t.size
          · have h3' : (k : Int) + (wd.size : Int) < (t.size : Int) := by omega
            have hnx : (((bytesOf t)[k + wd.size]?).map letU).getD false = ltC t[k + wd.size] := by rw [byte_at t _ h3]; simp [ltC_let]
            by_cases q3 : ltC t[k + wd.size] = true
            · have K2 : Hid (scanI t wd = acc ++ (scanF (bytesOf wd) (prevB (bytesOf t) (k + 1)) (k + 1) ((bytesOf t).drop (k + 1))).map fun k : Nat => (k : Int)) := Lib.hid (HS.out.trans (by rw [if_neg (fun h => by rw [hnx, q3] at h; exact absurd h.2.2 (by simp))]; (try simp)))
              clear HS
              go_wp2_with (go_at_call 48; refine (HL _ _).out.mono ?_; rintro e w' ⟨rfl, rfl⟩; first | rw [q3])
              go_roundw
              case rel => exact ⟨k + 1, acc, A', c', by omega, by omega, by go_num, rfl, HO.out, HB.out, K2⟩
              case measure => simp [intOf]; omega
            · have q3' : ltC t[k + wd.size] = false := by simpa using q3
              have K2 : Hid (scanI t wd = (acc ++ [(k : Int)]) ++ (scanF (bytesOf wd) (prevB (bytesOf t) (k + 1)) (k + 1) ((bytesOf t).drop (k + 1))).map fun k : Nat => (k : Int)) := Lib.hid (HS.out.trans (by rw [if_pos ⟨hm, hpv, by rw [hnx, q3']⟩]; (try simp)))
              clear HS
              go_wp2_with (first
                | (go_at_call 48; refine (HL _ _).out.mono ?_; rintro e w' ⟨rfl, rfl⟩; first | rw [q3'])
                | (at_builtin; refine wpList_pushG rfl _ _ 31 rfl w.heap.size 3 i0 (.int .i64 0) 1 8 Tryd.underlying31 hi hz0 hz1 hz2 rfl (by decide) (by decide) _ _ _ _ rfl HO.out #[.int .i64 k] _ _ rfl (by simp) rfl (by simp [Value.oneCell']) (by omega) hsz ?_; intro A5 c5 w5 hown5 hg5 hpl5))
              go_roundw
              case rel => exact ⟨k + 1, acc ++ [(k : Int)], A5, c5, by omega, by simp; omega, by go_num, by simp, by simpa [cellsI] using hown5, Below.row HB.out HO.out hg5 (Nat.le_refl _) hsz, K2⟩
              case measure => simp [intOf]; omega
          · have h3' : ¬ (k : Int) + (wd.size : Int) < (t.size : Int) := by omega
            have hnx : (((bytesOf t)[k + wd.size]?).map letU).getD false = false := by rw [List.getElem?_eq_none (by rw [len_bytesOf]; omega)]; rfl
            have K2 : Hid (scanI t wd = (acc ++ [(k : Int)]) ++ (scanF (bytesOf wd) (prevB (bytesOf t) (k + 1)) (k + 1) ((bytesOf t).drop (k + 1))).map fun k : Nat => (k : Int)) := Lib.hid (HS.out.trans (by rw [if_pos ⟨hm, hpv, hnx⟩]; (try simp)))
            clear HS
            go_wp2_with (first
              | fail
              | (at_builtin; refine wpList_pushG rfl _ _ 31 rfl w.heap.size 3 i0 (.int .i64 0) 1 8 Tryd.underlying31 hi hz0 hz1 hz2 rfl (by decide) (by decide) _ _ _ _ rfl HO.out #[.int .i64 k] _ _ rfl (by simp) rfl (by simp [Value.oneCell']) (by omega) hsz ?_; intro A5 c5 w5 hown5 hg5 hpl5))
            go_roundw
            case rel => exact ⟨k + 1, acc ++ [(k : Int)], A5, c5, by omega, by simp; omega, by go_num, by simp, by simpa [cellsI] using hown5, Below.row HB.out HO.out hg5 (Nat.le_refl _) hsz, K2⟩
            case measure => simp [intOf]; omega
        · have g1 : (0 : Int) < (k : Int) := by omega
          have g3 : (0 : Int) ≤ (k : Int) - 1 := by omega
          have g4 : (k : Int) - 1 < (t.size : Int) := by omega
          have g5 : ((k : Int) - 1).toNat = k - 1 := by omega
          have hpv : prevB (bytesOf t) k = ltC t[k - 1] := by
            obtain ⟨j, rfl⟩ : ∃ j, k = j + 1 := ⟨k - 1, by omega⟩
            simp [prevB, byte_at t j (by omega), ltC_let]
          by_cases q2 : ltC t[k - 1] = true
          · have K2 : Hid (scanI t wd = acc ++ (scanF (bytesOf wd) (prevB (bytesOf t) (k + 1)) (k + 1) ((bytesOf t).drop (k + 1))).map fun k : Nat => (k : Int)) := Lib.hid (HS.out.trans (by rw [if_neg (fun h => by rw [hpv, q2] at h; exact absurd h.2.1 (by simp))]; (try simp)))
            clear HS
            go_wp2_with (go_at_call 48; refine (HL _ _).out.mono ?_; rintro e w' ⟨rfl, rfl⟩; first | rw [q2])
            go_roundw
            case rel => exact ⟨k + 1, acc, A', c', by omega, by omega, by go_num, rfl, HO.out, HB.out, K2⟩
            case measure => simp [intOf]; omega
          · have q2' : ltC t[k - 1] = false := by simpa using q2
            by_cases h3 : k + wd.size < t.size
            · have h3' : (k : Int) + (wd.size : Int) < (t.size : Int) := by omega
              have hnx : (((bytesOf t)[k + wd.size]?).map letU).getD false = ltC t[k + wd.size] := by rw [byte_at t _ h3]; simp [ltC_let]
              by_cases q3 : ltC t[k + wd.size] = true
              · have K2 : Hid (scanI t wd = acc ++ (scanF (bytesOf wd) (prevB (bytesOf t) (k + 1)) (k + 1) ((bytesOf t).drop (k + 1))).map fun k : Nat => (k : Int)) := Lib.hid (HS.out.trans (by rw [if_neg (fun h => by rw [hnx, q3] at h; exact absurd h.2.2 (by simp))]; (try simp)))
                clear HS
                go_wp2_with (go_at_call 48; refine (HL _ _).out.mono ?_; rintro e w' ⟨rfl, rfl⟩; first | rw [q2'] | rw [q3])
                go_roundw
                case rel => exact ⟨k + 1, acc, A', c', by omega, by omega, by go_num, rfl, HO.out, HB.out, K2⟩
                case measure => simp [intOf]; omega
              · have q3' : ltC t[k + wd.size] = false := by simpa using q3
                have K2 : Hid (scanI t wd = (acc ++ [(k : Int)]) ++ (scanF (bytesOf wd) (prevB (bytesOf t) (k + 1)) (k + 1) ((bytesOf t).drop (k + 1))).map fun k : Nat => (k : Int)) := Lib.hid (HS.out.trans (by rw [if_pos ⟨hm, (hpv.trans q2'), by rw [hnx, q3']⟩]; (try simp)))
                clear HS
                go_wp2_with (first
                  | (go_at_call 48; refine (HL _ _).out.mono ?_; rintro e w' ⟨rfl, rfl⟩; first | rw [q2'] | rw [q3'])
                  | (at_builtin; refine wpList_pushG rfl _ _ 31 rfl w.heap.size 3 i0 (.int .i64 0) 1 8 Tryd.underlying31 hi hz0 hz1 hz2 rfl (by decide) (by decide) _ _ _ _ rfl HO.out #[.int .i64 k] _ _ rfl (by simp) rfl (by simp [Value.oneCell']) (by omega) hsz ?_; intro A5 c5 w5 hown5 hg5 hpl5))
                go_roundw
                case rel => exact ⟨k + 1, acc ++ [(k : Int)], A5, c5, by omega, by simp; omega, by go_num, by simp, by simpa [cellsI] using hown5, Below.row HB.out HO.out hg5 (Nat.le_refl _) hsz, K2⟩
                case measure => simp [intOf]; omega
            · have h3' : ¬ (k : Int) + (wd.size : Int) < (t.size : Int) := by omega
              have hnx : (((bytesOf t)[k + wd.size]?).map letU).getD false = false := by rw [List.getElem?_eq_none (by rw [len_bytesOf]; omega)]; rfl
              have K2 : Hid (scanI t wd = (acc ++ [(k : Int)]) ++ (scanF (bytesOf wd) (prevB (bytesOf t) (k + 1)) (k + 1) ((bytesOf t).drop (k + 1))).map fun k : Nat => (k : Int)) := Lib.hid (HS.out.trans (by rw [if_pos ⟨hm, (hpv.trans q2'), hnx⟩]; (try simp)))
              clear HS
              go_wp2_with (first
                | (go_at_call 48; refine (HL _ _).out.mono ?_; rintro e w' ⟨rfl, rfl⟩; first | rw [q2'])
                | (at_builtin; refine wpList_pushG rfl _ _ 31 rfl w.heap.size 3 i0 (.int .i64 0) 1 8 Tryd.underlying31 hi hz0 hz1 hz2 rfl (by decide) (by decide) _ _ _ _ rfl HO.out #[.int .i64 k] _ _ rfl (by simp) rfl (by simp [Value.oneCell']) (by omega) hsz ?_; intro A5 c5 w5 hown5 hg5 hpl5))
              go_roundw
              case rel => exact ⟨k + 1, acc ++ [(k : Int)], A5, c5, by omega, by simp; omega, by go_num, by simp, by simpa [cellsI] using hown5, Below.row HB.out HO.out hg5 (Nat.le_refl _) hsz, K2⟩
              case measure => simp [intOf]; omega
      · have b1 : ((t.extract k (k + wd.size)).toList == wd.toList) = false := Bool.eq_false_iff.2 (fun h => hm ((ext_eq t wd k).1 h))
        have K2 : Hid (scanI t wd = acc ++ (scanF (bytesOf wd) (prevB (bytesOf t) (k + 1)) (k + 1) ((bytesOf t).drop (k + 1))).map fun k : Nat => (k : Int)) := Lib.hid (HS.out.trans (by rw [if_neg (fun h => hm h.1)]; (try simp)))
        clear HS
        go_wp2_with fail
        go_roundw
        case rel => exact ⟨k + 1, acc, A', c', by omega, by omega, by go_num, rfl, HO.out, HB.out, K2⟩
        case measure => simp [intOf]; omega
    · have e0 : IntKind.i64.wrap ((k : Int) + (wd.size : Int)) = (k : Int) + (wd.size : Int) := IntWalk.i64_in _ (by omega)
      have e1 : ¬ (k : Int) + (wd.size : Int) ≤ (t.size : Int) := by omega
      have K2 : Hid (scanI t wd = acc) := by
        show _ = _; rw [K.out, scan_short _ _ _ _ (by rw [List.length_drop, len_bytesOf, len_bytesOf]; omega)]; simp
      have HO := Lib.hid hown
      have HB := Lib.hid hb
      clear K hown hb
      go_wp2
      go_ret
      exact ⟨_, rfl, ⟨A', c', by rw [K2.out]; rfl, by rw [K2.out]; exact HO.out⟩, HB.out⟩

end Go.Proofs.YtllnnkiehckegaaDoor
