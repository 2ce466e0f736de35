/-
  Lists of strings: the law's own marks, and the look at them.
  Conditions: those written at each theorem.
-/
import Derived.Test.YtcajnbjonilljaaDoorTyStr
import Derived.Test.YtcajnbjonilljaaDoorSi
import Derived.Laws.IdiomStrings
import Derived.Maps.AppendAt
namespace Go.Proofs.YtcajnbjonilljaaDoor
open Go.RowKit Go.BigFrame
set_option maxRecDepth 100000

theorem grown_below {a w w' : World} {g : Option Nat} (h : a.grownBy w g) (hb : Below w.heap.size w w') : a.grownBy w' g :=
  h.trans ⟨hb.os, hb.tape, hb.output, hb.size, fun k hk _ => hb.block k hk⟩

/-- a digit's byte -/
def dg8 (n : Nat) : UInt8 := UInt8.ofNat (48 + n % 10)
theorem dg8_nat (n : Nat) : ((dg8 n).toNat : Int) = 48 + (n : Int) % 10 := by
  unfold dg8
  rw [UInt8.toNat_ofNat']
  omega
def markG (n : Nat) (acc : ByteArray) : ByteArray := if h : n = 0 then acc else markG (n / 10) (⟨#[dg8 n]⟩ ++ acc)
termination_by n
decreasing_by omega
/-- the mark of a number -/
def markT (k : Int) : ByteArray := if k ≤ 0 then ⟨#[109, 48]⟩ else ⟨#[109]⟩ ++ markG k.toNat ⟨#[]⟩

set_option maxHeartbeats 1600000 in
theorem markText_any (k : Int) (hk : k ≤ 90000000) (w : World) :
    Calls Tryd.prog 26 #[.int .i64 k] w fun e w' => e = .returned (.string (markT k)) ∧ Below w.heap.size w w' := by
  by_cases h0 : k ≤ 0
  · have e1 : Hid (markT k = ⟨#[109, 48]⟩) := if_pos h0
    go_enter Tryd.func26, Tryd.ntmps26
    go_wp2
    go_ret
    exact ⟨by rw [e1.out]; rfl, Below.refl _ _⟩
  · have e1 : Hid (markT k = ⟨#[109]⟩ ++ markG k.toNat ⟨#[]⟩) := if_neg h0
    obtain ⟨K, rfl⟩ : ∃ K : Nat, k = K := ⟨k.toNat, by omega⟩
    go_enter Tryd.func26, Tryd.ntmps26
    go_wp2
    go_loopw [0, 3] (fun v0 v3 wr => ∃ (n : Nat) (acc : ByteArray), v0 = .int .i64 n ∧ v3 = .string acc ∧ acc.size + n ≤ K ∧ Below w.heap.size w wr ∧ Hid (markG K ⟨#[]⟩ = markG n acc)) (fun v0 _ _ => (intOf v0).toNat)
    case atStart => exact ⟨K, _, rfl, rfl, by show 0 + K ≤ K; omega, Below.refl _ _, by show _ = _; rfl⟩
    case round =>
      obtain ⟨n, acc, rfl, rfl, hsz, hb, G⟩ := hrel
      by_cases hn : n = 0
      · have G2 : Hid (markG K ⟨#[]⟩ = acc) := by show _ = _; rw [G.out, hn, markG]; simp
        have hz : (n : Int) = 0 := by omega
        have HB := Lib.hid hb
        clear G hb
        go_wp2
        go_ret
        exact ⟨by rw [e1.out, show ((K : Int)).toNat = K by omega, G2.out]; rfl, HB.out⟩
      · have G2 : Hid (markG K ⟨#[]⟩ = markG (n / 10) (⟨#[dg8 n]⟩ ++ acc)) := by show _ = _; rw [G.out, markG, dif_neg hn]
        have hd := dg8_nat n
        have hcv : (convert 50 9 (.slice (some ⟨wr.heap.size, 0, none⟩) 1 1)).run Tryd.prog (wr.alloc (.cells #[.int .u8 (48 + (n : Int) % 10)] 5)) = .ok (.string ⟨#[dg8 n]⟩) (wr.alloc (.cells #[.int .u8 (48 + (n : Int) % 10)] 5)) := by
          have h := run_convert_bytes_back (P := Tryd.prog) (wr.alloc (.cells #[.int .u8 (48 + (n : Int) % 10)] 5)) 50 9 5 ⟨wr.heap.size, 0, none⟩ 1 [dg8 n] Tryd.underlying50 Tryd.underlying5 Tryd.underlying9 (fun j hj => by
            have hj0 : j = 0 := by simpa using hj
            subst hj0
            rw [Addr.add_lit, World.cell?_alloc_new]
            simp [hd])
          exact h
        have hs1 : (⟨#[dg8 n]⟩ ++ acc : ByteArray).size = 1 + acc.size := by rw [ByteArray.size_append]; rfl
        have hsz2 : (⟨#[dg8 n]⟩ ++ acc : ByteArray).size + n / 10 ≤ K := by omega
        have HSZ := Lib.hid hsz2
        have HB := Lib.hid (Below.alloc hb hb.size (.cells #[.int .u8 (48 + (n : Int) % 10)] 5))
        have hn0 : 0 < (n : Int) := by omega
        have hr0 : 0 ≤ (n : Int) % 10 := by omega
        have hr1 : (n : Int) % 10 ≤ 9 := by omega
        have hw : IntKind.u8.wrap (48 + (n : Int) % 10) = 48 + (n : Int) % 10 := by simp [IntKind.wrap, IntKind.bits, IntKind.signed]; omega
        clear G hb hd hsz2 hs1 hn
        go_wp2
        go_roundw
        case rel => exact ⟨n / 10, _, by go_num, rfl, HSZ.out, HB.out, G2⟩
        case measure => simp [intOf]; omega

/-- n marks that count on from k -/
def strFrom (k : Int) (n : Nat) : List ByteArray := (List.range n).map fun (i : Nat) => markT (k + i)
theorem length_strFrom (k : Int) (n : Nat) : (strFrom k n).length = n := by simp [strFrom]
theorem strFrom_succ (k : Int) (i : Nat) : strFrom k (i + 1) = strFrom k i ++ [markT (k + i)] := by simp [strFrom, List.range_succ]
theorem strFrom_get (k : Int) (n i : Nat) (h : i < (strFrom k n).length) : (strFrom k n)[i] = markT (k + i) := by simp [strFrom]

set_option maxHeartbeats 800000 in
theorem markStringS_any (xs : List Value) (n : Nat) (k : Int) (A : Option Addr) (c base : Nat) (w : World) (ho : w.ownsRow base 9 1 (.slice A n c) n xs) (hn : n ≤ 9000000) (hk : 0 ≤ k ∧ k ≤ 9000000) :
    Calls Tryd.prog 13 #[.slice A n c, .int .i64 k] w
      fun e w' => e = .returned (.int .i64 (k + n)) ∧ w'.ownsRow base 9 1 (.slice A n c) n (cellsS (strFrom k n)) ∧ w.grownBy w' (Value.slice A n c).ownBlock := by
  rcases Nat.eq_zero_or_pos n with rfl | hpos
  · have hx : xs = [] := List.eq_nil_of_length_eq_zero (by simpa using ho.1)
    subst hx
    have HO := Lib.hid ho
    clear ho
    go_enter Tryd.func13, Tryd.ntmps13
    go_wp2
    go_rounds 1
    go_ret
    exact ⟨by simp, HO.out, World.grownBy.refl _ _⟩
  · obtain ⟨g, hA⟩ : ∃ g, A = some ⟨g, 0, none⟩ := by
      rcases ho.2 with ⟨hv, h0⟩ | ⟨g, cap, cur, hv, _⟩
      · omega
      · injection hv with hA _ _; exact ⟨g, hA⟩
    subst hA
    go_enter Tryd.func13, Tryd.ntmps13
    go_wp2
    go_loopw [1, 5] (fun v1 v5 wr => ∃ i : Nat, i ≤ n ∧ v5 = .int .i64 i ∧ v1 = .int .i64 (k + i) ∧ w.grownBy wr (some g) ∧
      wr.ownsRow base 9 1 (.slice (some ⟨g, 0, none⟩) n c) n (cellsS (strFrom k i) ++ xs.drop i)) (fun _ i _ => n - (intOf i).toNat)
    case atStart => exact ⟨0, Nat.zero_le _, rfl, by go_num, World.grownBy.refl _ _, ho⟩
    case round =>
      have hxl : xs.length = n * 1 := ho.1
      have HX := Lib.hid hxl
      clear ho hxl
      obtain ⟨i, hi, rfl, rfl, hgr, hown⟩ := hrel
      by_cases hlt : i < n
      · have hlt' : ((i : Int) < (n : Int)) := by omega
        have HO := Lib.hid hown
        have HG := Lib.hid hgr
        have HM := fun W => Lib.hid (markText_any (k + i) (by omega) W)
        have HS := Lib.hid (strFrom_succ k i)
        generalize markT (k + i) = m at HM HS
        clear hown hgr
        go_wp2_with fail
        refine (HM _).out.mono ?_
        rintro e w2 ⟨rfl, hb2⟩
        have HO2 := Lib.hid (own_below HO.out hb2)
        have HG2 := Lib.hid (grown_below HG.out hb2)
        clear hb2
        obtain ⟨⟨z0, e0⟩, f0⟩ := own_has HO2.out i (by omega)
        go_wp2
        go_roundw
        case rel =>
          refine ⟨i + 1, by omega, by go_num, by go_num, grown_set HG2.out _ _, ?_⟩
          have h := (HO2.out.stored i (.string m)).1
          rw [fill1 (by rw [len_cellsS, length_strFrom]) (by rw [HX.out]; omega)] at h
          rw [HS.out, cellsS_append, List.append_assoc]
          exact h
        case measure => simp [intOf]; omega
      · obtain rfl : i = n := by omega
        have H1 : Hid (wr.ownsRow base 9 1 (.slice (some ⟨g, 0, none⟩) i c) i (cellsS (strFrom k i))) := by
          rw [List.drop_of_length_le (by rw [HX.out]; omega), List.append_nil] at hown
          exact hown
        have HG := Lib.hid hgr
        clear hown hgr
        go_wp2
        go_ret
        exact ⟨rfl, H1.out, HG.out⟩


end Go.Proofs.YtcajnbjonilljaaDoor
