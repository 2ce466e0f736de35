/-
  Chapter 15: a text with its spans hidden, by the reference and by the program.
  Conditions: those written at each theorem.
-/
import Derived.Test.YtfbcdjggnoidbaaDoorP15d
import Derived.Test.YtfbcdjggnoidbaaDoorP16h
namespace Go.Proofs.YtfbcdjggnoidbaaDoor
open Go.RowKit Go.BigFrame
set_option maxRecDepth 100000

def redN (t : ByteArray) : ByteArray → Nat → List Span → ByteArray
  | out, p, [] => out ++ t.extract p t.size
  | out, p, s :: r => redN t (out ++ t.extract p s.lo.toNat ++ ⟨#[91]⟩ ++ numT s.reason ++ ⟨#[93]⟩) s.hi.toNat r
def rdAns (t : ByteArray) (l : List Span) : Value := if goodT t l = true then .tuple #[.string (redN t ⟨#[]⟩ 0 l), .bool true] else .tuple #[.string ⟨#[]⟩, .bool false]
theorem rdAns_form (t : ByteArray) (l : List Span) : ∃ (x : ByteArray) (y : Bool), rdAns t l = .tuple #[.string x, .bool y] := by
  unfold rdAns; split <;> exact ⟨_, _, rfl⟩
theorem spansB_head {n p : Int} {l : List Span} {k : Nat} (h : k < l.length) (K : spansB n p (l.drop k) = true) : ((1 ≤ l[k].hi ∧ l[k].hi ≤ n) ∧ (0 ≤ l[k].lo ∧ l[k].lo ≤ l[k].hi - 1) ∧ (1 ≤ l[k].reason ∧ l[k].reason ≤ 9) ∧ p ≤ l[k].lo) ∧ spansB n l[k].hi (l.drop (k + 1)) = true := by
  rw [List.drop_eq_getElem_cons h, spansB, Bool.and_eq_true] at K
  refine ⟨?_, K.2⟩
  have h1 := K.1
  simp only [spOk, Bool.and_eq_true, decide_eq_true_eq] at h1
  exact ⟨inB_iff.1 h1.1.1.1, inB_iff.1 h1.1.1.2, inB_iff.1 h1.1.2, h1.2⟩
theorem red_size (out x : ByteArray) (m : Int) (hm : (numT m).size ≤ 21) (hx : x.size ≤ 100) : (out ++ x ++ ⟨#[91]⟩ ++ numT m ++ ⟨#[93]⟩).size ≤ out.size + 130 := by
  rw [ByteArray.size_append, ByteArray.size_append, ByteArray.size_append, ByteArray.size_append]
  have e1 : (⟨#[91]⟩ : ByteArray).size = 1 := rfl
  have e2 : (⟨#[93]⟩ : ByteArray).size = 1 := rfl
  omega
theorem extract_le (t : ByteArray) (a b : Nat) (ht : t.size ≤ 100) : (t.extract a b).size ≤ 100 := by
  rw [ByteArray.size_extract]; omega

theorem l1Num_nat (i : Nat) (h : i < 100) (w : World) : Calls Tryd.prog 59 #[.int .i64 i] w fun e w' => e = .returned (.string (numT i)) ∧ Below w.heap.size w w' :=
  l1Num_int i i rfl (by omega) w

set_option maxHeartbeats 1600000 in
theorem specRedacted_any (t : ByteArray) (l : List Span) (A : Option Addr) (c : Nat) (ht : t.size ≤ 1048576) (hl : l.length ≤ 1048576) (w : World) (hr : Rd w 3 A l.length (cellsSpan l)) :
    Calls Tryd.prog 37 #[.string t, .slice A l.length c] w fun e w' => e = .returned (rdAns t l) ∧ Below w.heap.size w w' := by
  have HI := Lib.hid (l15Good_any t l A c ht hl w hr)
  have HR := Lib.hid hr
  clear hr
  by_cases h1 : goodT t l = true
  · have e1 : Hid (rdAns t l = .tuple #[.string (redN t ⟨#[]⟩ 0 l), .bool true]) := if_pos h1
    obtain ⟨_, ht1, hl8⟩ := goodT_true h1
    have hsp : spansB t.size 0 l = true := by
      simp only [goodT, Bool.and_eq_true] at h1; exact h1.1
    have HSP := Lib.hid hsp
    rw [h1] at HI
    clear h1 hsp
    go_enter Tryd.func37, Tryd.ntmps37
    go_wp2_with fail
    refine HI.out.mono ?_
    rintro e w1 ⟨rfl, hb1⟩
    have B1 := Lib.hid hb1
    clear hb1
    go_wp2_with fail
    go_loopw [6, 7, 8] (fun v6 v7 v8 wr => ∃ (k p : Nat) (out : ByteArray), k ≤ l.length ∧ v8 = .int .i64 k ∧ v7 = .int .i64 p ∧ v6 = .string out ∧ p ≤ t.size ∧ out.size ≤ 130 * k ∧ Below w.heap.size w wr ∧ Hid (spansB t.size p (l.drop k) = true) ∧ Hid (redN t ⟨#[]⟩ 0 l = redN t out p (l.drop k))) (fun _ _ v8 _ => l.length - (intOf v8).toNat)
    case atStart => exact ⟨0, 0, ⟨#[]⟩, Nat.zero_le _, rfl, rfl, rfl, Nat.zero_le _, Nat.zero_le _, B1.out, HSP, by show _ = _; rfl⟩
    case round =>
      obtain ⟨k, p, out, hk, rfl, rfl, rfl, hp, hsz, hb, HS, K⟩ := hrel
      by_cases hlt : k < l.length
      · obtain ⟨gb, go, rfl, hgb, hcell⟩ := (HR.out.below hb).2 (by omega)
        obtain ⟨h0, h1, h2⟩ := cellsSpan_at hcell hlt
        clear hcell
        have hlt' : ((k : Int) < (l.length : Int)) := by omega
        obtain ⟨hbd, hnx⟩ := spansB_head hlt HS.out
        obtain ⟨a, ha⟩ : ∃ a : Nat, l[k].lo = (a : Int) := ⟨l[k].lo.toNat, by omega⟩
        obtain ⟨b, hb'⟩ : ∃ b : Nat, l[k].hi = (b : Int) := ⟨l[k].hi.toNat, by omega⟩
        obtain ⟨m, hm⟩ : ∃ m : Nat, l[k].reason = (m : Int) := ⟨l[k].reason.toNat, by omega⟩
        have K1 := K.out
        rw [List.drop_eq_getElem_cons hlt, redN, ha, hb', hm, Int.toNat_natCast, Int.toNat_natCast] at K1
        have HK := Lib.hid K1
        rw [ha] at h0
        rw [hb'] at h1 hnx
        rw [hm] at h2
        rw [ha, hb', hm] at hbd
        have HNX := Lib.hid hnx
        have hpa : p ≤ a := by omega
        have hab : a ≤ t.size := by omega
        have hbt : b ≤ t.size := by omega
        have hm9 : m < 100 := by omega
        have HM := fun W => Lib.hid (l1Num_nat m hm9 W)
        have hms := numT_size m (by unfold I64; omega)
        have hxs := extract_le t p a ht1
        have hos := red_size out (t.extract p a) m hms hxs
        have c0 := cellG (w := wr) (b := gb) (o := go + k * 3) (v := .int .i64 a) hgb h0
        have c2 := cellG (w := wr) (b := gb) (o := go + k * 3 + 2) (v := .int .i64 m) hgb h2
        have HB := Lib.hid hb
        have HOS : Hid ((out ++ t.extract p a ++ ⟨#[91]⟩ ++ numT m ++ ⟨#[93]⟩).size ≤ 130 * (k + 1)) := Lib.hid (by omega)
        have hp0 : (0 : Int) ≤ (p : Int) := by omega
        have hp1 : (p : Int) ≤ (a : Int) := by omega
        have hp2 : (a : Int) ≤ (t.size : Int) := by omega
        clear K K1 hb hnx hos HS ha hb' hm
        go_wp2_with fail
        refine wp_region_grow (by kernel_rfl) (by kernel_rfl) ?_
        repeat (go_big_quiet_step (first | (go_at_call 59; exact quietG (HM _).out)))
        refine wpQuiet_endG ?_
        intro w2 hb2
        have h1' : w2.cell? ⟨gb, go + k * 3 + 1, none⟩ = some (.int .i64 b) := (hb2.cell (p := ⟨gb, go + k * 3 + 1, none⟩) hgb).trans h1
        have HB2 := Lib.hid (Below.transB HB.out (Nat.le_refl _) hb2)
        clear hb2 h0 h1 h2 c0 c2
        go_wp2
        go_roundw
        case rel => exact ⟨k + 1, b, _, by omega, by go_num, rfl, rfl, hbt, HOS.out, HB2.out, HNX, HK⟩
        case measure => simp [intOf]; omega
      · have K2 : Hid (redN t ⟨#[]⟩ 0 l = out ++ t.extract p t.size) := by show _ = _; rw [K.out, List.drop_of_length_le (by omega), redN]
        have hp0 : (0 : Int) ≤ (p : Int) := by omega
        have hp2 : (p : Int) ≤ (t.size : Int) := by omega
        have hxs := extract_le t p t.size ht1
        have HB := Lib.hid hb
        clear K hb HS
        go_wp2
        go_ret2
        exact ⟨by rw [e1.out, K2.out]; rfl, HB.out⟩
  · have e1 : Hid (rdAns t l = .tuple #[.string ⟨#[]⟩, .bool false]) := if_neg h1
    rw [show goodT t l = false by simpa using h1] at HI
    go_enter Tryd.func37, Tryd.ntmps37
    go_wp2_with fail
    refine HI.out.mono ?_
    rintro e w1 ⟨rfl, hb1⟩
    go_wp2
    go_ret2
    exact ⟨by rw [e1.out]; rfl, hb1⟩

theorem red_assoc (out x n : ByteArray) : out ++ (x ++ ⟨#[91]⟩ ++ n ++ ⟨#[93]⟩) = out ++ x ++ ⟨#[91]⟩ ++ n ++ ⟨#[93]⟩ := by
  simp only [ByteArray.append_assoc]

set_option maxHeartbeats 1600000 in
theorem implRedacted_any (t : ByteArray) (l : List Span) (A : Option Addr) (c : Nat) (ht : t.size ≤ 1048576) (hl : l.length ≤ 1048576) (w : World) (hr : Rd w 3 A l.length (cellsSpan l)) :
    Calls Tryd.prog 38 #[.string t, .slice A l.length c] w fun e w' => e = .returned (rdAns t l) ∧ Below w.heap.size w w' := by
  have HI := Lib.hid (implAreSpans_any t l A c ht hl w hr)
  have HR := Lib.hid hr
  clear hr
  by_cases h1 : goodT t l = true
  · have e1 : Hid (rdAns t l = .tuple #[.string (redN t ⟨#[]⟩ 0 l), .bool true]) := if_pos h1
    obtain ⟨_, ht1, hl8⟩ := goodT_true h1
    have hsp : spansB t.size 0 l = true := by
      simp only [goodT, Bool.and_eq_true] at h1; exact h1.1
    have HSP := Lib.hid hsp
    rw [h1] at HI
    clear h1 hsp
    go_enter Tryd.func38, Tryd.ntmps38
    go_wp2_with fail
    refine HI.out.mono ?_
    rintro e w1 ⟨rfl, hb1⟩
    have B1 := Lib.hid hb1
    clear hb1
    go_wp2_with fail
    go_loopw [6, 7, 16] (fun v6 v7 v8 wr => ∃ (k p : Nat) (out : ByteArray), k ≤ l.length ∧ v8 = .int .i64 k ∧ v7 = .int .i64 p ∧ v6 = .string out ∧ p ≤ t.size ∧ out.size ≤ 130 * k ∧ Below w.heap.size w wr ∧ Hid (spansB t.size p (l.drop k) = true) ∧ Hid (redN t ⟨#[]⟩ 0 l = redN t out p (l.drop k))) (fun _ _ v8 _ => l.length - (intOf v8).toNat)
    case atStart => exact ⟨0, 0, ⟨#[]⟩, Nat.zero_le _, rfl, rfl, rfl, Nat.zero_le _, Nat.zero_le _, B1.out, HSP, by show _ = _; rfl⟩
    case round =>
      obtain ⟨k, p, out, hk, rfl, rfl, rfl, hp, hsz, hb, HS, K⟩ := hrel
      by_cases hlt : k < l.length
      · obtain ⟨gb, go, rfl, hgb, hcell⟩ := (HR.out.below hb).2 (by omega)
        obtain ⟨h0, h1, h2⟩ := cellsSpan_at hcell hlt
        clear hcell
        have hlt' : ((k : Int) < (l.length : Int)) := by omega
        obtain ⟨hbd, hnx⟩ := spansB_head hlt HS.out
        obtain ⟨a, ha⟩ : ∃ a : Nat, l[k].lo = (a : Int) := ⟨l[k].lo.toNat, by omega⟩
        obtain ⟨b, hb'⟩ : ∃ b : Nat, l[k].hi = (b : Int) := ⟨l[k].hi.toNat, by omega⟩
        obtain ⟨m, hm⟩ : ∃ m : Nat, l[k].reason = (m : Int) := ⟨l[k].reason.toNat, by omega⟩
        have K1 := K.out
        rw [List.drop_eq_getElem_cons hlt, redN, ha, hb', hm, Int.toNat_natCast, Int.toNat_natCast, ← red_assoc] at K1
        have HK := Lib.hid K1
        rw [ha] at h0
        rw [hb'] at h1 hnx
        rw [hm] at h2
        rw [ha, hb', hm] at hbd
        have HNX := Lib.hid hnx
        have hpa : p ≤ a := by omega
        have hab : a ≤ t.size := by omega
        have hbt : b ≤ t.size := by omega
        have hm9 : m < 100 := by omega
        have HM := fun W => Lib.hid (decimal_small m hm9 W)
        have hms := numT_size m (by unfold I64; omega)
        have hxs := extract_le t p a ht1
        have hos := red_size out (t.extract p a) m hms hxs
        rw [← red_assoc] at hos
        have bx := Box.new wr #[.int .i64 a, .int .i64 b, .int .i64 m] 53
        have hb1 : Below wr.heap.size wr (wr.alloc (.cells #[.int .i64 a, .int .i64 b, .int .i64 m] 53)) := (Below.refl _ _).alloc (Nat.le_refl _) _
        have b0 := bx.G 0 _ rfl
        have b2 := bx.G 2 _ rfl
        have BX := Lib.hid bx
        have HB1 := Lib.hid hb1
        have HB := Lib.hid hb
        have HOS : Hid ((out ++ (t.extract p a ++ ⟨#[91]⟩ ++ numT m ++ ⟨#[93]⟩)).size ≤ 130 * (k + 1)) := Lib.hid (by omega)
        have hp0 : (0 : Int) ≤ (p : Int) := by omega
        have hp1 : (p : Int) ≤ (a : Int) := by omega
        have hp2 : (a : Int) ≤ (t.size : Int) := by omega
        clear K K1 hb hb1 hnx hos HS ha hb' hm bx
        go_wp2_with fail
        refine wp_region_grow (by kernel_rfl) (by kernel_rfl) ?_
        repeat (go_big_quiet_step (first | (go_at_call 60; exact quietGs (HM _).out)))
        refine wpQuiet_endG ?_
        intro w2 hb2
        have h1' : w2.cell? ⟨wr.heap.size, 1, none⟩ = some (.int .i64 b) := (BX.out.below hb2).2 1 _ rfl
        have HB2 := Lib.hid (Below.transB (Below.transB HB.out (Nat.le_refl _) HB1.out) (Nat.le_refl _) hb2)
        clear hb2 h0 h1 h2 b0 b2
        go_wp2
        go_roundw
        case rel => exact ⟨k + 1, b, _, by omega, by go_num, rfl, rfl, hbt, HOS.out, HB2.out, HNX, HK⟩
        case measure => simp [intOf]; omega
      · have K2 : Hid (redN t ⟨#[]⟩ 0 l = out ++ t.extract p t.size) := by show _ = _; rw [K.out, List.drop_of_length_le (by omega), redN]
        have hp0 : (0 : Int) ≤ (p : Int) := by omega
        have hp2 : (p : Int) ≤ (t.size : Int) := by omega
        have hxs := extract_le t p t.size ht1
        have HB := Lib.hid hb
        clear K hb HS
        go_wp2
        go_ret2
        exact ⟨by rw [e1.out, K2.out]; rfl, HB.out⟩
  · have e1 : Hid (rdAns t l = .tuple #[.string ⟨#[]⟩, .bool false]) := if_neg h1
    rw [show goodT t l = false by simpa using h1] at HI
    go_enter Tryd.func38, Tryd.ntmps38
    go_wp2_with fail
    refine HI.out.mono ?_
    rintro e w1 ⟨rfl, hb1⟩
    go_wp2
    go_ret2
    exact ⟨by rw [e1.out]; rfl, hb1⟩

end Go.Proofs.YtfbcdjggnoidbaaDoor
