/-
  Chapter 16: a ledger with one more entry, by the reference and by the program.
  Conditions: those written at each theorem.
-/
import Derived.Test.YtnlhjbplpnkjbaaDoorP16f
import Derived.Test.YtnlhjbplpnkjbaaDoorMkStr
namespace Go.Proofs.YtnlhjbplpnkjbaaDoor
open Go.RowKit Go.BigFrame
set_option maxRecDepth 100000

def aeOut (l : List ByteArray) (e : ByteArray) : List ByteArray := if goodL (l ++ [e]) = true then l ++ [e] else []
theorem len_ae (l : List ByteArray) (e : ByteArray) : (aeOut l e).length ≤ 8 := by
  unfold aeOut; split
  · rename_i h
    simp only [goodL, Bool.and_eq_true] at h
    have := inB_true h.1
    omega
  · simp

set_option maxHeartbeats 1600000 in
theorem specAppendEntry_any (l : List ByteArray) (x : ByteArray) (A : Option Addr) (c : Nat) (hA : A = none → c = 0) (hl : l.length ≤ 1048576) (hbd : ∀ y ∈ l, y.size ≤ 1048576) (hx : x.size ≤ 1048576) (w : World) (hr : Rd w 1 A l.length (cellsS l)) :
    Calls Tryd.prog 26 #[.slice A l.length c, .string x] w fun e w' => ∃ v, e = .returned (.tuple #[v, .bool (goodL (l ++ [x]))]) ∧ SlStr w.heap.size w' (aeOut l x) v ∧ Below w.heap.size w w' := by
  obtain ⟨i0, hi, hz0, hz1, hz2⟩ := info_parts infoS
  have hlen : (l ++ [x]).length = l.length + 1 := by simp
  have hbd2 : ∀ y ∈ l ++ [x], y.size ≤ 9223372036854775807 := by
    intro y hy
    rcases List.mem_append.1 hy with h | h
    · have := hbd y h; omega
    · have : y = x := by simpa using h
      subst this; omega
  have HG : ∀ A' c' W, Rd W 1 A' (l.length + 1) (cellsS (l ++ [x])) → Hid (Calls Tryd.prog 60 #[.slice A' (l.length + 1) c'] W fun e w' => e = .returned (.bool (goodL (l ++ [x]))) ∧ W = w') := fun A' c' W k => by
    have h := l16Good_any (l ++ [x]) A' c' (by omega) hbd2 W (by rw [hlen]; exact k)
    rw [hlen] at h
    exact h
  have HO0 := Lib.hid (own_empty (B := w.heap.size) w 9 1 (Nat.le_refl _))
  have HB0 := Lib.hid (Below.alloc (Below.refl w.heap.size w) (Nat.le_refl _) (.cells #[] 9))
  have HR := Lib.hid hr
  have H1 := one_cellsStr l
  have HC : Hid (cellsS l ++ [.string x] = cellsS (l ++ [x])) := Lib.hid (by rw [cellsS_append]; rfl)
  clear hr hbd hbd2 hx
  go_enter Tryd.func26, Tryd.ntmps26
  go_wp2_with (at_builtin; first
    | (refine wpList_appendMany _ rfl _ _ 39 rfl w.heap.size 9 i0 (.string .empty) 1 16 Tryd.underlying39 hi hz0 hz1 hz2 rfl (by decide) (by decide) (some ⟨w.heap.size, 0, none⟩) 0 0 [] rfl HO0.out A l.length c (cellsS l) rfl (HR.out.below HB0.out) hA H1 (by omega) (by simp) ?_
       intro A2 c2 w2 hown2 hg2
       have HO2 := Lib.hid hown2
       have HB2 := Lib.hid (Below.row HB0.out HO0.out hg2 (Nat.le_refl _) (by simp))
       have hs2 : w.heap.size ≤ w2.heap.size := HB2.out.size
       clear hown2 hg2
       simp only [Nat.zero_add, List.nil_append] at HO2
       try simp only [Nat.zero_add])
    | (refine wpList_push rfl _ _ 39 rfl w.heap.size 9 i0 (.string .empty) 1 16 Tryd.underlying39 hi hz0 hz1 hz2 rfl (by decide) (by decide) A2 l.length c2 (cellsS l) rfl HO2.out #[.string x] _ rfl rfl (by simp [Value.oneCell']) (by omega) hs2 ?_
       intro A3 c3 w3 hown3 hg3))
  have ho3 : w3.ownsRow w.heap.size 9 1 (.slice A3 (l.length + 1) c3) (l.length + 1) (cellsS (l ++ [x])) := by rw [← HC.out]; exact hown3
  have HO3 := Lib.hid ho3
  have HB3 := Lib.hid (Below.row HB2.out HO2.out hg3 (Nat.le_refl _) hs2)
  clear hown3 hg3 ho3
  by_cases h1 : goodL (l ++ [x]) = true
  · have e1 : Hid (aeOut l x = l ++ [x]) := if_pos h1
    go_wp2_with (go_at_call 60; refine (HG _ _ _ (Rd.of_own HO3.out)).out.mono ?_; rintro e w' ⟨rfl, rfl⟩; rw [h1])
    go_ret2
    exact ⟨_, by rw [h1]; rfl, by rw [e1.out]; exact ⟨A3, c3, by rw [hlen]; rfl, by rw [hlen]; exact HO3.out⟩, HB3.out⟩
  · have h1' : goodL (l ++ [x]) = false := by simpa using h1
    have e1 : Hid (aeOut l x = []) := if_neg h1
    go_wp2_with (go_at_call 60; refine (HG _ _ _ (Rd.of_own HO3.out)).out.mono ?_; rintro e w' ⟨rfl, rfl⟩; rw [h1'])
    go_ret2
    exact ⟨_, by rw [h1']; rfl, by rw [e1.out]; exact ⟨_, _, rfl, own_empty w3 _ 1 HB3.out.size⟩, Below.alloc HB3.out HB3.out.size _⟩

set_option maxHeartbeats 1600000 in
theorem implAppendEntry_any (l : List ByteArray) (x : ByteArray) (A : Option Addr) (c : Nat) (hA : A = none → c = 0) (hl : l.length ≤ 1048576) (hbd : ∀ y ∈ l, y.size ≤ 1048576) (hx : x.size ≤ 1048576) (w : World) (hr : Rd w 1 A l.length (cellsS l)) :
    Calls Tryd.prog 27 #[.slice A l.length c, .string x] w fun e w' => ∃ v, e = .returned (.tuple #[v, .bool (goodL (l ++ [x]))]) ∧ SlStr w.heap.size w' (aeOut l x) v ∧ Below w.heap.size w w' := by
  obtain ⟨i0, hi, hz0, hz1, hz2⟩ := info_parts infoS
  have hlen : (l ++ [x]).length = l.length + 1 := by simp
  have hbd2 : ∀ y ∈ l ++ [x], y.size ≤ 9223372036854775807 := by
    intro y hy
    rcases List.mem_append.1 hy with h | h
    · have := hbd y h; omega
    · have : y = x := by simpa using h
      subst this; omega
  have HG : ∀ A' c' W, Rd W 1 A' (l.length + 1) (cellsS (l ++ [x])) → Hid (Calls Tryd.prog 24 #[.slice A' (l.length + 1) c'] W fun e w' => e = .returned (.bool (goodL (l ++ [x]))) ∧ Below W.heap.size W w') := fun A' c' W k => by
    have h := implIsLedger_any (l ++ [x]) A' c' (by omega) hbd2 W (by rw [hlen]; exact k)
    rw [hlen] at h
    exact h
  have HK := Lib.hid (cloneStr_any l A c w hr hA hl)
  have HC : Hid (cellsS l ++ [.string x] = cellsS (l ++ [x])) := Lib.hid (by rw [cellsS_append]; rfl)
  clear hr hbd hbd2 hx
  go_enter Tryd.func27, Tryd.ntmps27
  go_wp2_with fail
  refine HK.out.mono ?_
  rintro e w2 ⟨_, rfl, ⟨A2, c2, rfl, ho2⟩, hb2⟩
  have HO2 := Lib.hid ho2
  have HB2 := Lib.hid hb2
  have hs2 : w.heap.size ≤ w2.heap.size := hb2.size
  clear ho2 hb2
  go_wp2_with (at_builtin; refine wpList_push rfl _ _ 39 rfl w.heap.size 9 i0 (.string .empty) 1 16 Tryd.underlying39 hi hz0 hz1 hz2 rfl (by decide) (by decide) A2 l.length c2 (cellsS l) rfl HO2.out #[.string x] _ rfl rfl (by simp [Value.oneCell']) (by omega) hs2 ?_; intro A3 c3 w3 hown3 hg3)
  have ho3 : w3.ownsRow w.heap.size 9 1 (.slice A3 (l.length + 1) c3) (l.length + 1) (cellsS (l ++ [x])) := by rw [← HC.out]; exact hown3
  have HO3 := Lib.hid ho3
  have HB3 := Lib.hid (Below.row HB2.out HO2.out hg3 (Nat.le_refl _) hs2)
  clear hown3 hg3 ho3
  go_wp2_with fail
  refine (HG _ _ _ (Rd.of_own HO3.out)).out.mono ?_
  rintro e w4 ⟨rfl, hb4⟩
  have HO4 := Lib.hid (own_below HO3.out hb4)
  have HB4 := Lib.hid (Below.transB HB3.out (Nat.le_refl _) hb4)
  clear hb4
  by_cases h1 : goodL (l ++ [x]) = true
  · have e1 : Hid (aeOut l x = l ++ [x]) := if_pos h1
    rw [h1]
    go_wp2
    go_ret2
    exact ⟨_, by rw [h1]; rfl, by rw [e1.out]; exact ⟨A3, c3, by rw [hlen]; rfl, by rw [hlen]; exact HO4.out⟩, HB4.out⟩
  · have h1' : goodL (l ++ [x]) = false := by simpa using h1
    have e1 : Hid (aeOut l x = []) := if_neg h1
    rw [h1']
    go_wp2
    go_ret2
    exact ⟨_, by rw [h1']; rfl, by rw [e1.out]; exact SlStr.nil _ _, HB4.out⟩

end Go.Proofs.YtnlhjbplpnkjbaaDoor
