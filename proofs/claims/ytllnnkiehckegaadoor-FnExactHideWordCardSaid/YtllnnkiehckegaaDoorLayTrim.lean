/-
  The library's strings.Trim at an ASCII cutset: its contract's ground, laid at this program. The fields were printed by lay.py.
  Conditions: those written at each theorem.
-/
import Derived.Test.YtllnnkiehckegaaDoorStr
import Derived.Shelf.Strings.SlTrimAscii
namespace Go.Proofs.YtllnnkiehckegaaDoor
open Go.Shelf Go.RowKit
set_option maxRecDepth 100000

def laysTrim_ren : Ren := ⟨fun x => if x = 119 then 92 else if x = 120 then 88 else if x = 137 then 91 else if x = 151 then 77 else if x = 152 then 87 else if x = 160 then 49 else if x = 197 then 76 else if x = 217 then 95 else if x = 224 then 93 else if x = 225 then 94 else if x = 227 then 59 else if x = 228 then 75 else if x = 231 then 57 else if x = 232 then 58 else if x = 233 then 60 else if x = 234 then 61 else if x = 235 then 62 else if x = 236 then 63 else if x = 260 then 86 else if x = 266 then 97 else if x = 271 then 78 else 0, fun x => if x = 0 then 0 else if x = 3 then 3 else if x = 4 then 4 else if x = 5 then 5 else if x = 9 then 9 else if x = 21 then 21 else if x = 46 then 71 else if x = 105 then 92 else if x = 116 then 74 else if x = 117 then 75 else if x = 119 then 106 else if x = 124 then 78 else if x = 138 then 108 else if x = 139 then 109 else 0, fun x => if x = 3 then 0 else if x = 4 then 1 else 0⟩
theorem laysTrim : Lays.n160 Tryd.prog laysTrim_ren where
  mixed := by kernel_rfl
  f119 := by kernel_rfl
  f120 := by kernel_rfl
  f137 := by kernel_rfl
  f151 := by kernel_rfl
  f152 := by kernel_rfl
  f160 := by kernel_rfl
  f197 := by kernel_rfl
  f217 := by kernel_rfl
  f224 := by kernel_rfl
  f225 := by kernel_rfl
  f227 := by kernel_rfl
  f228 := by kernel_rfl
  f231 := by kernel_rfl
  f232 := by kernel_rfl
  f233 := by kernel_rfl
  f234 := by kernel_rfl
  f235 := by kernel_rfl
  f236 := by kernel_rfl
  f260 := by kernel_rfl
  f266 := by kernel_rfl
  f271 := by kernel_rfl
  t0 := Tryd.underlying0
  a0 := Tryd.isAgg0
  z0 := Tryd.sizeOf0
  v0 := Tryd.zeroValue0
  t3 := Tryd.underlying3
  a3 := Tryd.isAgg3
  z3 := Tryd.sizeOf3
  v3 := Tryd.zeroValue3
  t4 := Tryd.underlying4
  a4 := Tryd.isAgg4
  z4 := Tryd.sizeOf4
  v4 := Tryd.zeroValue4
  t5 := Tryd.underlying5
  a5 := Tryd.isAgg5
  z5 := Tryd.sizeOf5
  v5 := Tryd.zeroValue5
  t9 := Tryd.underlying9
  a9 := Tryd.isAgg9
  z9 := Tryd.sizeOf9
  v9 := Tryd.zeroValue9
  t21 := Tryd.underlying21
  a21 := Tryd.isAgg21
  z21 := Tryd.sizeOf21
  v21 := Tryd.zeroValue21
  t46 := Tryd.underlying71
  a46 := Tryd.isAgg71
  z46 := Tryd.sizeOf71
  v46 := Tryd.zeroValue71
  t105 := Tryd.underlying92
  a105 := Tryd.isAgg92
  z105 := Tryd.sizeOf92
  v105 := Tryd.zeroValue92
  t116 := Tryd.underlying74
  a116 := Tryd.isAgg74
  z116 := Tryd.sizeOf74
  t117 := Tryd.underlying75
  a117 := Tryd.isAgg75
  z117 := Tryd.sizeOf75
  v117 := Tryd.zeroValue75
  t119 := Tryd.underlying106
  a119 := Tryd.isAgg106
  z119 := Tryd.sizeOf106
  t124 := Tryd.underlying78
  a124 := Tryd.isAgg78
  z124 := Tryd.sizeOf78
  v124 := Tryd.zeroValue78
  t138 := Tryd.underlying108
  a138 := Tryd.isAgg108
  z138 := Tryd.sizeOf108
  v138 := Tryd.zeroValue108
  t139 := Tryd.underlying109
  a139 := Tryd.isAgg109
  z139 := Tryd.sizeOf109
  v139 := Tryd.zeroValue109
  g3 := by kernel_rfl
  g4 := by kernel_rfl

theorem drop_all {P : UInt8 → Bool} : ∀ l : List UInt8, l.dropWhile P = [] ↔ ∀ x ∈ l, P x = true
  | [] => by simp
  | x :: r => by
    rw [List.dropWhile_cons]
    split
    · rename_i h; rw [drop_all r]; simp [h]
    · rename_i h
      constructor
      · intro e; cases e
      · intro k; exact absurd (k x (List.mem_cons_self)) h
theorem trim_nil (l cs : List UInt8) : Lib.trimS l cs = [] ↔ ∀ x ∈ l, cs.contains x = true := by
  unfold Lib.trimS Lib.trimLeftS
  rw [drop_all]
  unfold Lib.trimRightS
  constructor
  · intro h
    have h2 : ∀ x ∈ l.reverse.dropWhile (cs.contains ·), cs.contains x = true := fun x hx => h x (by simpa using hx)
    have h3 : l.reverse.dropWhile (cs.contains ·) = [] := by
      cases hd : l.reverse.dropWhile (cs.contains ·) with
      | nil => rfl
      | cons y t =>
        have h4 := List.head?_dropWhile_not (p := fun x => cs.contains x) l.reverse
        rw [hd] at h4 h2
        simp at h4
        have := h2 y (List.mem_cons_self)
        simp at this
        exact absurd this h4
    intro x hx
    exact (drop_all l.reverse).1 h3 x (by simpa using hx)
  · intro h x hx
    have h3 := (drop_all (P := (cs.contains ·)) l.reverse).2 (fun y hy => h y (by simpa using hy))
    rw [h3] at hx
    cases hx
theorem trim_any (s cs : ByteArray) (hs : s.size ≤ 9223372036854775807) (hc : cs.size < 4294967281) (ha : ∀ (j : Nat) b, cs.data.toList[j]? = some b → b.toNat < 128) (w : World) :
    Calls Tryd.prog 49 #[.string s, .string cs] w fun e w' => e = .returned (.string ⟨(Lib.trimS s.data.toList cs.data.toList).toArray⟩) ∧ Below w.heap.size w w' :=
  Any.strings_Trim_laid laysTrim (by kernel_rfl) s cs w hs hc ha

end Go.Proofs.YtllnnkiehckegaaDoor
