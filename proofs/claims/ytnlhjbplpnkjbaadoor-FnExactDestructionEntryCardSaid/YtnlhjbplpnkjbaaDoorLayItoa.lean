/-
  The library's strconv.Itoa: its contract's ground, laid at this program; the table that its row lists. The fields were printed by lay.py.
  Conditions: those written at each theorem.
-/
import Derived.Test.YtnlhjbplpnkjbaaDoorStr
import Derived.Shelf.Strconv.Itoa3
import Derived.Lib.LaidTab
import Derived.Lib.AppendIntMem
import Derived.Lib.ItoaLen
import Derived.WalkSmall
namespace Go.Proofs.YtnlhjbplpnkjbaaDoor
open Go.Shelf Go.RowKit Go.BigFrame
set_option maxRecDepth 100000

def laysItoa_ren : Ren := ⟨fun x => if x = 129 then 120 else if x = 171 then 92 else if x = 243 then 102 else if x = 246 then 107 else if x = 283 then 111 else if x = 284 then 112 else if x = 285 then 113 else if x = 286 then 114 else if x = 317 then 119 else if x = 318 then 121 else if x = 319 then 122 else if x = 320 then 123 else if x = 337 then 125 else if x = 338 then 126 else 0, fun x => if x = 0 then 0 else if x = 2 then 2 else if x = 3 then 3 else if x = 4 then 4 else if x = 5 then 5 else if x = 9 then 9 else if x = 20 then 20 else if x = 37 then 89 else if x = 46 then 116 else if x = 51 then 126 else if x = 53 then 110 else if x = 171 then 109 else if x = 173 then 113 else if x = 212 then 125 else if x = 213 then 127 else if x = 232 then 130 else if x = 233 then 131 else 0, fun x => if x = 17 then 2 else if x = 18 then 4 else if x = 19 then 5 else 0⟩
theorem laysItoa0 : Lays.n171 Tryd.prog laysItoa_ren where
  mixed := by kernel_rfl
  f129 := by kernel_rfl
  f171 := by kernel_rfl
  f243 := by kernel_rfl
  f246 := by kernel_rfl
  f283 := by kernel_rfl
  f284 := by kernel_rfl
  f285 := by kernel_rfl
  f286 := by kernel_rfl
  f317 := by kernel_rfl
  f318 := by kernel_rfl
  f319 := by kernel_rfl
  f320 := by kernel_rfl
  f337 := by kernel_rfl
  f338 := by kernel_rfl
  t0 := Tryd.underlying0
  a0 := Tryd.isAgg0
  z0 := Tryd.sizeOf0
  v0 := Tryd.zeroValue0
  t2 := Tryd.underlying2
  a2 := Tryd.isAgg2
  z2 := Tryd.sizeOf2
  v2 := Tryd.zeroValue2
  t3 := Tryd.underlying3
  a3 := Tryd.isAgg3
  z3 := Tryd.sizeOf3
  v3 := Tryd.zeroValue3
  t4 := Tryd.underlying4
  a4 := Tryd.isAgg4
  z4 := Tryd.sizeOf4
  v4 := Tryd.zeroValue4
  t5 := Tryd.underlying5
  a5 := Tryd.isAgg5
  z5 := Tryd.sizeOf5
  v5 := Tryd.zeroValue5
  t9 := Tryd.underlying9
  a9 := Tryd.isAgg9
  z9 := Tryd.sizeOf9
  v9 := Tryd.zeroValue9
  t20 := Tryd.underlying20
  a20 := Tryd.isAgg20
  z20 := Tryd.sizeOf20
  v20 := Tryd.zeroValue20
  t37 := Tryd.underlying89
  a37 := Tryd.isAgg89
  z37 := Tryd.sizeOf89
  v37 := Tryd.zeroValue89
  t46 := Tryd.underlying116
  a46 := Tryd.isAgg116
  z46 := Tryd.sizeOf116
  v46 := Tryd.zeroValue116
  t51 := Tryd.underlying126
  a51 := Tryd.isAgg126
  z51 := Tryd.sizeOf126
  v51 := Tryd.zeroValue126
  t53 := Tryd.underlying110
  a53 := Tryd.isAgg110
  z53 := Tryd.sizeOf110
  v53 := Tryd.zeroValue110
  t171 := Tryd.underlying109
  a171 := Tryd.isAgg109
  z171 := Tryd.sizeOf109
  v171 := Tryd.zeroValue109
  t173 := Tryd.underlying113
  a173 := Tryd.isAgg113
  z173 := Tryd.sizeOf113
  v173 := Tryd.zeroValue113
  t212 := Tryd.underlying125
  a212 := Tryd.isAgg125
  z212 := Tryd.sizeOf125
  v212 := Tryd.zeroValue125
  t213 := Tryd.underlying127
  a213 := Tryd.isAgg127
  z213 := Tryd.sizeOf127
  t232 := Tryd.underlying130
  a232 := Tryd.isAgg130
  z232 := Tryd.sizeOf130
  v232 := Tryd.zeroValue130
  t233 := Tryd.underlying131
  a233 := Tryd.isAgg131
  z233 := Tryd.sizeOf131
  v233 := Tryd.zeroValue131
  g17 := by kernel_rfl
  g18 := by kernel_rfl
  g19 := by kernel_rfl
theorem laysItoa : LaysM.n171 Tryd.prog laysItoa_ren := { laysItoa0 with
  i0 := by kernel_rfl
  i2 := by kernel_rfl
  i3 := by kernel_rfl
  i4 := by kernel_rfl
  i5 := by kernel_rfl
  i9 := by kernel_rfl
  i20 := by kernel_rfl
  i37 := by kernel_rfl
  i46 := by kernel_rfl
  i51 := by kernel_rfl
  i53 := by kernel_rfl
  i171 := by kernel_rfl
  i173 := by kernel_rfl
  i212 := by kernel_rfl
  i232 := by kernel_rfl
  i233 := by kernel_rfl
  m17 := by kernel_rfl
  m18 := by kernel_rfl
  m19 := by kernel_rfl }

/-- the library's table of tens stands as its text lays it -/
def TabP (w : World) : Prop := Lib.TabIs Tryd.prog w "internal/strconv.uint64pow10" .u64 Lib.pow10Tab
theorem tabName : Tryd.prog.globalNamed "internal/strconv.uint64pow10" = some 2 := by kernel_rfl
theorem TabP.below {w w' : World} (h : TabP w) (hb : Below w.heap.size w w') : TabP w' := by
  have hc := Lib.TabIs.cell h tabName 0 (by decide)
  exact var?_below hb tabName (World.block_lt_of_cell? _ _ hc) h
theorem TabP.belowA {a w w' : World} (h : TabP w) (hw : Below a.heap.size w w') (ha : TabP a) (hb : Below a.heap.size a w') : TabP w' := ha.below hb

theorem laidVars_drop {W : World} : ∀ (n : Nat) (L : List (String × DataW Unit)) (ps : List MemPlace), DataW.LaidVars Tryd.prog W L ps → ∃ qs, DataW.LaidVars Tryd.prog W (L.drop n) qs
  | 0, L, ps, h => ⟨ps, h⟩
  | n + 1, [], ps, h => ⟨ps, h⟩
  | n + 1, (x, d) :: L, ps, h => by
    obtain ⟨_, _, _, _, _, q, _, _, _, _, hl, _⟩ := h
    exact laidVars_drop n L q hl
theorem tab_of_at {W : World} {name : String} {k : IntKind} {zs : List Int} {L rest : List (String × DataW Unit)} {i g : Nat} {t e : TypeId} {n : Nat}
    (hg : Tryd.prog.globalNamed name = some g) (hty : (Tryd.prog.globals[g]?).map (·.type) = some t) (ht : Tryd.prog.underlying t = some (.array n e)) (he : Tryd.prog.underlying e = some (.int k)) (hce : Tryd.prog.cellsOf e = 1) (hct : Tryd.prog.cellsOf t = n)
    (hd : L.drop i = (name, Lib.tabData k zs) :: rest) (h : laidMet Tryd.prog L W) : Lib.TabIs Tryd.prog W name k zs := by
  obtain ⟨ps, hl, _⟩ := h
  obtain ⟨qs, hl⟩ := laidVars_drop i L ps hl
  rw [hd] at hl
  obtain ⟨g', t', cs, fuel, p, q, hg', ht', hvar, hdd, _, _⟩ := hl
  obtain rfl := Option.some.inj (hg.symm.trans hg')
  obtain rfl := Option.some.inj (hty.symm.trans ht')
  unfold Lib.TabIs
  rw [hvar, ← Lib.cells_of_tab ht he hce hct hdd]
theorem tab_pow10 {W : World} {L rest : List (String × DataW Unit)} (i : Nat) (h : laidMet Tryd.prog L W) (hd : L.drop i = ("internal/strconv.uint64pow10", Lib.tabData .u64 Lib.pow10Tab) :: rest) : TabP W :=
  tab_of_at (t := 125) (e := 110) (n := 20) tabName (by kernel_rfl) (by kernel_rfl) (by kernel_rfl) (by kernel_rfl) (by kernel_rfl) hd h

/-- a number's decimal numeral -/
def numT (n : Int) : ByteArray := ⟨(Lib.itoa n).toArray⟩
theorem numT_bytes (n : Int) : bytesOf (numT n) = Lib.itoa n := by simp [numT, bytesOf]
theorem numT_size (n : Int) (h : I64 n) : (numT n).size ≤ 21 := by rw [← len_bytesOf, numT_bytes]; exact Lib.itoa_length_le n h.1 h.2
theorem numT_small (i : Nat) (h : i < 10) : numT i = ⟨#[UInt8.ofNat (48 + i)]⟩ := by
  unfold numT; rw [Lib.itoa_nonneg, Lib.decDigits_one h]
theorem numT_big (i : Nat) (h : ¬ i < 10) : numT i = numT (i / 10 : Nat) ++ ⟨#[UInt8.ofNat (48 + i % 10)]⟩ := by
  unfold numT; rw [Lib.itoa_nonneg, Lib.itoa_nonneg, Lib.decDigits, dif_neg h]; apply ByteArray.ext; simp [ByteArray.data_append]
theorem itoa_any (n : Int) (h : I64 n) (w : World) (hT : TabP w) : Calls Tryd.prog 92 #[.int .i64 n] w fun e w' => e = .returned (.string (numT n)) ∧ Below w.heap.size w w' := by
  refine (Any.strconv_Itoa laysItoa n h.1 h.2 w hT).mono ?_
  rintro e w' ⟨rfl, k, os, rfl⟩
  exact ⟨rfl, Lib.below_grow _ _ (Nat.le_refl _) k os⟩
theorem itoa_small (i : Nat) (h : i < 100) (w : World) : Calls Tryd.prog 92 #[.int .i64 i] w fun e w' => e = .returned (.string (numT i)) ∧ w = w' := by
  refine (Any.strconv_Itoa_small laysItoa0 i h w).mono ?_
  rintro e w' ⟨rfl, rfl⟩
  exact ⟨by rw [numT, Lib.itoa_nonneg], rfl⟩
theorem decimal_any (n : Int) (h : I64 n) (w : World) (hT : TabP w) : Calls Tryd.prog 79 #[.int .i64 n] w fun e w' => e = .returned (.string (numT n)) ∧ Below w.heap.size w w' := by
  go_enter Tryd.func79, Tryd.ntmps79
  go_wp2_with (go_at_call 92; refine (itoa_any n h _ hT).mono ?_; rintro e w2 ⟨rfl, hb2⟩)
  go_ret
  exact ⟨rfl, hb2⟩
theorem decimal_small (i : Nat) (h : i < 100) (w : World) : Calls Tryd.prog 79 #[.int .i64 i] w fun e w' => e = .returned (.string (numT i)) ∧ w = w' := by
  go_enter Tryd.func79, Tryd.ntmps79
  go_wp2_with (go_at_call 92; refine (itoa_small i h _).mono ?_; rintro e w' ⟨rfl, rfl⟩)
  go_ret
  exact ⟨rfl, rfl⟩

end Go.Proofs.YtnlhjbplpnkjbaaDoor
