/-
  The library's strconv.Itoa: its contract's ground, laid at this program; the table that its row lists. The fields were printed by lay.py.
  Conditions: those written at each theorem.
-/
import Derived.Test.YtcajnbjonilljaaDoorStr
import Derived.Shelf.Strconv.Itoa3
import Derived.Lib.LaidTab
import Derived.Lib.AppendIntMem
import Derived.Lib.ItoaLen
import Derived.WalkSmall
namespace Go.Proofs.YtcajnbjonilljaaDoor
open Go.Shelf Go.RowKit Go.BigFrame
set_option maxRecDepth 100000

def laysItoa_ren : Ren := ⟨fun x => if x = 129 then 72 else if x = 171 then 52 else if x = 243 then 57 else if x = 246 then 61 else if x = 283 then 66 else if x = 284 then 67 else if x = 285 then 68 else if x = 286 then 69 else if x = 317 then 71 else if x = 318 then 73 else if x = 319 then 74 else if x = 320 then 75 else if x = 337 then 77 else if x = 338 then 78 else 0, fun x => if x = 0 then 0 else if x = 2 then 2 else if x = 3 then 3 else if x = 4 then 4 else if x = 5 then 5 else if x = 9 then 9 else if x = 20 then 20 else if x = 37 then 50 else if x = 46 then 69 else if x = 51 then 85 else if x = 53 then 78 else if x = 171 then 77 else if x = 173 then 81 else if x = 212 then 84 else if x = 213 then 86 else if x = 232 then 90 else if x = 233 then 91 else 0, fun x => if x = 17 then 3 else if x = 18 then 4 else if x = 19 then 5 else 0⟩
theorem laysItoa0 : Lays.n171 Tryd.prog laysItoa_ren where
  mixed := by kernel_rfl
  f129 := by kernel_rfl
  f171 := by kernel_rfl
  f243 := by kernel_rfl
  f246 := by kernel_rfl
  f283 := by kernel_rfl
  f284 := by kernel_rfl
  f285 := by kernel_rfl
  f286 := by kernel_rfl
  f317 := by kernel_rfl
  f318 := by kernel_rfl
  f319 := by kernel_rfl
  f320 := by kernel_rfl
  f337 := by kernel_rfl
  f338 := by kernel_rfl
  t0 := Tryd.underlying0
  a0 := Tryd.isAgg0
  z0 := Tryd.sizeOf0
  v0 := Tryd.zeroValue0
  t2 := Tryd.underlying2
  a2 := Tryd.isAgg2
  z2 := Tryd.sizeOf2
  v2 := Tryd.zeroValue2
  t3 := Tryd.underlying3
  a3 := Tryd.isAgg3
  z3 := Tryd.sizeOf3
  v3 := Tryd.zeroValue3
  t4 := Tryd.underlying4
  a4 := Tryd.isAgg4
  z4 := Tryd.sizeOf4
  v4 := Tryd.zeroValue4
  t5 := Tryd.underlying5
  a5 := Tryd.isAgg5
  z5 := Tryd.sizeOf5
  v5 := Tryd.zeroValue5
  t9 := Tryd.underlying9
  a9 := Tryd.isAgg9
  z9 := Tryd.sizeOf9
  v9 := Tryd.zeroValue9
  t20 := Tryd.underlying20
  a20 := Tryd.isAgg20
  z20 := Tryd.sizeOf20
  v20 := Tryd.zeroValue20
  t37 := Tryd.underlying50
  a37 := Tryd.isAgg50
  z37 := Tryd.sizeOf50
  v37 := Tryd.zeroValue50
  t46 := Tryd.underlying69
  a46 := Tryd.isAgg69
  z46 := Tryd.sizeOf69
  v46 := Tryd.zeroValue69
  t51 := Tryd.underlying85
  a51 := Tryd.isAgg85
  z51 := Tryd.sizeOf85
  v51 := Tryd.zeroValue85
  t53 := Tryd.underlying78
  a53 := Tryd.isAgg78
  z53 := Tryd.sizeOf78
  v53 := Tryd.zeroValue78
  t171 := Tryd.underlying77
  a171 := Tryd.isAgg77
  z171 := Tryd.sizeOf77
  v171 := Tryd.zeroValue77
  t173 := Tryd.underlying81
  a173 := Tryd.isAgg81
  z173 := Tryd.sizeOf81
  v173 := Tryd.zeroValue81
  t212 := Tryd.underlying84
  a212 := Tryd.isAgg84
  z212 := Tryd.sizeOf84
  v212 := Tryd.zeroValue84
  t213 := Tryd.underlying86
  a213 := Tryd.isAgg86
  z213 := Tryd.sizeOf86
  t232 := Tryd.underlying90
  a232 := Tryd.isAgg90
  z232 := Tryd.sizeOf90
  v232 := Tryd.zeroValue90
  t233 := Tryd.underlying91
  a233 := Tryd.isAgg91
  z233 := Tryd.sizeOf91
  v233 := Tryd.zeroValue91
  g17 := by kernel_rfl
  g18 := by kernel_rfl
  g19 := by kernel_rfl
theorem laysItoa : LaysM.n171 Tryd.prog laysItoa_ren := { laysItoa0 with
  i0 := by kernel_rfl
  i2 := by kernel_rfl
  i3 := by kernel_rfl
  i4 := by kernel_rfl
  i5 := by kernel_rfl
  i9 := by kernel_rfl
  i20 := by kernel_rfl
  i37 := by kernel_rfl
  i46 := by kernel_rfl
  i51 := by kernel_rfl
  i53 := by kernel_rfl
  i171 := by kernel_rfl
  i173 := by kernel_rfl
  i212 := by kernel_rfl
  i232 := by kernel_rfl
  i233 := by kernel_rfl
  m17 := by kernel_rfl
  m18 := by kernel_rfl
  m19 := by kernel_rfl }

/-- the library's table of tens stands as its text lays it -/
def TabP (w : World) : Prop := Lib.TabIs Tryd.prog w "internal/strconv.uint64pow10" .u64 Lib.pow10Tab
theorem tabName : Tryd.prog.globalNamed "internal/strconv.uint64pow10" = some 3 := by kernel_rfl
theorem TabP.below {w w' : World} (h : TabP w) (hb : Below w.heap.size w w') : TabP w' := by
  have hc := Lib.TabIs.cell h tabName 0 (by decide)
  exact var?_below hb tabName (World.block_lt_of_cell? _ _ hc) h
theorem TabP.belowA {a w w' : World} (h : TabP w) (hw : Below a.heap.size w w') (ha : TabP a) (hb : Below a.heap.size a w') : TabP w' := ha.below hb

theorem laidVars_drop {W : World} : ∀ (n : Nat) (L : List (String × DataW Unit)) (ps : List MemPlace), DataW.LaidVars Tryd.prog W L ps → ∃ qs, DataW.LaidVars Tryd.prog W (L.drop n) qs
  | 0, L, ps, h => ⟨ps, h⟩
  | n + 1, [], ps, h => ⟨ps, h⟩
  | n + 1, (x, d) :: L, ps, h => by
    obtain ⟨_, _, _, _, _, q, _, _, _, _, hl, _⟩ := h
    exact laidVars_drop n L q hl
theorem tab_of_at {W : World} {name : String} {k : IntKind} {zs : List Int} {L rest : List (String × DataW Unit)} {i g : Nat} {t e : TypeId} {n : Nat}
    (hg : Tryd.prog.globalNamed name = some g) (hty : (Tryd.prog.globals[g]?).map (·.type) = some t) (ht : Tryd.prog.underlying t = some (.array n e)) (he : Tryd.prog.underlying e = some (.int k)) (hce : Tryd.prog.cellsOf e = 1) (hct : Tryd.prog.cellsOf t = n)
    (hd : L.drop i = (name, Lib.tabData k zs) :: rest) (h : laidMet Tryd.prog L W) : Lib.TabIs Tryd.prog W name k zs := by
  obtain ⟨ps, hl, _⟩ := h
  obtain ⟨qs, hl⟩ := laidVars_drop i L ps hl
  rw [hd] at hl
  obtain ⟨g', t', cs, fuel, p, q, hg', ht', hvar, hdd, _, _⟩ := hl
  obtain rfl := Option.some.inj (hg.symm.trans hg')
  obtain rfl := Option.some.inj (hty.symm.trans ht')
  unfold Lib.TabIs
  rw [hvar, ← Lib.cells_of_tab ht he hce hct hdd]
theorem tab_pow10 {W : World} {L rest : List (String × DataW Unit)} (i : Nat) (h : laidMet Tryd.prog L W) (hd : L.drop i = ("internal/strconv.uint64pow10", Lib.tabData .u64 Lib.pow10Tab) :: rest) : TabP W :=
  tab_of_at (t := 84) (e := 78) (n := 20) tabName (by kernel_rfl) (by kernel_rfl) (by kernel_rfl) (by kernel_rfl) (by kernel_rfl) hd h

/-- a number's decimal numeral -/
def numT (n : Int) : ByteArray := ⟨(Lib.itoa n).toArray⟩
theorem numT_bytes (n : Int) : bytesOf (numT n) = Lib.itoa n := by simp [numT, bytesOf]
theorem numT_size (n : Int) (h : I64 n) : (numT n).size ≤ 21 := by rw [← len_bytesOf, numT_bytes]; exact Lib.itoa_length_le n h.1 h.2
theorem numT_small (i : Nat) (h : i < 10) : numT i = ⟨#[UInt8.ofNat (48 + i)]⟩ := by
  unfold numT; rw [Lib.itoa_nonneg, Lib.decDigits_one h]
theorem numT_big (i : Nat) (h : ¬ i < 10) : numT i = numT (i / 10 : Nat) ++ ⟨#[UInt8.ofNat (48 + i % 10)]⟩ := by
  unfold numT; rw [Lib.itoa_nonneg, Lib.itoa_nonneg, Lib.decDigits, dif_neg h]; apply ByteArray.ext; simp [ByteArray.data_append]
theorem itoa_any (n : Int) (h : I64 n) (w : World) (hT : TabP w) : Calls Tryd.prog 52 #[.int .i64 n] w fun e w' => e = .returned (.string (numT n)) ∧ Below w.heap.size w w' := by
  refine (Any.strconv_Itoa laysItoa n h.1 h.2 w hT).mono ?_
  rintro e w' ⟨rfl, k, os, rfl⟩
  exact ⟨rfl, Lib.below_grow _ _ (Nat.le_refl _) k os⟩
theorem itoa_small (i : Nat) (h : i < 100) (w : World) : Calls Tryd.prog 52 #[.int .i64 i] w fun e w' => e = .returned (.string (numT i)) ∧ w = w' := by
  refine (Any.strconv_Itoa_small laysItoa0 i h w).mono ?_
  rintro e w' ⟨rfl, rfl⟩
  exact ⟨by rw [numT, Lib.itoa_nonneg], rfl⟩
theorem decimal_any (n : Int) (h : I64 n) (w : World) (hT : TabP w) : Calls Tryd.prog 41 #[.int .i64 n] w fun e w' => e = .returned (.string (numT n)) ∧ Below w.heap.size w w' := by
  go_enter Tryd.func41, Tryd.ntmps41
  go_wp2_with (go_at_call 52; refine (itoa_any n h _ hT).mono ?_; rintro e w2 ⟨rfl, hb2⟩)
  go_ret
  exact ⟨rfl, hb2⟩
theorem decimal_small (i : Nat) (h : i < 100) (w : World) : Calls Tryd.prog 41 #[.int .i64 i] w fun e w' => e = .returned (.string (numT i)) ∧ w = w' := by
  go_enter Tryd.func41, Tryd.ntmps41
  go_wp2_with (go_at_call 52; refine (itoa_small i h _).mono ?_; rintro e w' ⟨rfl, rfl⟩)
  go_ret
  exact ⟨rfl, rfl⟩

end Go.Proofs.YtcajnbjonilljaaDoor
