/-
  One more element at the end of a slice of the call's own; slices of the call's own, copied. Laws for the walk.
  Conditions: those written at each theorem.
-/
import Derived.Test.YtfkpjfohkkilmaaBase
import Derived.OwnWalk
import Derived.Maps.AppendAt
namespace Go.Proofs.Ytfkpjfohkkilmaa
open Go.RowKit

/-- what has been written lies from base on: below it all is as it was -/
theorem Below.row {B base : Nat} {a w w' : World} {e : TypeId} {sz n : Nat} {v : Value} {xs : List Value} (h : Below B a w) (hown : w.ownsRow base e sz v n xs) (hg : w.grownBy w' v.ownBlock) (hB : B ≤ base) (hs : B ≤ w.heap.size) : Below B a w' :=
  h.grown hg hs fun k hk => Nat.le_trans hB (hown.lt k hk).1

theorem own_form {w : World} {base : Nat} {e : TypeId} {sz n : Nat} {v : Value} {xs : List Value} (h : w.ownsRow base e sz v n xs) : ∃ A c, v = .slice A n c := by
  rcases h.2 with ⟨rfl, rfl⟩ | ⟨g, cap, cur, rfl, _⟩
  · exact ⟨_, _, rfl⟩
  · exact ⟨_, _, rfl⟩

theorem wpList_push {P : Program} {wr : World} {ops : Array Oper} {rest : List Oper} {o : Oper} {a : Act} {Q : Exit → Act → World → Prop} (hgd : o.guard = none) (s x : Operand) (t : TypeId)
    (ho : o.op = .call { callee := .builtin .append, args := #[s, x], argTypes := #[t, t] })
    (base : Nat) (e : TypeId) (i : TypeInfo) (z : Value) (size bytes : Nat) (ht : P.underlying t = some (.slice e)) (hi : P.info? e = some i) (hz : i.zero = some z)
    (hsize : i.size = size) (hby : i.bytes = bytes) (hzs : z.cells.size = size) (hsz : 0 < size) (hbb : bytes ≤ 64)
    (A : Option Addr) (n c : Nat) (xs : List Value) (hs : a.eval s = .slice A n c) (hown : wr.ownsRow base e size (.slice A n c) n xs)
    (cs : Array Value) (c1 : Nat) (hx : a.eval x = .slice (some ⟨wr.heap.size, 0, none⟩) 1 c1) (hl : cs.size = size) (h1 : ∀ u ∈ cs.toList, u.oneCell' = true)
    (hn : n ≤ 1000000000) (hbase : base ≤ wr.heap.size)
    (h : ∀ (A' : Option Addr) (c' : Nat) (w' : World), w'.ownsRow base e size (.slice A' (n + 1) c') (n + 1) (xs ++ cs.toList) → wr.grownBy w' (Value.slice A n c).ownBlock → wpList P ops Q rest (a.put o.dst (.slice A' (n + 1) c')) w') :
    wpList P ops Q (o :: rest) a (wr.alloc (.cells cs e)) := by
  refine wpList_append_own _ hgd s x t ho base e i z size bytes ht hi hz hsize hby hzs hsz _ n xs hs (hown.alloc _) ⟨wr.heap.size, 0, none⟩ 1 c1 cs.toList hx (by simpa using hl) ?_ h1 (by unfold maxLen; omega) (Nat.le_trans (Nat.mul_le_mul (show n + 1 ≤ 1000000001 by omega) hbb) (by omega)) (by simp; omega) ?_
  · intro j u hu
    rw [Addr.add_lit, Nat.zero_add, cell_of_row _ wr.heap.size j cs e (0, 0) (heap_alloc_new wr _)]
    simpa using hu
  · intro v' w' hown' hg _
    obtain ⟨A', c', rfl⟩ := own_form hown'
    refine h A' c' w' hown' ?_
    exact ⟨hg.os, hg.tape, hg.output, Nat.le_trans (by simp) hg.size, fun k hk hne => (hg.block k (by simp; omega) hne).trans (Below.heap_alloc wr _ k hk)⟩

theorem wpList_push' {P : Program} {wr : World} {ops : Array Oper} {rest : List Oper} {o : Oper} {a : Act} {Q : Exit → Act → World → Prop} (hgd : o.guard = none) (s x : Operand) (t : TypeId)
    (ho : o.op = .call { callee := .builtin .append, args := #[s, x], argTypes := #[t, t] })
    (base : Nat) (e : TypeId) (i : TypeInfo) (z : Value) (size bytes : Nat) (ht : P.underlying t = some (.slice e)) (hi : P.info? e = some i) (hz : i.zero = some z)
    (hsize : i.size = size) (hby : i.bytes = bytes) (hzs : z.cells.size = size) (hsz : 0 < size) (hbb : bytes ≤ 64)
    (A : Option Addr) (n c : Nat) (xs : List Value) (hs : a.eval s = .slice A n c) (hown : wr.ownsRow base e size (.slice A n c) n xs)
    (cs : Array Value) (c1 : Nat) (hx : a.eval x = .slice (some ⟨wr.heap.size, 0, none⟩) 1 c1) (hl : cs.size = size) (h1 : ∀ u ∈ cs.toList, u.oneCell' = true)
    (hn : n ≤ 1000000000) (hbase : base ≤ wr.heap.size)
    (h : ∀ (A' : Option Addr) (c' : Nat) (w' : World), w'.ownsRow base e size (.slice A' (n + 1) c') (n + 1) (xs ++ cs.toList) → wr.grownBy w' (Value.slice A n c).ownBlock → ((Value.slice A' (n + 1) c').ownBlock = (Value.slice A n c).ownBlock ∨ (Value.slice A' (n + 1) c').ownBlock = some (wr.heap.size + 1)) → wpList P ops Q rest (a.put o.dst (.slice A' (n + 1) c')) w') :
    wpList P ops Q (o :: rest) a (wr.alloc (.cells cs e)) := by
  refine wpList_append_own_at _ hgd s x t ho base e i z size bytes ht hi hz hsize hby hzs hsz _ n xs hs (hown.alloc _) ⟨wr.heap.size, 0, none⟩ 1 c1 cs.toList hx (by simpa using hl) ?_ h1 (by unfold maxLen; omega) (Nat.le_trans (Nat.mul_le_mul (show n + 1 ≤ 1000000001 by omega) hbb) (by omega)) (by simp; omega) ?_
  · intro j u hu
    rw [Addr.add_lit, Nat.zero_add, cell_of_row _ wr.heap.size j cs e (0, 0) (heap_alloc_new wr _)]
    simpa using hu
  · intro v' w' hown' hg _ hpl
    obtain ⟨A', c', rfl⟩ := own_form hown'
    refine h A' c' w' hown' ?_ (by simpa using hpl)
    exact ⟨hg.os, hg.tape, hg.output, Nat.le_trans (by simp) hg.size, fun k hk hne => (hg.block k (by simp; omega) hne).trans (Below.heap_alloc wr _ k hk)⟩

/-- two slices of the call's own, the second made later: other blocks -/
theorem own_ne {w1 w2 : World} {B1 B2 : Nat} {e1 e2 : TypeId} {s1 s2 n1 n2 : Nat} {v1 v2 : Value} {x1 x2 : List Value} (h1 : w1.ownsRow B1 e1 s1 v1 n1 x1) (h2 : w2.ownsRow B2 e2 s2 v2 n2 x2) (hs : w1.heap.size ≤ B2) :
    v1.ownBlock = none ∨ v1.ownBlock ≠ v2.ownBlock := by
  cases hv : v1.ownBlock with
  | none => exact .inl rfl
  | some k =>
    refine .inr fun he => ?_
    have := (h1.lt k hv).2
    have := (h2.lt k he.symm).1
    omega
theorem own_ne' {w1 w2 : World} {B1 B2 : Nat} {e1 e2 : TypeId} {s1 s2 n1 n2 : Nat} {v1 v2 : Value} {x1 x2 : List Value} (h1 : w1.ownsRow B1 e1 s1 v1 n1 x1) (h2 : w2.ownsRow B2 e2 s2 v2 n2 x2) (hs : w1.heap.size ≤ B2) :
    v2.ownBlock = none ∨ v2.ownBlock ≠ v1.ownBlock := by
  cases hv : v2.ownBlock with
  | none => exact .inl rfl
  | some k =>
    refine .inr fun he => ?_
    have := (h1.lt k he.symm).2
    have := (h2.lt k hv).1
    omega

/-- a slice of the call's own with n elements -/
def Sl (e : TypeId) (sz : Nat) (base : Nat) (w : World) (n : Nat) (cells : List Value) (v : Value) : Prop :=
  ∃ (A : Option Addr) (c : Nat), v = .slice A n c ∧ w.ownsRow base e sz (.slice A n c) n cells
theorem Sl.nil (e : TypeId) (sz base : Nat) (w : World) : Sl e sz base w 0 [] (.slice none 0 0) := ⟨none, 0, rfl, World.ownsRow_nil _ _ _ _⟩


/-- 'append(s, xs...)': a slice of the call's own takes what another slice reads as -/
theorem wpList_appendMany {P : Program} (w : World) {ops : Array Oper} {rest : List Oper} {o : Oper} {a : Act} {Q : Exit → Act → World → Prop} (hgd : o.guard = none) (s x : Operand) (t : TypeId)
    (ho : o.op = .call { callee := .builtin .append, args := #[s, x], argTypes := #[t, t] })
    (base : Nat) (e : TypeId) (i : TypeInfo) (z : Value) (size bytes : Nat) (ht : P.underlying t = some (.slice e)) (hi : P.info? e = some i) (hz : i.zero = some z)
    (hsize : i.size = size) (hby : i.bytes = bytes) (hzs : z.cells.size = size) (hsz : 0 < size) (hbb : bytes ≤ 64)
    (A : Option Addr) (n c : Nat) (xs : List Value) (hs : a.eval s = .slice A n c) (hown : w.ownsRow base e size (.slice A n c) n xs)
    (B : Option Addr) (m d : Nat) (ys : List Value) (hx : a.eval x = .slice B m d) (hrd : Rd w size B m ys) (hd : B = none → d = 0) (h1 : ∀ u ∈ ys, u.oneCell' = true)
    (hn : n + m ≤ 1000000000) (hbase : base ≤ w.heap.size)
    (h : ∀ (A' : Option Addr) (c' : Nat) (w' : World), w'.ownsRow base e size (.slice A' (n + m) c') (n + m) (xs ++ ys) → w.grownBy w' (Value.slice A n c).ownBlock → wpList P ops Q rest (a.put o.dst (.slice A' (n + m) c')) w') :
    wpList P ops Q (o :: rest) a w := by
  cases B with
  | none =>
    have hm : m = 0 := by
      rcases Nat.eq_zero_or_pos m with h0 | h0
      · exact h0
      · obtain ⟨b, o', hbad, _⟩ := hrd.2 h0; cases hbad
    subst hm
    have hd0 := hd rfl
    subst hd0
    have hy : ys = [] := by have := hrd.1; simpa using this
    subst hy
    refine wpList_plain hgd fun K hK => ?_
    have hr := run_append_owned_none (P := P) w base t o.type e i size ht hi (.slice A n c) n xs hown
    unfold Oper.wp execOp
    simp only [ho, resolve, invoke, builtin, Sem.run_bind, Sem.run_pure, Result.andThen_ok, List.map_toArray, List.map_cons, List.map_nil, hs, hx, hr]
    exact hK _ _ (h A c w (by simpa using hown) (World.grownBy.refl _ _))
  | some ad =>
    by_cases hm : 0 < m
    · obtain ⟨b, o', hbo, hlt, hcell⟩ := hrd.2 hm
      cases hbo
      refine wpList_append_own w hgd s x t ho base e i z size bytes ht hi hz hsize hby hzs hsz _ n xs hs hown ⟨b, o', none⟩ m d ys hx hrd.1 (fun j u hu => by rw [Addr.add_lit]; exact hcell j u hu) h1 (by unfold maxLen; omega) (Nat.le_trans (Nat.mul_le_mul (show n + m ≤ 1000000001 by omega) hbb) (by omega)) hbase ?_
      intro v' w' hown' hg _
      obtain ⟨A', c', rfl⟩ := own_form hown'
      exact h A' c' w' hown' hg
    · have hm0 : m = 0 := by omega
      subst hm0
      have hy : ys = [] := by have := hrd.1; simpa using this
      subst hy
      refine wpList_append_own w hgd s x t ho base e i z size bytes ht hi hz hsize hby hzs hsz _ n xs hs hown ad 0 d [] hx (by simp) (fun j u hu => by simp at hu) h1 (by unfold maxLen; omega) (Nat.le_trans (Nat.mul_le_mul (show n + 0 ≤ 1000000001 by omega) hbb) (by omega)) hbase ?_
      intro v' w' hown' hg _
      obtain ⟨A', c', rfl⟩ := own_form hown'
      exact h A' c' w' hown' hg

/-- the same as one step of a region that draws -/
theorem step_appendMany {P : Program} {w : World} {ops : Array Oper} {o : Oper} {a : Act} {K : Act → World → Prop} {Q : Exit → Act → World → Prop} {E : Prop} (hgd : o.guard = none) (s x : Operand) (t : TypeId)
    (ho : o.op = Op.call { callee := Callee.builtin Builtin.append, args := #[s, x], argTypes := #[t, t] })
    (base : Nat) (e : TypeId) (i : TypeInfo) (z : Value) (size bytes : Nat) (ht : P.underlying t = some (.slice e)) (hi : P.info? e = some i) (hz : i.zero = some z)
    (hsize : i.size = size) (hby : i.bytes = bytes) (hzs : z.cells.size = size) (hsz : 0 < size) (hbb : bytes ≤ 64)
    (A : Option Addr) (n c : Nat) (xs : List Value) (hs : a.eval s = .slice A n c) (hown : w.ownsRow base e size (.slice A n c) n xs)
    (B : Option Addr) (m d : Nat) (ys : List Value) (hx : a.eval x = .slice B m d) (hrd : Rd w size B m ys) (hd : B = none → d = 0) (h1 : ∀ u ∈ ys, u.oneCell' = true)
    (hn : n + m ≤ 1000000000) (hbase : base ≤ w.heap.size)
    (h : ∀ (A' : Option Addr) (c' : Nat) (w' : World), w'.ownsRow base e size (.slice A' (n + m) c') (n + m) (xs ++ ys) → w.grownBy w' (Value.slice A n c).ownBlock → K (a.put o.dst (.slice A' (n + m) c')) w') :
    if Region.wanted o (yielded ops a.tmps) = true then Oper.wp P o a w K Q else E := by
  have hw : Region.wanted o (yielded ops a.tmps) = true := by simp [Region.wanted, hgd]
  rw [if_pos hw]
  cases B with
  | none =>
    have hm : m = 0 := by
      rcases Nat.eq_zero_or_pos m with h0 | h0
      · exact h0
      · obtain ⟨b, o', hbad, _⟩ := hrd.2 h0; cases hbad
    subst hm
    have hd0 := hd rfl
    subst hd0
    have hy : ys = [] := by have := hrd.1; simpa using this
    subst hy
    have hr := run_append_owned_none (P := P) w base t o.type e i size ht hi (.slice A n c) n xs hown
    unfold Oper.wp
    simp [execOp, ho, resolve, invoke, builtin, hs, hx, hr, Result.andThen]
    exact h A c w (by simpa using hown) (World.grownBy.refl _ _)
  | some ad =>
    by_cases hm : 0 < m
    · obtain ⟨b, o', hbo, hlt, hcell⟩ := hrd.2 hm
      cases hbo
      obtain ⟨v', w', hr, r1, r2, _⟩ := run_append_own (P := P) w base t o.type e i z size bytes ht hi hz hsize hby hzs hsz (.slice A n c) n xs hown ⟨b, o', none⟩ m d ys hrd.1 (fun j u hu => by rw [Addr.add_lit]; exact hcell j u hu) h1 (by unfold maxLen; omega) (Nat.le_trans (Nat.mul_le_mul (show n + m ≤ 1000000001 by omega) hbb) (by omega)) hbase
      obtain ⟨A', c', rfl⟩ := own_form r1
      unfold Oper.wp
      simp [execOp, ho, resolve, invoke, builtin, hs, hx, hr, Result.andThen]
      exact h A' c' w' r1 r2
    · have hm0 : m = 0 := by omega
      subst hm0
      have hy : ys = [] := by have := hrd.1; simpa using this
      subst hy
      obtain ⟨v', w', hr, r1, r2, _⟩ := run_append_own (P := P) w base t o.type e i z size bytes ht hi hz hsize hby hzs hsz (.slice A n c) n xs hown ad 0 d [] (by simp) (fun j u hu => by simp at hu) h1 (by unfold maxLen; omega) (Nat.le_trans (Nat.mul_le_mul (show n + 0 ≤ 1000000001 by omega) hbb) (by omega)) hbase
      obtain ⟨A', c', rfl⟩ := own_form r1
      unfold Oper.wp
      simp [execOp, ho, resolve, invoke, builtin, hs, hx, hr, Result.andThen]
      exact h A' c' w' r1 r2

/-- 'append(s, xs...)': a slice of the call's own takes what another slice reads as -/
theorem wpList_appendMany' {P : Program} (w : World) {ops : Array Oper} {rest : List Oper} {o : Oper} {a : Act} {Q : Exit → Act → World → Prop} (hgd : o.guard = none) (s x : Operand) (t : TypeId)
    (ho : o.op = .call { callee := .builtin .append, args := #[s, x], argTypes := #[t, t] })
    (base : Nat) (e : TypeId) (i : TypeInfo) (z : Value) (size bytes : Nat) (ht : P.underlying t = some (.slice e)) (hi : P.info? e = some i) (hz : i.zero = some z)
    (hsize : i.size = size) (hby : i.bytes = bytes) (hzs : z.cells.size = size) (hsz : 0 < size) (hbb : bytes ≤ 64)
    (A : Option Addr) (n c : Nat) (xs : List Value) (hs : a.eval s = .slice A n c) (hown : w.ownsRow base e size (.slice A n c) n xs)
    (B : Option Addr) (m d : Nat) (ys : List Value) (hx : a.eval x = .slice B m d) (hrd : Rd w size B m ys) (hd : B = none → d = 0) (h1 : ∀ u ∈ ys, u.oneCell' = true)
    (hn : n + m ≤ 1000000000) (hbase : base ≤ w.heap.size)
    (h : ∀ (A' : Option Addr) (c' : Nat) (w' : World), w'.ownsRow base e size (.slice A' (n + m) c') (n + m) (xs ++ ys) → w.grownBy w' (Value.slice A n c).ownBlock → ((Value.slice A' (n + m) c').ownBlock = (Value.slice A n c).ownBlock ∨ (Value.slice A' (n + m) c').ownBlock = some w.heap.size) → wpList P ops Q rest (a.put o.dst (.slice A' (n + m) c')) w') :
    wpList P ops Q (o :: rest) a w := by
  cases B with
  | none =>
    have hm : m = 0 := by
      rcases Nat.eq_zero_or_pos m with h0 | h0
      · exact h0
      · obtain ⟨b, o', hbad, _⟩ := hrd.2 h0; cases hbad
    subst hm
    have hd0 := hd rfl
    subst hd0
    have hy : ys = [] := by have := hrd.1; simpa using this
    subst hy
    refine wpList_plain hgd fun K hK => ?_
    have hr := run_append_owned_none (P := P) w base t o.type e i size ht hi (.slice A n c) n xs hown
    unfold Oper.wp execOp
    simp only [ho, resolve, invoke, builtin, Sem.run_bind, Sem.run_pure, Result.andThen_ok, List.map_toArray, List.map_cons, List.map_nil, hs, hx, hr]
    exact hK _ _ (h A c w (by simpa using hown) (World.grownBy.refl _ _) (.inl rfl))
  | some ad =>
    by_cases hm : 0 < m
    · obtain ⟨b, o', hbo, hlt, hcell⟩ := hrd.2 hm
      cases hbo
      refine wpList_append_own_at w hgd s x t ho base e i z size bytes ht hi hz hsize hby hzs hsz _ n xs hs hown ⟨b, o', none⟩ m d ys hx hrd.1 (fun j u hu => by rw [Addr.add_lit]; exact hcell j u hu) h1 (by unfold maxLen; omega) (Nat.le_trans (Nat.mul_le_mul (show n + m ≤ 1000000001 by omega) hbb) (by omega)) hbase ?_
      intro v' w' hown' hg _ hpl
      obtain ⟨A', c', rfl⟩ := own_form hown'
      exact h A' c' w' hown' hg hpl
    · have hm0 : m = 0 := by omega
      subst hm0
      have hy : ys = [] := by have := hrd.1; simpa using this
      subst hy
      refine wpList_append_own_at w hgd s x t ho base e i z size bytes ht hi hz hsize hby hzs hsz _ n xs hs hown ad 0 d [] hx (by simp) (fun j u hu => by simp at hu) h1 (by unfold maxLen; omega) (Nat.le_trans (Nat.mul_le_mul (show n + 0 ≤ 1000000001 by omega) hbb) (by omega)) hbase ?_
      intro v' w' hown' hg _ hpl
      obtain ⟨A', c', rfl⟩ := own_form hown'
      exact h A' c' w' hown' hg hpl

/-- the same as one step of a region that draws -/
theorem step_appendMany' {P : Program} {w : World} {ops : Array Oper} {o : Oper} {a : Act} {K : Act → World → Prop} {Q : Exit → Act → World → Prop} {E : Prop} (hgd : o.guard = none) (s x : Operand) (t : TypeId)
    (ho : o.op = Op.call { callee := Callee.builtin Builtin.append, args := #[s, x], argTypes := #[t, t] })
    (base : Nat) (e : TypeId) (i : TypeInfo) (z : Value) (size bytes : Nat) (ht : P.underlying t = some (.slice e)) (hi : P.info? e = some i) (hz : i.zero = some z)
    (hsize : i.size = size) (hby : i.bytes = bytes) (hzs : z.cells.size = size) (hsz : 0 < size) (hbb : bytes ≤ 64)
    (A : Option Addr) (n c : Nat) (xs : List Value) (hs : a.eval s = .slice A n c) (hown : w.ownsRow base e size (.slice A n c) n xs)
    (B : Option Addr) (m d : Nat) (ys : List Value) (hx : a.eval x = .slice B m d) (hrd : Rd w size B m ys) (hd : B = none → d = 0) (h1 : ∀ u ∈ ys, u.oneCell' = true)
    (hn : n + m ≤ 1000000000) (hbase : base ≤ w.heap.size)
    (h : ∀ (A' : Option Addr) (c' : Nat) (w' : World), w'.ownsRow base e size (.slice A' (n + m) c') (n + m) (xs ++ ys) → w.grownBy w' (Value.slice A n c).ownBlock → ((Value.slice A' (n + m) c').ownBlock = (Value.slice A n c).ownBlock ∨ (Value.slice A' (n + m) c').ownBlock = some w.heap.size) → K (a.put o.dst (.slice A' (n + m) c')) w') :
    if Region.wanted o (yielded ops a.tmps) = true then Oper.wp P o a w K Q else E := by
  have hw : Region.wanted o (yielded ops a.tmps) = true := by simp [Region.wanted, hgd]
  rw [if_pos hw]
  cases B with
  | none =>
    have hm : m = 0 := by
      rcases Nat.eq_zero_or_pos m with h0 | h0
      · exact h0
      · obtain ⟨b, o', hbad, _⟩ := hrd.2 h0; cases hbad
    subst hm
    have hd0 := hd rfl
    subst hd0
    have hy : ys = [] := by have := hrd.1; simpa using this
    subst hy
    have hr := run_append_owned_none (P := P) w base t o.type e i size ht hi (.slice A n c) n xs hown
    unfold Oper.wp
    simp [execOp, ho, resolve, invoke, builtin, hs, hx, hr, Result.andThen]
    exact h A c w (by simpa using hown) (World.grownBy.refl _ _) (.inl rfl)
  | some ad =>
    by_cases hm : 0 < m
    · obtain ⟨b, o', hbo, hlt, hcell⟩ := hrd.2 hm
      cases hbo
      obtain ⟨v', w', hr, r1, r2, _, r4⟩ := run_append_own_at (P := P) w base t o.type e i z size bytes ht hi hz hsize hby hzs hsz (.slice A n c) n xs hown ⟨b, o', none⟩ m d ys hrd.1 (fun j u hu => by rw [Addr.add_lit]; exact hcell j u hu) h1 (by unfold maxLen; omega) (Nat.le_trans (Nat.mul_le_mul (show n + m ≤ 1000000001 by omega) hbb) (by omega)) hbase
      obtain ⟨A', c', rfl⟩ := own_form r1
      unfold Oper.wp
      simp [execOp, ho, resolve, invoke, builtin, hs, hx, hr, Result.andThen]
      exact h A' c' w' r1 r2 r4
    · have hm0 : m = 0 := by omega
      subst hm0
      have hy : ys = [] := by have := hrd.1; simpa using this
      subst hy
      obtain ⟨v', w', hr, r1, r2, _, r4⟩ := run_append_own_at (P := P) w base t o.type e i z size bytes ht hi hz hsize hby hzs hsz (.slice A n c) n xs hown ad 0 d [] (by simp) (fun j u hu => by simp at hu) h1 (by unfold maxLen; omega) (Nat.le_trans (Nat.mul_le_mul (show n + 0 ≤ 1000000001 by omega) hbb) (by omega)) hbase
      obtain ⟨A', c', rfl⟩ := own_form r1
      unfold Oper.wp
      simp [execOp, ho, resolve, invoke, builtin, hs, hx, hr, Result.andThen]
      exact h A' c' w' r1 r2 r4

end Go.Proofs.Ytfkpjfohkkilmaa
