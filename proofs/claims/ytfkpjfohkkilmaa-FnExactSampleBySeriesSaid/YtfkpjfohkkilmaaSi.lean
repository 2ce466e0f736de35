/-
  Lists of numbers that come out: slices of the call's own. Small laws.
  Conditions: those written at each theorem.
-/
import Derived.Test.YtfkpjfohkkilmaaTyInt
import Derived.Test.YtfkpjfohkkilmaaOwn
import Derived.Test.YtfkpjfohkkilmaaBx
namespace Go.Proofs.Ytfkpjfohkkilmaa
open Go.RowKit

/-- a slice of the call's own that reads as these numbers -/
def SlI (base : Nat) (w' : World) (out : List Int) (v : Value) : Prop := ∃ A c, v = .slice A out.length c ∧ w'.ownsRow base 3 1 (.slice A out.length c) out.length (cellsI out)
theorem SlI.nil (base : Nat) (w : World) : SlI base w [] (.slice none 0 0) := ⟨none, 0, rfl, World.ownsRow_nil _ _ _ _⟩
theorem own_empty {B : Nat} (w : World) (e : TypeId) (sz : Nat) (hB : B ≤ w.heap.size) : (w.alloc (.cells #[] e)).ownsRow B e sz (.slice (some ⟨w.heap.size, 0, none⟩) 0 0) 0 [] :=
  World.ownsRow_lit w #[] 0 hB (Nat.zero_le _) (by simp)
theorem one_cellsI (l : List Int) : ∀ u ∈ cellsI l, u.oneCell' = true := by
  intro u hu
  obtain ⟨x, _, rfl⟩ := List.mem_map.1 hu
  simp [Value.oneCell']
theorem own_far {w : World} {base : Nat} {e : TypeId} {sz n c g : Nat} {A : Option Addr} {xs : List Value} (h : w.ownsRow base e sz (.slice A n c) n xs) (hg : g < base) : some g ≠ (Value.slice A n c).ownBlock :=
  fun he => by have := (h.lt g he.symm).1; omega
theorem Rd.grown {w w' : World} {sz n g o : Nat} {xs : List Value} {k : Option Nat} (h : Rd w sz (some ⟨g, o, none⟩) n xs) (hg : w.grownBy w' k) (hne : some g ≠ k) : Rd w' sz (some ⟨g, o, none⟩) n xs :=
  ⟨h.1, fun hn => by
    obtain ⟨b, o', hb, hlt, hc⟩ := h.2 hn
    cases hb
    exact ⟨g, o, rfl, Nat.lt_of_lt_of_le hlt hg.size, fun j u hu => (World.cell?_of_block (a := ⟨g, o + j, none⟩) (hg.block g hlt hne)).trans (hc j u hu)⟩⟩
theorem Box.BX {w : World} {g : Nat} {vs : List Value} (h : Go.Proofs.Ytfkpjfohkkilmaa.BX w g vs) : Box w g vs := ⟨h.lt, fun i v hv => h.cell i v hv⟩
theorem BX.rd {w : World} {g : Nat} {vs : List Value} (h : Go.Proofs.Ytfkpjfohkkilmaa.BX w g vs) : Rd w 1 (some ⟨g, 0, none⟩) vs.length vs :=
  ⟨by simp, fun _ => ⟨g, 0, rfl, h.lt, fun j u hu => by rw [Nat.zero_add]; exact h.cell j u hu⟩⟩
theorem BX.rd1 {w : World} {g : Nat} {v : Value} (h : Go.Proofs.Ytfkpjfohkkilmaa.BX w g [v]) : Rd w 1 (some ⟨g, 0, none⟩) 1 [v] := h.rd
theorem BXT.four {t : TypeId} {w : World} {g : Nat} {a b c d : Value} (h : BXT t w g [a, b, c, d]) : w.cell? ⟨g, 0, none⟩ = some a ∧ w.cell? ⟨g, 1, none⟩ = some b ∧ w.cell? ⟨g, 2, none⟩ = some c ∧ w.cell? ⟨g, 3, none⟩ = some d :=
  ⟨h.bx.cell 0 _ rfl, h.bx.cell 1 _ rfl, h.bx.cell 2 _ rfl, h.bx.cell 3 _ rfl⟩
theorem BXT.six {t : TypeId} {w : World} {g : Nat} {a b c d e f : Value} (h : BXT t w g [a, b, c, d, e, f]) : w.cell? ⟨g, 0, none⟩ = some a ∧ w.cell? ⟨g, 1, none⟩ = some b ∧ w.cell? ⟨g, 2, none⟩ = some c ∧ w.cell? ⟨g, 3, none⟩ = some d ∧ w.cell? ⟨g, 4, none⟩ = some e ∧ w.cell? ⟨g, 5, none⟩ = some f :=
  ⟨h.bx.cell 0 _ rfl, h.bx.cell 1 _ rfl, h.bx.cell 2 _ rfl, h.bx.cell 3 _ rfl, h.bx.cell 4 _ rfl, h.bx.cell 5 _ rfl⟩
theorem BXT.box {t : TypeId} {w : World} {g : Nat} {vs : List Value} (h : BXT t w g vs) : Box w g vs := ⟨h.bx.lt, fun i v hv => h.bx.cell i v hv⟩
theorem cell_push {w w4 : World} {o : Obj} {k : Option Nat} {b off : Nat} {v : Value} (hg : (w.alloc o).grownBy w4 k) (hb : b < w.heap.size) (hne : some b ≠ k) (h : w.cell? ⟨b, off, none⟩ = some v) : w4.cell? ⟨b, off, none⟩ = some v :=
  (World.cell?_of_block (a := ⟨b, off, none⟩) ((hg.block b (by simp; omega) hne).trans (Below.heap_alloc w o b hb))).trans h
theorem below_ofD {w w' : World} (h : Below w.drew.heap.size w.drew w') : Below w.heap.size w w' := below_ofDrew (a := w) h
theorem below_D {B : Nat} {a w : World} (h : Below B a w) : Below B a w.drew := h.drew
/-- 'append(s, x)': the new element's block by another spelling of its number -/
theorem wpList_pushG {P : Program} {wr : World} {ops : Array Oper} {rest : List Oper} {o : Oper} {a : Act} {Q : Exit → Act → World → Prop} (hgd : o.guard = none) (s x : Operand) (t : TypeId)
    (ho : o.op = .call { callee := .builtin .append, args := #[s, x], argTypes := #[t, t] })
    (base : Nat) (e : TypeId) (i : TypeInfo) (z : Value) (size bytes : Nat) (ht : P.underlying t = some (.slice e)) (hi : P.info? e = some i) (hz : i.zero = some z)
    (hsize : i.size = size) (hby : i.bytes = bytes) (hzs : z.cells.size = size) (hsz : 0 < size) (hbb : bytes ≤ 64)
    (A : Option Addr) (n c : Nat) (xs : List Value) (hs : a.eval s = .slice A n c) (hown : wr.ownsRow base e size (.slice A n c) n xs)
    (cs : Array Value) (c1 H : Nat) (hx : a.eval x = .slice (some ⟨H, 0, none⟩) 1 c1) (hH : wr.heap.size = H) (hl : cs.size = size) (h1 : ∀ u ∈ cs.toList, u.oneCell' = true)
    (hn : n ≤ 1000000000) (hbase : base ≤ wr.heap.size)
    (h : ∀ (A' : Option Addr) (c' : Nat) (w' : World), w'.ownsRow base e size (.slice A' (n + 1) c') (n + 1) (xs ++ cs.toList) → wr.grownBy w' (Value.slice A n c).ownBlock → ((Value.slice A' (n + 1) c').ownBlock = (Value.slice A n c).ownBlock ∨ (Value.slice A' (n + 1) c').ownBlock = some (wr.heap.size + 1)) → wpList P ops Q rest (a.put o.dst (.slice A' (n + 1) c')) w') :
    wpList P ops Q (o :: rest) a (wr.alloc (.cells cs e)) := by
  subst hH
  exact wpList_push' hgd s x t ho base e i z size bytes ht hi hz hsize hby hzs hsz hbb A n c xs hs hown cs c1 hx hl h1 hn hbase h
/-- the same, the length that comes out named -/
theorem step_appendT {P : Program} {w : World} {ops : Array Oper} {o : Oper} {a : Act} {K : Act → World → Prop} {Q : Exit → Act → World → Prop} {E : Prop} (hgd : o.guard = none) (s x : Operand) (t : TypeId)
    (ho : o.op = Op.call { callee := Callee.builtin Builtin.append, args := #[s, x], argTypes := #[t, t] })
    (base : Nat) (e : TypeId) (i : TypeInfo) (z : Value) (size bytes : Nat) (ht : P.underlying t = some (.slice e)) (hi : P.info? e = some i) (hz : i.zero = some z)
    (hsize : i.size = size) (hby : i.bytes = bytes) (hzs : z.cells.size = size) (hsz : 0 < size) (hbb : bytes ≤ 64)
    (A : Option Addr) (n c : Nat) (xs : List Value) (hs : a.eval s = .slice A n c)
    (B : Option Addr) (m d : Nat) (ys : List Value) (hx : a.eval x = .slice B m d) (tot : Nat) (htot : n + m = tot)
    (hown : w.ownsRow base e size (.slice A n c) n xs) (hrd : Rd w size B m ys) (hbase : base ≤ w.heap.size)
    (hd : B = none → d = 0) (h1 : ∀ u ∈ ys, u.oneCell' = true) (hn : tot ≤ 1000000000)
    (h : ∀ (A' : Option Addr) (c' : Nat) (w' : World), w'.ownsRow base e size (.slice A' tot c') tot (xs ++ ys) → w.grownBy w' (Value.slice A n c).ownBlock → ((Value.slice A' tot c').ownBlock = (Value.slice A n c).ownBlock ∨ (Value.slice A' tot c').ownBlock = some w.heap.size) → K (a.put o.dst (.slice A' tot c')) w') :
    if Region.wanted o (yielded ops a.tmps) = true then Oper.wp P o a w K Q else E := by
  subst htot
  exact step_appendMany' hgd s x t ho base e i z size bytes ht hi hz hsize hby hzs hsz hbb A n c xs hs hown B m d ys hx hrd hd h1 hn hbase h

theorem own_some {w : World} {base : Nat} {e : TypeId} {sz n c : Nat} {A : Option Addr} {xs : List Value} (h : w.ownsRow base e sz (.slice A n c) n xs) (hn : 0 < n) : ∃ g, A = some ⟨g, 0, none⟩ := by
  rcases h.2 with ⟨_, h0⟩ | ⟨g, cap, cur, hv, _⟩
  · omega
  · cases hv; exact ⟨g, rfl⟩
theorem drew_size (w : World) : w.drew.heap.size = w.heap.size := rfl

end Go.Proofs.Ytfkpjfohkkilmaa
