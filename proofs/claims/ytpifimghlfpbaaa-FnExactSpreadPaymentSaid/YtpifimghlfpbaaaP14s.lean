/-
  Worlds that have grown and drawn, no more (Gx); the fee, what is open, and the comparison of two bills, said so.
  Conditions: those written at each theorem.
-/
import Derived.Test.YtpifimghlfpbaaaP14h
namespace Go.Proofs.Ytpifimghlfpbaaa
open Go.RowKit Go.BigFrame
set_option maxRecDepth 100000

/-- w' is w with draws and blocks of its own behind -/
def Gx (w w' : World) : Prop := Below w.heap.size w w' ∧ w.drawn ≤ w'.drawn
theorem Gx.refl (w : World) : Gx w w := ⟨Below.refl _ _, Nat.le_refl _⟩
theorem Gx.trans {a b c : World} (h : Gx a b) (k : Gx b c) : Gx a c := ⟨h.1.trans (k.1.mono h.1.size), Nat.le_trans h.2 k.2⟩
theorem Gx.alloc {w w' : World} (h : Gx w w') (o : Obj) : Gx w (w'.alloc o) := ⟨h.1.alloc h.1.size o, h.2⟩
theorem Gx.drew {w w' : World} (h : Gx w w') : Gx w w'.drew := ⟨h.1.drew, Nat.le_succ_of_le h.2⟩
theorem Gx.drewN {w w' : World} (h : Gx w w') (n : Nat) : Gx w (w'.drewN n) := ⟨⟨h.1.os, h.1.tape, h.1.output, h.1.size, h.1.block⟩, Nat.le_trans h.2 (Nat.le_add_right _ _)⟩
def GX (w : World) : Type := {W : World // Gx w W}
instance (w : World) : Nonempty (GX w) := ⟨⟨w, Gx.refl _⟩⟩
def GX.w {w : World} (s : GX w) : World := s.1
theorem GX.gx {w : World} (s : GX w) : Gx w s.w := s.2
theorem wp_region_gx {P : Program} {id : Nat} {Q : Exit → Act → World → Prop} {a : Act} {w : World} {l : List Oper} (hm : P.follows .mixedOrders = true) (hB : Region.lexB .any l.toArray = true)
    (h : wpQuiet P l.toArray (fun W => ∃ s : GX w, W = s.w) (fun a' => ∀ W, (∃ s : GX w, W = s.w) → Q .normal a' W) l a) : (Code.region id l.toArray true).wp P Q a w :=
  wp_region_quiet (C := fun W => ∃ s : GX w, W = s.w) hm hB ⟨⟨w.drew, (Gx.refl _).drew⟩, rfl⟩ (by simpa using h)
theorem wpQuiet_endX {P : Program} {ops : Array Oper} {Q : Exit → Act → World → Prop} {a : Act} {w : World} (h : ∀ W, Gx w W → Q .normal a W) :
    wpQuiet P ops (fun W => ∃ s : GX w, W = s.w) (fun a' => ∀ W, (∃ s : GX w, W = s.w) → Q .normal a' W) [] a :=
  wpQuiet_nil fun _ ⟨s, hs⟩ => hs ▸ h _ s.2
theorem quietX {P : Program} {f : FuncId} {args : Array Value} {w : World} {s : GX w} {v : Value}
    (h : Calls P f args s.w fun e w2 => e = .returned v ∧ Gx s.w w2) : Calls P f args s.w fun e w2 => e = .returned v ∧ ∃ t : GX w, w2 = t.w :=
  h.mono fun _ w2 ⟨he, hw⟩ => ⟨he, ⟨w2, s.gx.trans hw⟩, rfl⟩
theorem cellX {w : World} {b o : Nat} {v : Value} (hb : b < w.heap.size) (h : w.cell? ⟨b, o, none⟩ = some v) : ∀ s : GX w, s.w.cell? ⟨b, o, none⟩ = some v :=
  fun s => (s.gx.1.cell (p := ⟨b, o, none⟩) hb).trans h
theorem Box.X {w : World} {g : Nat} {vs : List Value} (h : Box w g vs) (i : Nat) (v : Value) (hv : vs[i]? = some v) : ∀ s : GX w, s.w.cell? ⟨g, i, none⟩ = some v :=
  cellX h.1 (h.2 i v hv)

set_option maxHeartbeats 800000 in
theorem fee_gx (t : Tariff) (b : Bill) (w : World) (h : FeeIn t b) : Calls Try.prog 34 #[aggTariff t, aggBill b] w fun e w' => e = .returned (.int .i64 (feeI t b)) ∧ Gx w w' := by
  have h1 := tarOk_true h.1
  have h2 := h.2
  have h3 := parts_bd h
  have ho : Hid (overI t b = if b.pages - t.free < 0 then 0 else b.pages - t.free) := rfl
  have hf : Hid (feeI t b = if b.poor = true then (if grossI t b < t.limit then grossI t b else t.limit) / 2 else (if grossI t b < t.limit then grossI t b else t.limit)) := rfl
  have hg : Hid (grossI t b = if b.pub = true then overI t b * t.page else overI t b * t.page + b.hours * t.search) := rfl
  have ho2 := ho.out
  by_cases hc : b.pages - t.free < 0
  · rw [if_pos hc] at ho2
    rw [ho2] at h3 hg
    clear ho ho2
    unfold aggTariff aggBill
    go_enter Try.func34, Try.ntmps34
    go_wp2
    all_goals
      have hpo : b.poor = true ∨ b.poor = false := by cases b.poor <;> simp
      have hpu : b.pub = true ∨ b.pub = false := by cases b.pub <;> simp
      go_ret
      refine ⟨?_, by repeat first | exact Gx.refl _ | assumption | refine Gx.drew ?_ | refine Gx.drewN ?_ _ | refine Gx.alloc ?_ _⟩
      rw [hf.out, hg.out]
      clear hf hg
      rcases hpo with hpo | hpo <;> rcases hpu with hpu | hpu <;> simp_all
      all_goals (repeat' split) <;> omega
  · rw [if_neg hc] at ho2
    rw [ho2] at h3 hg
    clear ho ho2
    unfold aggTariff aggBill
    go_enter Try.func34, Try.ntmps34
    go_wp2
    all_goals
      have hpo : b.poor = true ∨ b.poor = false := by cases b.poor <;> simp
      have hpu : b.pub = true ∨ b.pub = false := by cases b.pub <;> simp
      go_ret
      refine ⟨?_, by repeat first | exact Gx.refl _ | assumption | refine Gx.drew ?_ | refine Gx.drewN ?_ _ | refine Gx.alloc ?_ _⟩
      rw [hf.out, hg.out]
      clear hf hg
      rcases hpo with hpo | hpo <;> rcases hpu with hpu | hpu <;> simp_all
      all_goals (repeat' split) <;> omega

set_option maxHeartbeats 800000 in
theorem open_gx (t : Tariff) (b : Bill) (w : World) (h : FeeIn t b) (hp : 0 ≤ b.paid ∧ b.paid ≤ 1000000) : Calls Try.prog 23 #[aggTariff t, aggBill b] w fun e w' => e = .returned (.int .i64 (openI t b)) ∧ Gx w w' := by
  have hf := fee_bd h
  have HF := fun W => Lib.hid (fee_gx t b W h)
  have e1 : IntKind.i64.wrap (feeI t b - b.paid) = feeI t b - b.paid := IntWalk.i64_in _ (by omega)
  by_cases hc : feeI t b - b.paid < 0
  all_goals
    have ho : Hid (openI t b = if feeI t b - b.paid < 0 then 0 else feeI t b - b.paid) := rfl
    unfold aggTariff aggBill at *
    have bx := (Box.new w #[.int .i64 t.search, .int .i64 t.page, .int .i64 t.free, .int .i64 t.limit] 29).below ((Below.refl _ _).alloc (Nat.le_refl _) (.cells #[.int .i64 b.id, .int .i64 b.hours, .int .i64 b.pages, .bool b.poor, .bool b.pub, .int .i64 b.paid] 40))
    have by_ := Box.new (w.alloc (.cells #[.int .i64 t.search, .int .i64 t.page, .int .i64 t.free, .int .i64 t.limit] 29)) #[.int .i64 b.id, .int .i64 b.hours, .int .i64 b.pages, .bool b.poor, .bool b.pub, .int .i64 b.paid] 40
    rw [World.size_alloc] at by_
    have B0 := Lib.hid (((Gx.refl w).alloc (.cells #[.int .i64 t.search, .int .i64 t.page, .int .i64 t.free, .int .i64 t.limit] 29)).alloc (.cells #[.int .i64 b.id, .int .i64 b.hours, .int .i64 b.pages, .bool b.poor, .bool b.pub, .int .i64 b.paid] 40))
    generalize feeI t b = F at *
    go_enter Try.func23, Try.ntmps23
    go_wp2_with fail
    have a0 := bx.X 0 _ rfl
    have a1 := bx.X 1 _ rfl
    have a2 := bx.X 2 _ rfl
    have a3 := bx.X 3 _ rfl
    have c0 := by_.X 0 _ rfl
    have c1 := by_.X 1 _ rfl
    have c2 := by_.X 2 _ rfl
    have c3 := by_.X 3 _ rfl
    have c4 := by_.X 4 _ rfl
    have c5 := by_.X 5 _ rfl
    clear bx by_
    refine wp_region_gx (by kernel_rfl) (by kernel_rfl) ?_
    repeat (go_big_quiet_step (first | (go_at_call 34; exact quietX (HF _).out)))
    refine wpQuiet_endX ?_
    intro w2 hb2
    have B2 := Lib.hid (B0.out.trans hb2)
    clear hb2 a0 a1 a2 a3 c0 c1 c2 c3 c4 c5
    go_wp2
    go_ret
    refine ⟨?_, B2.out⟩
    have hoo := ho.out
    first
      | (rw [if_pos hc] at hoo; rw [hoo]; rfl)
      | (rw [if_neg (by omega)] at hoo; rw [hoo]; rfl)

def cmpI (a b : Int) : Int := if a < b then -1 else if b < a then 1 else 0
theorem isNaN_any (a : Int) (w : World) : Calls Try.prog 33 #[.int .i64 a] w fun e w' => e = .returned (.bool false) ∧ w' = w := by
  go_enter Try.func33, Try.ntmps33
  go_wp2
  go_ret
  exact ⟨rfl, rfl⟩
theorem compare_any (a b : Int) (w : World) : Calls Try.prog 22 #[.int .i64 a, .int .i64 b] w fun e w' => e = .returned (.int .i64 (cmpI a b)) ∧ w' = w := by
  unfold cmpI
  by_cases h1 : a < b
  · go_enter Try.func22, Try.ntmps22
    go_wp2_with (go_at_call 33; refine (isNaN_any _ _).mono ?_; rintro e w' ⟨rfl, rfl⟩)
    go_ret
    exact ⟨by simp [h1], rfl⟩
  · by_cases h2 : b < a
    · go_enter Try.func22, Try.ntmps22
      go_wp2_with (go_at_call 33; refine (isNaN_any _ _).mono ?_; rintro e w' ⟨rfl, rfl⟩)
      go_ret
      exact ⟨by simp [h1, h2], rfl⟩
    · go_enter Try.func22, Try.ntmps22
      go_wp2_with (go_at_call 33; refine (isNaN_any _ _).mono ?_; rintro e w' ⟨rfl, rfl⟩)
      go_ret
      exact ⟨by simp [h1, h2], rfl⟩

set_option maxHeartbeats 1000000 in
theorem spCmp_gx (t : Tariff) (l : List Bill) (A : Option Addr) (c bt bl : Nat) (ht : tarOk t = true) (hl : areB l = true) (i j : Nat) (hi : i < l.length) (hj : j < l.length) (w : World)
    (hr : Rd w 6 A l.length (cellsBill l)) (hbt : Box w bt [.int .i64 t.search, .int .i64 t.page, .int .i64 t.free, .int .i64 t.limit]) (hbl : Box w bl [.slice A l.length c]) :
    Calls Try.prog 21 #[.int .i64 i, .int .i64 j, .pointer (some ⟨bt, 0, none⟩), .pointer (some ⟨bl, 0, none⟩)] w
      fun e w' => e = .returned (.int .i64 (cmpI (openI t l[i]) (openI t l[j]))) ∧ Gx w w' := by
  obtain ⟨hok, _⟩ := bills_of hl
  have ki := hok i hi
  have kj := hok j hj
  have HI := fun W => Lib.hid (open_gx t l[i] W (FeeIn.of ht ki) (billOk_true ki).2.2.2)
  have HJ := fun W => Lib.hid (open_gx t l[j] W (FeeIn.of ht kj) (billOk_true kj).2.2.2)
  have HC := fun W => Lib.hid (compare_any (openI t l[i]) (openI t l[j]) W)
  obtain ⟨gb, go, rfl, hgb, hcell⟩ := hr.2 (by omega)
  obtain ⟨i0, i1, i2, i3, i4, i5⟩ := cellsBill_at hcell hi
  obtain ⟨j0, j1, j2, j3, j4, j5⟩ := cellsBill_at hcell hj
  have a0 := hbt.X 0 _ rfl
  have a1 := hbt.X 1 _ rfl
  have a2 := hbt.X 2 _ rfl
  have a3 := hbt.X 3 _ rfl
  have b0 := hbl.X 0 _ rfl
  have x0 := cellX hgb i0
  have x1 := cellX hgb i1
  have x2 := cellX hgb i2
  have x3 := cellX hgb i3
  have x4 := cellX hgb i4
  have x5 := cellX hgb i5
  have y0 := cellX hgb j0
  have y1 := cellX hgb j1
  have y2 := cellX hgb j2
  have y3 := cellX hgb j3
  have y4 := cellX hgb j4
  have y5 := cellX hgb j5
  have hi0 : (0 : Int) ≤ (i : Int) := by omega
  have hj0 : (0 : Int) ≤ (j : Int) := by omega
  have hi1 : (i : Int) < (l.length : Int) := by omega
  have hj1 : (j : Int) < (l.length : Int) := by omega
  unfold aggTariff aggBill at *
  clear hok ki kj hcell i0 i1 i2 i3 i4 i5 j0 j1 j2 j3 j4 j5 hbt hbl hr hl ht
  generalize openI t l[i] = oi at *
  generalize openI t l[j] = oj at *
  go_enter Try.func21, Try.ntmps21
  go_wp2_with fail
  refine wp_region_gx (by kernel_rfl) (by kernel_rfl) ?_
  repeat (go_big_quiet_step (first
    | (go_at_call 23; first | with_reducible exact quietX (HI _).out | with_reducible exact quietX (HJ _).out)
    | (go_at_call 22; exact quietX ((HC _).out.mono fun e w' h => ⟨h.1, h.2 ▸ Gx.refl _⟩))))
  refine wpQuiet_endX ?_
  intro w2 hb2
  go_wp2
  go_ret
  exact ⟨rfl, hb2⟩

end Go.Proofs.Ytpifimghlfpbaaa
