/-
  The walks of chapter 14: tariffs, bills, fees, by the reference and by the program.
  Conditions: those written at each theorem.
-/
import Derived.Test.YtpifimghlfpbaaaL14
namespace Go.Proofs.Ytpifimghlfpbaaa
open Go.RowKit Go.BigFrame

theorem isCents_any (x : Int) (w : World) :
    Calls Try.prog 18 #[.int .i64 x] w fun e w' => e = .returned (.bool (inB x 0 1000000)) ∧ w = w' := by
  go_enter Try.func18, Try.ntmps18
  go_wp2_with (go_at_call 30; refine (within_any _ _ _ _).mono ?_; rintro e w' ⟨rfl, rfl⟩)
  go_ret
  exact ⟨rfl, rfl⟩
theorem l14Cents_any (x : Int) (w : World) :
    Calls Try.prog 13 #[.int .i64 x] w fun e w' => e = .returned (.bool (inB x 0 1000000)) ∧ w = w' := by
  go_enter Try.func13, Try.ntmps13
  go_wp2_with (go_at_call 29; refine (l1In_any _ _ _ _).mono ?_; rintro e w' ⟨rfl, rfl⟩)
  go_ret
  exact ⟨rfl, rfl⟩

theorem l14Tariff_any (t : Tariff) (w : World) : Calls Try.prog 25 #[aggTariff t] w fun e w' => e = .returned (.bool (tarOk t)) ∧ Below w.heap.size w w' := by
  have H : Hid (tarOk t = (inB t.search 0 10000 && inB t.page 0 1000 && inB t.free 0 500 && inB t.limit 0 1000000)) := rfl
  unfold aggTariff
  go_enter Try.func25, Try.ntmps25
  go_wp2_with (first
    | (go_at_call 29; refine (l1In_any _ _ _ _).mono ?_; rintro e w' ⟨rfl, rfl⟩)
    | (go_at_call 13; refine (l14Cents_any _ _).mono ?_; rintro e w' ⟨rfl, rfl⟩))
  all_goals
    go_ret
    refine ⟨?_, by go_grown⟩
    rw [H.out]
    simp [*]
theorem implIsTariff_any (t : Tariff) (w : World) : Calls Try.prog 16 #[aggTariff t] w fun e w' => e = .returned (.bool (tarOk t)) ∧ Below w.heap.size w w' := by
  have H : Hid (tarOk t = (inB t.search 0 10000 && inB t.page 0 1000 && inB t.free 0 500 && inB t.limit 0 1000000)) := rfl
  unfold aggTariff
  go_enter Try.func16, Try.ntmps16
  go_wp2_with (first
    | (go_at_call 30; refine (within_any _ _ _ _).mono ?_; rintro e w' ⟨rfl, rfl⟩)
    | (go_at_call 18; refine (isCents_any _ _).mono ?_; rintro e w' ⟨rfl, rfl⟩))
  all_goals
    go_ret
    refine ⟨?_, by go_grown⟩
    rw [H.out]
    simp [*]
theorem l14Bill_any (b : Bill) (w : World) : Calls Try.prog 35 #[aggBill b] w fun e w' => e = .returned (.bool (billOk b)) ∧ Below w.heap.size w w' := by
  have H : Hid (billOk b = (inB b.id 1 999 && inB b.hours 0 200 && inB b.pages 0 5000 && inB b.paid 0 1000000)) := rfl
  unfold aggBill
  go_enter Try.func35, Try.ntmps35
  go_wp2_with (first
    | (go_at_call 29; refine (l1In_any _ _ _ _).mono ?_; rintro e w' ⟨rfl, rfl⟩)
    | (go_at_call 13; refine (l14Cents_any _ _).mono ?_; rintro e w' ⟨rfl, rfl⟩))
  all_goals
    go_ret
    refine ⟨?_, by go_grown⟩
    rw [H.out]
    simp [*]
theorem isBill_any (b : Bill) (w : World) : Calls Try.prog 31 #[aggBill b] w fun e w' => e = .returned (.bool (billOk b)) ∧ Below w.heap.size w w' := by
  have H : Hid (billOk b = (inB b.id 1 999 && inB b.hours 0 200 && inB b.pages 0 5000 && inB b.paid 0 1000000)) := rfl
  unfold aggBill
  go_enter Try.func31, Try.ntmps31
  go_wp2_with (first
    | (go_at_call 30; refine (within_any _ _ _ _).mono ?_; rintro e w' ⟨rfl, rfl⟩)
    | (go_at_call 18; refine (isCents_any _ _).mono ?_; rintro e w' ⟨rfl, rfl⟩))
  all_goals
    go_ret
    refine ⟨?_, by go_grown⟩
    rw [H.out]
    simp [*]

theorem l1Most_any (a b : Int) (w : World) :
    Calls Try.prog 27 #[.int .i64 a, .int .i64 b] w fun e w' => e = .returned (.int .i64 (if b < a then a else b)) ∧ w = w' := by
  by_cases h : b < a
  all_goals
    go_enter Try.func27, Try.ntmps27
    go_wp2
    go_ret
    exact ⟨by simp [h], rfl⟩
theorem l1Least_any (a b : Int) (w : World) :
    Calls Try.prog 14 #[.int .i64 a, .int .i64 b] w fun e w' => e = .returned (.int .i64 (if a < b then a else b)) ∧ w = w' := by
  by_cases h : a < b
  all_goals
    go_enter Try.func14, Try.ntmps14
    go_wp2
    go_ret
    exact ⟨by simp [h], rfl⟩

set_option maxHeartbeats 800000 in
theorem fee_any (t : Tariff) (b : Bill) (w : World) (h : FeeIn t b) : Calls Try.prog 34 #[aggTariff t, aggBill b] w fun e w' => e = .returned (.int .i64 (feeI t b)) ∧ Below w.heap.size w w' := by
  have h1 := tarOk_true h.1
  have h2 := h.2
  have h3 := parts_bd h
  have ho : Hid (overI t b = if b.pages - t.free < 0 then 0 else b.pages - t.free) := rfl
  have hf : Hid (feeI t b = if b.poor = true then (if grossI t b < t.limit then grossI t b else t.limit) / 2 else (if grossI t b < t.limit then grossI t b else t.limit)) := rfl
  have hg : Hid (grossI t b = if b.pub = true then overI t b * t.page else overI t b * t.page + b.hours * t.search) := rfl
  have ho2 := ho.out
  by_cases hc : b.pages - t.free < 0
  · rw [if_pos hc] at ho2
    rw [ho2] at h3 hg
    clear ho ho2
    unfold aggTariff aggBill
    go_enter Try.func34, Try.ntmps34
    go_wp2
    all_goals
      have hpo : b.poor = true ∨ b.poor = false := by cases b.poor <;> simp
      have hpu : b.pub = true ∨ b.pub = false := by cases b.pub <;> simp
      go_ret
      refine ⟨?_, by go_grown⟩
      rw [hf.out, hg.out]
      clear hf hg
      rcases hpo with hpo | hpo <;> rcases hpu with hpu | hpu <;> simp_all
      all_goals (repeat' split) <;> omega
  · rw [if_neg hc] at ho2
    rw [ho2] at h3 hg
    clear ho ho2
    unfold aggTariff aggBill
    go_enter Try.func34, Try.ntmps34
    go_wp2
    all_goals
      have hpo : b.poor = true ∨ b.poor = false := by cases b.poor <;> simp
      have hpu : b.pub = true ∨ b.pub = false := by cases b.pub <;> simp
      go_ret
      refine ⟨?_, by go_grown⟩
      rw [hf.out, hg.out]
      clear hf hg
      rcases hpo with hpo | hpo <;> rcases hpu with hpu | hpu <;> simp_all
      all_goals (repeat' split) <;> omega

theorem l1Most0 (x : Int) (w : World) :
    Calls Try.prog 27 #[.int .i64 0, .int .i64 x] w fun e w' => e = .returned (.int .i64 (if x < 0 then 0 else x)) ∧ w = w' := l1Most_any 0 x w

set_option maxHeartbeats 800000 in
theorem l14Fee_any (t : Tariff) (b : Bill) (w : World) (h : FeeIn t b) : Calls Try.prog 28 #[aggTariff t, aggBill b] w fun e w' => e = .returned (.int .i64 (feeI t b)) ∧ Below w.heap.size w w' := by
  have h1 := tarOk_true h.1
  have h2 := h.2
  have h3 := parts_bd h
  have h4 := over_bd h
  have hf : Hid (feeI t b = if b.poor = true then (if grossI t b < t.limit then grossI t b else t.limit) / 2 else (if grossI t b < t.limit then grossI t b else t.limit)) := rfl
  have hg : Hid (grossI t b = if b.pub = true then overI t b * t.page else overI t b * t.page + b.hours * t.search) := rfl
  have ho : ∀ W : World, Calls Try.prog 27 #[.int .i64 0, .int .i64 (b.pages - t.free)] W fun e w' => e = .returned (.int .i64 (overI t b)) ∧ W = w' := fun W => l1Most0 _ W
  have HO := fun W => Lib.hid (ho W)
  have hcm : overI t b * t.page = t.page * overI t b := Int.mul_comm _ _
  have hcm2 : b.hours * t.search = t.search * b.hours := Int.mul_comm _ _
  rw [hcm, hcm2] at h3 hg
  clear ho hcm hcm2
  generalize overI t b = O at h3 h4 hg HO
  have e1 : IntKind.i64.wrap (b.pages - t.free) = b.pages - t.free := IntWalk.i64_in _ (by omega)
  have e2 : IntKind.i64.wrap (t.page * O) = t.page * O := IntWalk.i64_in _ (by omega)
  unfold aggTariff aggBill
  go_enter Try.func28, Try.ntmps28
  go_wp2_with fail
  go_quiet ((go_at_call 27; exact quietC (HO _).out ⟨_, rfl⟩))
  clear e1 e2
  go_wp2_with (go_at_call 14; refine (l1Least_any _ _ _).mono ?_; rintro e w' ⟨rfl, rfl⟩)
  all_goals
    have hpo : b.poor = true ∨ b.poor = false := by cases b.poor <;> simp
    have hpu : b.pub = true ∨ b.pub = false := by cases b.pub <;> simp
    go_ret
    refine ⟨?_, by (repeat refine below_drewN ?_ _); go_grown⟩
    rw [hf.out, hg.out]
    clear hf hg
    rcases hpo with hpo | hpo <;> rcases hpu with hpu | hpu <;> simp_all
    all_goals (repeat' split) <;> omega

end Go.Proofs.Ytpifimghlfpbaaa
