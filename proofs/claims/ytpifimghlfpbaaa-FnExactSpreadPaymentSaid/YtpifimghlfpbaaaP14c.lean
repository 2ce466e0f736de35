/-
  The walks of PagesFor, and of the laws on FeeOf and PagesFor.
  Conditions: those written at each theorem.
-/
import Derived.Test.YtpifimghlfpbaaaP14b
namespace Go.Proofs.Ytpifimghlfpbaaa
open Go.RowKit Go.BigFrame


/-- what PagesFor answers -/
def pfAns (t : Tariff) (h c : Int) : Value :=
  if tarOk t = true ∧ inB h 0 200 = true ∧ inB c 0 1000000 = true ∧ feeP t h 0 ≤ c then .tuple #[.int .i64 (bestP t h c 5000), .bool true] else .tuple #[.int .i64 0, .bool false]
theorem pfAns_form (t : Tariff) (h c : Int) : ∃ (x : Int) (y : Bool), pfAns t h c = .tuple #[.int .i64 x, .bool y] := by
  unfold pfAns; split <;> exact ⟨_, _, rfl⟩

theorem feeP_impl {t : Tariff} {h : Int} (ht : tarOk t = true) (hh : inB h 0 200 = true) (p : Int) (h0 : 0 ≤ p) (h1 : p ≤ 5000) (w : World) :
    Calls Try.prog 34 #[.agg #[.int .i64 t.search, .int .i64 t.page, .int .i64 t.free, .int .i64 t.limit], .agg #[.int .i64 0, .int .i64 h, .int .i64 p, .bool false, .bool false, .int .i64 0]] w
      fun e w' => e = .returned (.int .i64 (feeP t h p)) ∧ Below w.heap.size w w' := fee_any t ⟨0, h, p, false, false, 0⟩ w ⟨ht, inB_true hh, h0, h1⟩
theorem feeP_spec {t : Tariff} {h : Int} (ht : tarOk t = true) (hh : inB h 0 200 = true) (p : Int) (h0 : 0 ≤ p) (h1 : p ≤ 5000) (w : World) :
    Calls Try.prog 28 #[.agg #[.int .i64 t.search, .int .i64 t.page, .int .i64 t.free, .int .i64 t.limit], .agg #[.int .i64 0, .int .i64 h, .int .i64 p, .bool false, .bool false, .int .i64 0]] w
      fun e w' => e = .returned (.int .i64 (feeP t h p)) ∧ Below w.heap.size w w' := l14Fee_any t ⟨0, h, p, false, false, 0⟩ w ⟨ht, inB_true hh, h0, h1⟩


end Go.Proofs.Ytpifimghlfpbaaa
