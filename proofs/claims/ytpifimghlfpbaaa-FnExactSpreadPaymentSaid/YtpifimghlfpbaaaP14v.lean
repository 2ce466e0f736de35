/-
  slices.SortStableFunc at up to ten numbers, under the program's comparison.
  Conditions: those written at each theorem.
-/
import Derived.Test.YtpifimghlfpbaaaP14u
namespace Go.Proofs.Ytpifimghlfpbaaa
open Go.RowKit Go.BigFrame
set_option maxRecDepth 100000

theorem insSort_nil (A : Option Addr) (c : Nat) (fv : Value) (w : World) :
    Calls Try.prog 36 #[.slice A 0 c, .int .i64 0, .int .i64 0, fv] w fun e w' => e = .returned (.tuple #[]) ∧ w' = w := by
  go_enter Try.func36, Try.ntmps36
  go_wp2
  go_loopw [8] (fun v8 wr => v8 = .int .i64 1 ∧ wr = w) (fun _ _ => 0)
  case atStart => exact ⟨by go_num, rfl⟩
  case round =>
    obtain ⟨rfl, rfl⟩ := hrel
    go_wp2
    (first | go_end0 | (simp only [Exit.inBlock, Exit.then]; refine bodyPost_ret (results_none rfl _ _ _) rfl ?_) | refine bodyPost_ret (results_none rfl _ _ _) rfl ?_)
    exact ⟨rfl, rfl⟩

/-- what the sort says of its row -/
def Sorts (base : Nat) (t : Tariff) (l : List Bill) (A : Option Addr) (cap : Nat) (w : World) (e : Ending) (w' : World) : Prop :=
  e = .returned (.tuple #[]) ∧ w'.ownsRow base 3 1 (.slice A l.length cap) l.length (cellsI (S14.ordF (wgt t l) l.length)) ∧ w.grownBy w' (Value.slice A l.length cap).ownBlock

theorem stable_any (n : Nat) (hn : n ≤ 10) (A : Option Addr) (cap : Nat) (fv : Value) (w : World) (Q : World → Prop)
    (h : Calls Try.prog 36 #[.slice A n cap, .int .i64 0, .int .i64 n, fv] w fun e w' => e = .returned (.tuple #[]) ∧ Q w') :
    Calls Try.prog 32 #[.slice A n cap, .int .i64 n, fv] w fun e w' => e = .returned (.tuple #[]) ∧ Q w' := by
  have H := Lib.hid h
  clear h
  go_enter Try.func32, Try.ntmps32
  go_wp2
  go_loopw [7, 8] (fun v7 v8 wr => v7 = .int .i64 0 ∧ v8 = .int .i64 20 ∧ wr = w) (fun _ _ _ => 0)
  case atStart => exact ⟨rfl, rfl, rfl⟩
  case round =>
    obtain ⟨rfl, rfl, rfl⟩ := hrel
    have h1 : ¬ ((20 : Int) ≤ (n : Int)) := by omega
    go_wp2_with fail
    refine H.out.mono ?_
    rintro e w1 ⟨rfl, hq⟩
    have HQ := Lib.hid hq
    clear hq
    go_wp2
    go_loopw [6] (fun v6 wr => v6 = .int .i64 20 ∧ wr = w1) (fun _ _ => 0)
    case atStart => exact ⟨rfl, rfl⟩
    case round =>
      obtain ⟨rfl, rfl⟩ := hrel
      have h2 : ¬ ((20 : Int) < (n : Int)) := by omega
      go_wp2
      (first | go_end0 | (simp only [Exit.inBlock, Exit.then]; refine bodyPost_ret (results_none rfl _ _ _) rfl ?_) | refine bodyPost_ret (results_none rfl _ _ _) rfl ?_)
      exact ⟨rfl, HQ.out⟩

theorem sortStable_any (t : Tariff) (l : List Bill) (A A' : Option Addr) (c bt bl cap base : Nat) (ht : tarOk t = true) (hl : areB l = true) (w : World)
    (ho : w.ownsRow base 3 1 (.slice A' l.length cap) l.length (cellsI ((List.range l.length).map (fun i : Nat => (i : Int)))))
    (hr : Rd w 6 A l.length (cellsBill l)) (hA : 0 < l.length → ∀ ad, A = some ad → (Value.slice A' l.length cap).ownBlock ≠ some ad.block)
    (hbt : Box w bt [.int .i64 t.search, .int .i64 t.page, .int .i64 t.free, .int .i64 t.limit]) (hbl : Box w bl [.slice A l.length c]) (nt : (Value.slice A' l.length cap).ownBlock ≠ some bt) (nl : (Value.slice A' l.length cap).ownBlock ≠ some bl) :
    Calls Try.prog 20 #[.slice A' l.length cap, .func (.func 21) #[] #[.pointer (some ⟨bt, 0, none⟩), .pointer (some ⟨bl, 0, none⟩)]] w
      fun e w' => Sorts base t l A' cap w e w' := by
  obtain ⟨_, h10⟩ := bills_of hl
  have h := stable_any l.length h10 A' cap (.func (.func 21) #[] #[.pointer (some ⟨bt, 0, none⟩), .pointer (some ⟨bl, 0, none⟩)]) w
    (fun w' => w'.ownsRow base 3 1 (.slice A' l.length cap) l.length (cellsI (S14.ordF (wgt t l) l.length)) ∧ w.grownBy w' (Value.slice A' l.length cap).ownBlock) (by
      rcases Nat.eq_zero_or_pos l.length with h0 | h0
      · have hz : Calls Try.prog 36 #[.slice A' l.length cap, .int .i64 0, .int .i64 l.length, .func (.func 21) #[] #[.pointer (some ⟨bt, 0, none⟩), .pointer (some ⟨bl, 0, none⟩)]] w fun e w' => e = .returned (.tuple #[]) ∧ w' = w := by
          rw [h0]; exact insSort_nil A' cap _ w
        refine hz.mono ?_
        rintro e w' ⟨rfl, rfl⟩
        refine ⟨rfl, ?_, ⟨rfl, rfl, rfl, Nat.le_refl _, fun _ _ _ => rfl⟩⟩
        rw [h0] at ho ⊢
        simpa [S14.ordF] using ho
      · obtain ⟨g, rfl⟩ := own_some ho h0
        refine (insSort_any t l A c bt bl g cap base ht hl w h0 ho hr (fun ad ha e => hA h0 ad ha (by rw [← e]; rfl)) hbt hbl (fun e => nt (by rw [e]; rfl)) (fun e => nl (by rw [e]; rfl))).mono ?_
        rintro e w' ⟨rfl, h1, h2⟩
        exact ⟨rfl, h1, h2⟩)
  have H := Lib.hid h
  have hs : Hid (∀ e w', (e = .returned (.tuple #[]) ∧ w'.ownsRow base 3 1 (.slice A' l.length cap) l.length (cellsI (S14.ordF (wgt t l) l.length)) ∧ w.grownBy w' (Value.slice A' l.length cap).ownBlock) → Sorts base t l A' cap w e w') := fun _ _ h => h
  clear ho hr hA hbt hbl nt nl h ht hl
  go_enter Try.func20, Try.ntmps20
  go_wp2_with fail
  refine H.out.mono ?_
  rintro e w1 ⟨rfl, h1, h2⟩
  have K := Lib.hid (hs.out _ _ ⟨rfl, h1, h2⟩)
  clear h1 h2
  go_wp2
  (first | go_end0 | (simp only [Exit.inBlock, Exit.then]; refine bodyPost_ret (results_none rfl _ _ _) rfl ?_) | refine bodyPost_ret (results_none rfl _ _ _) rfl ?_)
  exact K.out

end Go.Proofs.Ytpifimghlfpbaaa
