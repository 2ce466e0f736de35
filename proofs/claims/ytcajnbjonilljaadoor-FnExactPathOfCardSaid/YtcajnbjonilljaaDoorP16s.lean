/-
  slices.Chunk: the maker, and what an iterator's caller is told.
  Conditions: those written at each theorem.
-/
import Derived.Test.YtcajnbjonilljaaDoorP16r
namespace Go.Proofs.YtcajnbjonilljaaDoor
open Go.RowKit Go.Shelf

theorem chunk_any (len cap : Nat) (A : Option Addr) (w : World) :
    Calls Tryd.prog 32 #[.slice A len cap, .int .i64 2] w fun e w' => e = .returned (.func (.func 40) #[] #[.pointer (some ⟨w.heap.size, 0, none⟩), .pointer (some ⟨w.heap.size + 1, 0, none⟩)])
      ∧ w' = (w.alloc (.cells #[.slice A len cap] 36)).alloc (.cells #[.int .i64 2] 3) := by
  have c3 := (BX.new (w.alloc (.cells #[.slice A len cap] 36)) #[.int .i64 2] 3).cell 0 _ rfl
  rw [World.size_alloc] at c3
  go_enter Tryd.func32, Tryd.ntmps32
  go_wp2
  go_ret
  exact ⟨rfl, rfl⟩

theorem chunk_stops (m : Nat) (hm : 1 ≤ m) (Bs Bn b off len cap : Nat) (hlen : len ≤ 1048576) (hcap : len ≤ cap) (w : World) (hBs : w.cell? ⟨Bs, 0, none⟩ = some (.slice (some ⟨b, off, none⟩) len cap)) (hBn : w.cell? ⟨Bn, 0, none⟩ = some (.int .i64 2))
    (h1 : Bs < w.heap.size) (h2 : Bn < w.heap.size) :
    SeqStopsK Fence.wide m Tryd.prog 40 #[.pointer (some ⟨Bs, 0, none⟩), .pointer (some ⟨Bn, 0, none⟩)] (fun x : Pc len => #[chunkV b off len x.1]) (KpC Bs Bn) (fun ys => ys = ups len ((len + 1) / 2)) (fun _ => True) ((len + 1) / 2) w :=
  fun l J Jx W hW hJ _ hY h0 =>
    chunk1_in m hm l Bs Bn b off len cap hlen hcap J Jx hY W ((hW.cell (p := ⟨Bs, 0, none⟩) h1).trans hBs) ((hW.cell (p := ⟨Bn, 0, none⟩) h2).trans hBn)
      (fun p A h => hJ p A A.drew none h ⟨rfl, rfl, rfl, Nat.le_refl _, fun _ _ _ => rfl⟩ (fun r e => by cases e)) h0

end Go.Proofs.YtcajnbjonilljaaDoor
