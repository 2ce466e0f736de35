/-
  The library's stable sort, at up to ten numbers, under the program's comparison.
  Conditions: those written at each theorem.
-/
import Derived.Test.YtpifimghlfpbaaaP14t
import Derived.Test.YtpifimghlfpbaaaH14
import Derived.Test.YtpifimghlfpbaaaLayIns
import Derived.Sort.OwnSortedInts
namespace Go.Proofs.Ytpifimghlfpbaaa
open Go.RowKit Go.BigFrame Go.Sort
set_option maxRecDepth 100000

/-- what is open of the i-th bill -/
def wgt (t : Tariff) (l : List Bill) (x : Int) : Int := ((l[x.toNat]?).map (openI t)).getD 0
theorem wgt_at (t : Tariff) (l : List Bill) {i : Nat} (h : i < l.length) : wgt t l (i : Int) = openI t l[i] := by
  unfold wgt; simp [h]
theorem cmpI_lt (a b : Int) : decide (cmpI a b < 0) = decide (a < b) := by
  unfold cmpI
  by_cases h1 : a < b
  · simp [h1]
  · by_cases h2 : b < a <;> simp [h1, h2]

section
variable {α : Type} [Inhabited α] (v : α → Int)
theorem putCells_map (off : Nat) (d : Array α) (c : Array Value) : putCells (fun x => Value.int .i64 (v x)) off d c = putCells (Value.int .i64) off (d.map v) c := by
  unfold putCells
  congr 1
  funext k x
  rw [Array.size_map]
  split
  · rename_i h
    rw [getElem!_pos d (k - off) (by omega), getElem!_pos (d.map v) (k - off) (by rw [Array.size_map]; omega), Array.getElem_map]
  · rfl
theorem sortWorld_map (w : World) (blk off m : Nat) (d : Array α) (os : Array Obj) : sortWorld (fun x => Value.int .i64 (v x)) w blk off m d os = grow (putRow (Value.int .i64) (Sort.ahead w m) blk off (d.map v)) os := by
  unfold sortWorld putRow
  congr 2
  funext c
  exact putCells_map v off d c
theorem holds_map {w : World} {blk off : Nat} {d : Array α} (h : Holds (Value.int .i64) w blk off (d.map v)) : Holds (fun x => Value.int .i64 (v x)) w blk off d := by
  intro j hj
  have := h j (by rw [Array.size_map]; exact hj)
  rw [getElem!_pos (d.map v) j (by rw [Array.size_map]; exact hj), Array.getElem_map] at this
  rw [getElem!_pos d j hj]
  exact this
end

theorem Box.grown {w w' : World} {g : Nat} {vs : List Value} {k : Option Nat} (h : Box w g vs) (hg : w.grownBy w' k) (hne : some g ≠ k) : Box w' g vs :=
  ⟨Nat.lt_of_lt_of_le h.1 hg.size, fun i v hv => by
    have hc := h.2 i v hv
    unfold World.cell? at *
    simp only at *
    rw [hg.block g h.1 hne]; exact hc⟩

theorem insSort_any (t : Tariff) (l : List Bill) (A : Option Addr) (c bt bl g cap base : Nat) (ht : tarOk t = true) (hl : areB l = true) (w : World) (h0 : 0 < l.length)
    (ho : w.ownsRow base 3 1 (.slice (some ⟨g, 0, none⟩) l.length cap) l.length (cellsI ((List.range l.length).map (fun i : Nat => (i : Int)))))
    (hr : Rd w 6 A l.length (cellsBill l)) (hA : ∀ ad, A = some ad → ad.block ≠ g)
    (hbt : Box w bt [.int .i64 t.search, .int .i64 t.page, .int .i64 t.free, .int .i64 t.limit]) (hbl : Box w bl [.slice A l.length c]) (nt : bt ≠ g) (nl : bl ≠ g) :
    Calls Try.prog 36 #[.slice (some ⟨g, 0, none⟩) l.length cap, .int .i64 0, .int .i64 l.length, .func (.func 21) #[] #[.pointer (some ⟨bt, 0, none⟩), .pointer (some ⟨bl, 0, none⟩)]] w
      fun e w' => e = .returned (.tuple #[]) ∧ w'.ownsRow base 3 1 (.slice (some ⟨g, 0, none⟩) l.length cap) l.length (cellsI (S14.ordF (wgt t l) l.length)) ∧ w.grownBy w' (some g) := by
  haveI : Inhabited (Fin l.length) := ⟨⟨0, h0⟩⟩
  obtain ⟨hok, h10⟩ := bills_of hl
  let v : Fin l.length → Int := fun i => (i.val : Int)
  let d0 : Array (Fin l.length) := (List.finRange l.length).toArray
  have hd0 : d0.size = l.length := by simp [d0]
  have hdl : d0.toList.map v = (List.range l.length).map (fun i : Nat => (i : Int)) := by
    apply List.ext_getElem
    · simp [d0]
    · intro i h1 h2
      simp [d0, v]
  have hdm : d0.map v = ((List.range l.length).map (fun i : Nat => (i : Int))).toArray := by
    apply Array.ext'
    rw [Array.toList_map, hdl]
  obtain ⟨ab, ao, rfl, hab, _⟩ := hr.2 h0
  have hne : ab ≠ g := hA _ rfl
  rcases ho.2 with ⟨hv, _⟩ | ⟨g', cap', cur, hv, hb, hg, hnc, hcm, hcs, htake⟩
  · cases hv
  cases hv
  rw [Nat.mul_one] at htake
  have hgl := (Array.getElem?_eq_some_iff.1 hg).1
  have hH : Holds (fun x => Value.int .i64 (v x)) w g 0 d0 := by
    apply holds_map
    rw [hdm]
    refine holds_of_blockI hg ?_
    rw [List.length_map, List.length_range]
    exact htake
  have key := Any.insertionSortCmpFunc_s (ρ := laysIns_ren) laysIns (fun x : Fin l.length => Value.int .i64 (v x)) (fun x y => cmpI (openI t l[x]) (openI t l[y])) 21 #[.pointer (some ⟨bt, 0, none⟩), .pointer (some ⟨bl, 0, none⟩)] g 0 cap 0 l.length d0 d0 w w
    (enters_of Try.func21 (by kernel_rfl) rfl) ?_ ⟨fun _ => rfl, hH, hgl⟩ rfl (SW.start hH) (Nat.zero_le _) (by omega) (by omega)
  · rw [hd0] at key
    refine key.mono ?_
    rintro e w' ⟨rfl, n, os, rfl⟩
    rw [sortWorld_map v]
    have hl2 : ((insertionSort (ltOf fun x y : Fin l.length => cmpI (openI t l[x]) (openI t l[y])) d0 0 l.length).map v) = (S14.ordF (wgt t l) l.length).toArray := by
      apply Array.ext'
      rw [Array.toList_map]
      exact S14.insSort_list _ v (wgt t l) (fun x y => by
        show decide (cmpI (openI t l[x]) (openI t l[y]) < 0) = _
        rw [cmpI_lt, show wgt t l (v x) = openI t l[x] from wgt_at t l x.isLt, show wgt t l (v y) = openI t l[y] from wgt_at t l y.isLt]) l.length d0 h0 hdl
    rw [hl2]
    have hs := ownsRow_sortedI (w := w) (n := n) (os := os) (ss := (List.range l.length).map (fun i : Nat => (i : Int))) (ts := S14.ordF (wgt t l) l.length) (by rw [S14.len_ordF]; simp) hb hg (by simpa using hnc) hcm hcs
    rw [List.length_map, List.length_range] at hs
    exact ⟨rfl, hs, grownBy_sortedI _⟩
  · intro m os dk hdk x y
    rw [sortWorld_map v]
    have hgr : w.grownBy (grow (putRow (Value.int .i64) (Sort.ahead w m) g 0 (dk.map v)) os) (some g) := grownBy_sortedI _
    have hk := spCmp_gx t l (some ⟨ab, ao, none⟩) c bt bl ht hl x.val y.val x.isLt y.isLt _ (hr.grown hgr (fun e => hne (Option.some.inj e))) (Box.grown hbt hgr (fun e => nt (Option.some.inj e))) (Box.grown hbl hgr (fun e => nl (Option.some.inj e)))
    exact hk.mono fun e w' h => ⟨h.1, h.2.grow⟩

end Go.Proofs.Ytpifimghlfpbaaa
