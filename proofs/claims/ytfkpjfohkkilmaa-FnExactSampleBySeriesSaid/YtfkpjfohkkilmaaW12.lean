/-
  A map of slices of numbers that the call has made: what it reads as; looked up in later worlds.
  Conditions: those written at each theorem.
-/
import Derived.Test.YtfkpjfohkkilmaaP12u
import Derived.Maps.OwnRows
namespace Go.Proofs.Ytfkpjfohkkilmaa
open Go.RowKit Go.Maps Go.ChangeShapes

theorem key_one {x y : MapEntry} : ∀ {l : List MapEntry}, (l.map (·.key)).Nodup → x ∈ l → y ∈ l → x.key = y.key → x = y
  | [], _, hx, _, _ => by cases hx
  | z :: t, h, hx, hy, e => by
    rw [List.map_cons] at h
    obtain ⟨h1, h2⟩ := List.nodup_cons.1 h
    rcases List.mem_cons.1 hx with e1 | hx2 <;> rcases List.mem_cons.1 hy with e2 | hy2
    · rw [e1, e2]
    · exact absurd (List.mem_map.2 ⟨y, hy2, by rw [← e, e1]⟩) h1
    · exact absurd (List.mem_map.2 ⟨x, hx2, by rw [e, e2]⟩) h1
    · exact key_one h2 hx2 hy2 e

/-- what stands at a key, in every world in which the map's block is as it was; and the way back -/
theorem groups_look {H : Type} {w : World} {base : Nat} {e : TypeId} {q : IntKind} {P : Program} {k : TypeId} {b n : Nat} {D : DataW H} {t E : TypeId} {key : Value} {kl : Lit} (h : w.ownsGroups P k base e q b n D) (K : Keyed P k)
    (ht : P.underlying t = some (.map k E)) (hz : ∀ w : World, (zeroValue E).run P w = .ok (.slice none 0 0) w) (hn : n < maxLen) (hkey : keyOf P k key = some kl) :
    ∃ v zs, (∀ w' : World, w'.heap[b]? = w.heap[b]? → (Instr.lookup t (.map (some b)) key false).run P w' = .ok v w') ∧ D.atKey kl .nil = rowDatum q v zs ∧ w.ownsInts base e q v zs ∧ zs.length ≤ n ∧ w.groupBack P t k base e q b n D key kl v := by
  obtain ⟨v, zs, hrun, hat, hoi, hzl, hback⟩ := h.at K ht (hz w) hn hkey
  refine ⟨v, zs, fun w' hw => ?_, hat, hoi, hzl, hback⟩
  obtain ⟨es, clock, hb, F, _⟩ := h
  have hb' := hw.trans hb
  rcases Maps.fit_look false K ht (hz w) hb F hkey with ⟨r1, n1, _⟩ | ⟨e1, y1, m1, k1, r1, _⟩ <;> rcases Maps.fit_look false K ht (hz w') hb' F hkey with ⟨r2, n2, _⟩ | ⟨e2, y2, m2, k2, r2, _⟩
  · rw [hrun] at r1
    injection r1 with r1
    rw [r2, r1]
  · exact absurd k2 (n1 e2 m2)
  · exact absurd k1 (n2 e1 m1)
  · rw [hrun] at r1
    injection r1 with r1
    rw [r2, r1, key_one F.stamped.2.2 m1 m2 (k1.trans k2.symm)]

/-- a map reads as these slices of numbers -/
def grpD {H : Type} (D : DataW H) (M : Int → List Int) : Prop := IsMap D ∧ ∀ s : Int, D.atKey (.int .i64 s) .nil = if M s = [] then .nil else .slice (lits .i64 (M s)) []
theorem lits_inj {H : Type} {a b : List Int} (h : (lits .i64 a : List (DataW H)) = lits .i64 b) : a = b :=
  (List.map_inj_right (fun x y hxy => by cases hxy; rfl)).1 h
theorem grpD_nil {H : Type} : grpD (H := H) (.map []) (fun _ => []) := ⟨isMap_empty, fun _ => rfl⟩
theorem grpD_at {H : Type} {D : DataW H} {M : Int → List Int} (h : grpD D M) {w : World} {base : Nat} {e : TypeId} {v : Value} {zs : List Int} {s : Int} (hat : D.atKey (.int .i64 s) .nil = rowDatum .i64 v zs) (ho : w.ownsInts base e .i64 v zs) : zs = M s := by
  have h2 := h.2 s
  rw [hat] at h2
  rcases ho.datum (H := H) with ⟨e1, e2⟩ | e1
  · rw [e1] at h2
    split at h2
    · rename_i e3; rw [e2, e3]
    · cases h2
  · rw [e1] at h2
    split at h2
    · cases h2
    · injection h2 with h2 _
      exact lits_inj h2
theorem grpD_put {H : Type} {D : DataW H} {M : Int → List Int} (h : grpD D M) (s : Int) (ys : List Int) (hne : ys ≠ []) : grpD (D.put (.int .i64 s) (.slice (lits .i64 ys) [])) (fun s' => if s = s' then ys else M s') := by
  refine ⟨h.1.put _ _, fun s' => ?_⟩
  by_cases e : s = s'
  · subst e
    rw [atKey_put_same h.1 (show Go.WideAt.IsKeyLit (.int .i64 s) from trivial)]
    simp only [if_true, if_neg hne]
  · rw [atKey_put_other (fun e2 => e (by injection e2 with _ e2; exact e2.symm)), h.2 s']
    simp only [if_neg e]
theorem grpD_same {H : Type} {D : DataW H} {M N : Int → List Int} (h : grpD D M) (e : ∀ s, M s = N s) : grpD D N := by
  have : M = N := funext e
  exact this ▸ h
/-- a step leaves all old blocks but one: laid over a draw and a new block -/
theorem grown_drew' (w : World) (row : Option Nat) : w.grownBy w.drew row := ⟨rfl, rfl, rfl, Nat.le_refl _, fun _ _ _ => rfl⟩
end Go.Proofs.Ytfkpjfohkkilmaa
