/- A map of rows of numbers; what Least reckons, in plain words. -/
import Derived.Test.YtehcbicngbibgaaBgS
namespace Go.Proofs.Ytehcbicngbibgaa
open Go Go.RowKit Go.Maps

def seek (A : List Seat) (k : Int) : Option Seat := A.find? fun s => s.id == k
theorem seek_some {A : List Seat} {k : Int} {s : Seat} (h : seek A k = some s) : s ∈ A ∧ s.id = k := by
  have h1 := List.mem_of_find?_eq_some h
  have h2 := List.find?_some h
  exact ⟨h1, by simpa using h2⟩
theorem seek_none {A : List Seat} {k : Int} (h : seek A k = none) : ∀ s ∈ A, s.id ≠ k := by
  intro s hs e
  have := List.find?_eq_none.1 h s hs
  simp [e] at this
/-- What a look-up in a map of seats gives. -/
def seekV (A : List Seat) (k : Int) : Value := match seek A k with | some s => s.val | none => zeroSeat
theorem at_seek (A : List Seat) (hn : (A.map (·.id)).Nodup) (k : Int) : (mapOf A).atKey (keyL k) (.held zeroSeat) = .held (seekV A k) := by
  unfold seekV
  cases h : seek A k with
  | none => exact at_mapOf_out A k (seek_none h) _
  | some s => obtain ⟨h1, rfl⟩ := seek_some h; exact at_mapOf A hn s h1 _
theorem has_seek (A : List Seat) (k : Int) : Maps.has (mapOf A) (keyL k) = (seek A k).isSome := by
  rw [has_mapOf, Bool.eq_iff_iff, List.any_eq_true]
  unfold seek
  rw [List.find?_isSome]

/-- The place among its row's nodes that a node had. -/
def rowItem (A : List Seat) (s : Seat) : Option Int := match seek A s.id with | some o => if o.row = s.row then some (o.pos : Nat) else none | none => none
def rowsOf (A l : List Seat) (r : Int) : List Int := l.filterMap fun s => if s.row = r then rowItem A s else none
theorem rowsOf_snoc (A l : List Seat) (s : Seat) (r : Int) : rowsOf A (l ++ [s]) r = rowsOf A l r ++ (if s.row = r then (rowItem A s).toList else []) := by
  unfold rowsOf
  rw [List.filterMap_append]
  congr 1
  by_cases h : s.row = r
  · simp only [h, if_true]; cases h2 : rowItem A s <;> simp [List.filterMap, h, h2]
  · simp [h]
theorem rowsOf_len (A l : List Seat) (r : Int) : (rowsOf A l r).length ≤ l.length := List.length_filterMap_le _ _

/-- Block bm is a map of rows: at k the numbers f k, if there are any; the rows are apart. -/
structure RowsAt (w : World) (B bm N : Nat) (f : Int → List Int) : Prop where
  ex : ∃ (D : DataW Value) (n : Nat) (V : Int → Value), w.ownsMap Try.prog 3 R bm n D ∧ n ≤ N ∧ IsMap D ∧ (∀ k, f k = [] → V k = .slice none 0 0) ∧
    (∀ k, Maps.has D (keyL k) = !(f k).isEmpty) ∧ (∀ k, D.atKey (keyL k) (.held (.slice none 0 0)) = .held (V k)) ∧ (∀ k, OwnIds w B (V k) (f k)) ∧ (∀ k k', k ≠ k' → ∀ b, (V k).ownBlock = some b → (V k').ownBlock ≠ some b) ∧ (∀ k b, (V k).ownBlock = some b → b ≠ bm)
theorem RowsAt.made (w : World) (B : Nat) : RowsAt (w.alloc (.map #[] 0)) B w.heap.size 0 (fun _ => []) :=
  ⟨.map [], 0, fun _ => .slice none 0 0, World.ownsMap_made _ _ _ _, Nat.le_refl _, isMap_empty, fun _ _ => rfl, fun _ => rfl, fun _ => rfl, fun _ => World.ownsRow_nil _ _ _ _, fun _ _ _ b h => by simp [Value.ownBlock] at h, fun _ b h => by simp [Value.ownBlock] at h⟩
theorem RowsAt.kept {w w' : World} {B bm N : Nat} {f : Int → List Int} (h : RowsAt w B bm N f) (hb : ∀ j, j < w.heap.size → (j = bm ∨ B ≤ j) → w'.heap[j]? = w.heap[j]?) (hs : w.heap.size ≤ w'.heap.size) : RowsAt w' B bm N f := by
  obtain ⟨D, n, V, h1, h2, h3, h4, h5, h6, h7, h8, h9⟩ := h.ex
  have hlt := h1.lt
  refine ⟨D, n, V, ?_, h2, h3, h4, h5, h6, fun k => ?_, h8, h9⟩
  · obtain ⟨es, clock, e1, F, e2, e3⟩ := h1
    exact ⟨es, clock, (hb bm hlt (.inl rfl)).trans e1, F, e2, e3⟩
  · have hk := h7 k
    refine ⟨hk.1, ?_⟩
    rcases hk.2 with h0 | ⟨g, cap, cur, e1, e2, e3, e4⟩
    · exact .inl h0
    · exact .inr ⟨g, cap, cur, e1, e2, (hb g (Array.getElem?_eq_some_iff.1 e3).1 (.inr e2)).trans e3, e4⟩
theorem RowsAt.below {w w' : World} {B bm N : Nat} {f : Int → List Int} (h : RowsAt w B bm N f) (hb : Below w.heap.size w w') : RowsAt w' B bm N f := h.kept (fun j hj _ => hb.block j hj) hb.size
theorem RowsAt.mono {w : World} {B bm N M : Nat} {f : Int → List Int} (h : RowsAt w B bm N f) (hN : N ≤ M) : RowsAt w B bm M f := by
  obtain ⟨D, n, V, h1, h2, h3⟩ := h.ex
  exact ⟨D, n, V, h1, Nat.le_trans h2 hN, h3⟩
/-- One number more in one row. -/
theorem RowsAt.step {W W1 W2 : World} {B bm n : Nat} {f : Int → List Int} {D : DataW Value} {V : Int → Value} (k x : Int) (v' : Value) (_h1 : W.ownsMap Try.prog 3 R bm n D) (h3 : IsMap D) (h4 : ∀ k, f k = [] → V k = .slice none 0 0)
    (h5 : ∀ k, Maps.has D (keyL k) = !(f k).isEmpty) (h6 : ∀ k, D.atKey (keyL k) (.held (.slice none 0 0)) = .held (V k)) (h7 : ∀ k, OwnIds W B (V k) (f k)) (h8 : ∀ k k', k ≠ k' → ∀ b, (V k).ownBlock = some b → (V k').ownBlock ≠ some b) (h9 : ∀ k b, (V k).ownBlock = some b → b ≠ bm)
    (hown' : OwnIds W1 B v' (f k ++ [x])) (hgr : W.grownBy W1 (V k).ownBlock) (hloc : v'.ownBlock = (V k).ownBlock ∨ ∃ b, v'.ownBlock = some b ∧ W.heap.size ≤ b) (hbm : bm < W.heap.size)
    (h2 : W2.ownsMap Try.prog 3 R bm (n + 1) (D.put (keyL k) (.held v'))) (hg2 : W1.grownBy W2 (some bm)) : RowsAt W2 B bm (n + 1) (fun r => if r = k then f k ++ [x] else f r) := by
  have hne' : ∀ b, v'.ownBlock = some b → b ≠ bm := fun b hb => by
    rcases hloc with e | ⟨b2, e, hb2⟩
    · exact h9 k b (e ▸ hb)
    · rw [e] at hb; injection hb with hb; omega
  have hlow : ∀ r b, (V r).ownBlock = some b → b < W.heap.size := fun r b hb => ((h7 r).lt b hb).2
  refine ⟨_, n + 1, fun r => if r = k then v' else V r, h2, Nat.le_refl _, h3.put _ _, fun r hr => ?_, fun r => ?_, fun r => ?_, fun r => ?_, fun r r' hrr b hb => ?_, fun r b hb => ?_⟩
  · by_cases e : r = k
    · simp [e] at hr
    · simp only [e, if_false] at hr ⊢; exact h4 r hr
  · by_cases e : r = k
    · subst e; rw [has_put_same h3 (isKeyL _)]; simp
    · rw [has_put_other (keyL_ne e), h5 r]; simp [e]
  · by_cases e : r = k
    · subst e; rw [atKey_put_same h3 (isKeyL _)]; simp
    · rw [atKey_put_other (keyL_ne e), h6 r]; simp [e]
  · by_cases e : r = k
    · subst e
      simp only [if_true]
      refine World.ownsRow.kept hown' hg2 ?_
      cases hv : v'.ownBlock with
      | none => exact .inl rfl
      | some b => exact .inr (fun e => hne' b hv (by injection e))
    · simp only [e, if_false]
      refine World.ownsRow.kept (World.ownsRow.kept (h7 r) hgr ?_) hg2 ?_
      · cases hv : (V r).ownBlock with
        | none => exact .inl rfl
        | some b => exact .inr (fun e2 => h8 r k e b hv e2.symm)
      · cases hv : (V r).ownBlock with
        | none => exact .inl rfl
        | some b => exact .inr (fun e => h9 r b hv (by injection e))
  · have key : ∀ (q : Int), q ≠ k → ∀ b, v'.ownBlock = some b → (V q).ownBlock ≠ some b := fun q hq b hb e => by
      rcases hloc with e2 | ⟨b2, e2, hb2⟩
      · exact h8 k q (fun h => hq h.symm) b (e2 ▸ hb) e
      · rw [e2] at hb; injection hb with hb; have := hlow q b e; omega
    by_cases e : r = k
    · have e' : r' ≠ k := fun h => hrr (e.trans h.symm)
      simp only [e, e', if_true, if_false] at hb ⊢
      exact key r' e' b hb
    · by_cases e' : r' = k
      · simp only [e, e', if_true, if_false] at hb ⊢
        exact fun h => key r e b h hb
      · simp only [e, e', if_false] at hb ⊢
        exact h8 r r' hrr b hb
  · by_cases e : r = k
    · simp only [e, if_true] at hb; exact hne' b hb
    · simp only [e, if_false] at hb; exact h9 r b hb
end Go.Proofs.Ytehcbicngbibgaa
