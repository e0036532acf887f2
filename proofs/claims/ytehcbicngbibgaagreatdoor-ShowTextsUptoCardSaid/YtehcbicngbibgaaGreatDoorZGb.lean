/- Lists that a Book keeps: what is told of them while they are filled with marks, grow, and are looked at. -/
import Derived.Test.YtehcbicngbibgaaGreatDoorZGa
namespace Go.Proofs.YtehcbicngbibgaaGreatDoor
open Go Go.RowKit
/-- A list that is kept: its slice, its length, its number, what it has grown to. -/
structure Ent where
  v : Value
  n : Nat
  i : Nat
  u : Value
def hcells (L : List Ent) : List Value := L.flatMap fun e => [e.v, e.u, .int .i64 (e.i : Nat)]
theorem hcells_len (L : List Ent) : (hcells L).length = L.length * 3 := by
  induction L with
  | nil => rfl
  | cons e r ih => simp only [hcells, List.flatMap_cons, List.length_append, List.length_cons, List.length_nil] at ih ⊢; omega
theorem hcells_append (L M : List Ent) : hcells (L ++ M) = hcells L ++ hcells M := by simp [hcells]
theorem hcells_at {L : List Ent} {k : Nat} {e : Ent} (h : L[k]? = some e) : (hcells L)[k * 3]? = some e.v ∧ (hcells L)[k * 3 + 1]? = some e.u ∧ (hcells L)[k * 3 + 2]? = some (.int .i64 (e.i : Nat)) := by
  induction L generalizing k with
  | nil => simp at h
  | cons a r ih =>
    cases k with
    | zero => simp at h; subst h; simp [hcells]
    | succ k =>
      have h2 := ih (by simpa using h)
      have e1 : hcells (a :: r) = [a.v, a.u, .int .i64 (a.i : Nat)] ++ hcells r := rfl
      rw [e1]
      refine ⟨?_, ?_, ?_⟩
      · rw [List.getElem?_append_right (by simp; omega)]; rw [← h2.1]; congr 1; simp; omega
      · rw [List.getElem?_append_right (by simp; omega)]; rw [← h2.2.1]; congr 1; simp; omega
      · rw [List.getElem?_append_right (by simp; omega)]; rw [← h2.2.2]; congr 1; simp; omega
theorem hcells_set {L : List Ent} {k : Nat} {e : Ent} (h : L[k]? = some e) (u : Value) : (hcells L).set (k * 3 + 1) u = hcells (L.set k { e with u := u }) := by
  induction L generalizing k with
  | nil => simp at h
  | cons a r ih =>
    have e1 : hcells (a :: r) = [a.v, a.u, .int .i64 (a.i : Nat)] ++ hcells r := rfl
    cases k with
    | zero => simp at h; subst h; simp [hcells]
    | succ k =>
      have h2 := ih (k := k) (by simpa using h)
      rw [e1, List.set_append_right _ _ (by simp; omega), List.set_cons_succ]
      have e2 : hcells (a :: r.set k { e with u := u }) = [a.v, a.u, .int .i64 (a.i : Nat)] ++ hcells (r.set k { e with u := u }) := rfl
      rw [e2, ← h2]
      congr 2; simp; omega
/-- n marks of the number i. -/
def marks (mk : Nat → List Value) (i n : Nat) : List Value := (List.replicate n (mk i)).flatten
theorem marks_len {mk : Nat → List Value} {K : Nat} (h : ∀ i, (mk i).length = K) (i n : Nat) : (marks mk i n).length = n * K := by
  simp [marks, h]
theorem marks_succ (mk : Nat → List Value) (i n : Nat) : marks mk i (n + 1) = marks mk i n ++ mk i := by
  simp [marks, List.replicate_succ']
theorem marks_add (mk : Nat → List Value) (i n m : Nat) : marks mk i (n + m) = marks mk i n ++ marks mk i m := by
  simp [marks, ← List.replicate_append_replicate]
theorem marks_at {mk : Nat → List Value} {K : Nat} (hK : ∀ i, (mk i).length = K) (i M k : Nat) (h : k < M) (j : Nat) (hj : j < K) : (marks mk i M)[k * K + j]? = (mk i)[j]? := by
  obtain ⟨m, rfl⟩ : ∃ m, M = k + (1 + m) := ⟨M - k - 1, by omega⟩
  rw [marks_add, marks_add, List.getElem?_append_right (by rw [marks_len hK]; omega), marks_len hK, List.getElem?_append_left (by rw [marks_len hK]; omega)]
  have : marks mk i 1 = mk i := by simp [marks]
  rw [this]; congr 1; omega
/-- All lies as it lay, but for the blocks of which P holds. -/
structure Frm (P : Nat → Prop) (w w' : World) : Prop where
  os : w'.os = w.os
  tape : w'.tape = w.tape
  output : w'.output = w.output
  size : w.heap.size ≤ w'.heap.size
  block : ∀ k, k < w.heap.size → ¬ P k → w'.heap[k]? = w.heap[k]?
theorem Frm.refl (P : Nat → Prop) (w : World) : Frm P w w := ⟨rfl, rfl, rfl, Nat.le_refl _, fun _ _ _ => rfl⟩
theorem Frm.trans {P : Nat → Prop} {a b c : World} (h : Frm P a b) (k : Frm P b c) : Frm P a c :=
  ⟨k.os.trans h.os, k.tape.trans h.tape, k.output.trans h.output, Nat.le_trans h.size k.size, fun i hi hp => (k.block i (Nat.lt_of_lt_of_le hi h.size) hp).trans (h.block i hi hp)⟩
theorem Frm.weak {P Q : Nat → Prop} {a b : World} (h : Frm P a b) (hq : ∀ k, P k → Q k) : Frm Q a b := ⟨h.os, h.tape, h.output, h.size, fun i hi hp => h.block i hi (fun e => hp (hq i e))⟩
theorem Frm.of_below {P : Nat → Prop} {a b : World} (h : Below a.heap.size a b) : Frm P a b := ⟨h.os, h.tape, h.output, h.size, fun i hi _ => h.block i hi⟩
theorem Frm.of_grown {P : Nat → Prop} {a b : World} {row : Option Nat} (h : a.grownBy b row) (hp : ∀ k, row = some k → P k) : Frm P a b := ⟨h.os, h.tape, h.output, h.size, fun i hi hn => h.block i hi (fun e => hn (hp i e.symm))⟩
theorem Frm.low {P : Nat → Prop} {a b : World} (h : Frm P a b) {B : Nat} (hB : B ≤ a.heap.size) (hp : ∀ k, P k → B ≤ k) : Below B a b := ⟨h.os, h.tape, h.output, h.size, fun i hi => h.block i (by omega) (fun e => by have := hp i e; omega)⟩
theorem Frm.cell {P : Nat → Prop} {a b : World} (h : Frm P a b) {p : Addr} (h1 : p.block < a.heap.size) (h2 : ¬ P p.block) : b.cell? p = a.cell? p := World.cell?_of_block (h.block _ h1 h2)
theorem own_same {w w' : World} {base : Nat} {e : TypeId} {size : Nat} {v : Value} {n : Nat} {xs : List Value} (h : w.ownsRow base e size v n xs) (hb : ∀ k, v.ownBlock = some k → w'.heap[k]? = w.heap[k]?) : w'.ownsRow base e size v n xs := by
  refine ⟨h.1, h.2.imp id ?_⟩
  rintro ⟨g, cap, cur, rfl, h1, h2, h3⟩
  exact ⟨g, cap, cur, rfl, h1, (hb g rfl).trans h2, h3⟩
theorem Frm.own {P : Nat → Prop} {a b : World} (hf : Frm P a b) {base : Nat} {e : TypeId} {size : Nat} {v : Value} {n : Nat} {xs : List Value} (h : a.ownsRow base e size v n xs) (hp : ∀ k, v.ownBlock = some k → ¬ P k) : b.ownsRow base e size v n xs :=
  own_same h fun k hk => hf.block k (h.lt k hk).2 (hp k hk)
/-- No two of them in one block. -/
def EApart (L : List Ent) : Prop := L.Pairwise fun a b => ∀ k, a.v.ownBlock = some k → b.v.ownBlock ≠ some k
theorem EApart.ne {L : List Ent} (h : EApart L) {p q : Nat} {a b : Ent} (ha : L[p]? = some a) (hb : L[q]? = some b) (hpq : p ≠ q) : ∀ k, a.v.ownBlock = some k → b.v.ownBlock ≠ some k := by
  have hp := (List.getElem?_eq_some_iff.1 ha)
  have hq := (List.getElem?_eq_some_iff.1 hb)
  obtain ⟨h1, h1'⟩ := hp
  obtain ⟨h2, h2'⟩ := hq
  rcases Nat.lt_or_gt_of_ne hpq with h3 | h3
  · have := List.pairwise_iff_getElem.1 h p q h1 h2 h3
    rw [h1', h2'] at this
    exact this
  · have := List.pairwise_iff_getElem.1 h q p h2 h1 h3
    rw [h1', h2'] at this
    exact fun k hk e => this k e hk
theorem row_shape {w : World} {base : Nat} {e : TypeId} {size : Nat} {v : Value} {n : Nat} {xs : List Value} (h : w.ownsRow base e size v n xs) : ∃ ao cap, v = .slice ao n cap := by
  rcases h.2 with ⟨rfl, rfl⟩ | ⟨g, cap, cur, rfl, _⟩
  · exact ⟨none, 0, rfl⟩
  · exact ⟨_, cap, rfl⟩
theorem cell_is {w : World} {base : Nat} {e : TypeId} {g n cap size : Nat} {xs : List Value} (h : w.ownsRow base e size (.slice (some ⟨g, 0, none⟩) n cap) n xs) (j : Nat) (hj : j < n * size) : ∃ u, w.cell? ⟨g, j, none⟩ = some u := by
  rw [h.cellAt j hj]
  exact ⟨_, List.getElem?_eq_getElem (by rw [h.1]; exact hj)⟩
theorem mklenValue (i : Nat) : (mkValue i).length = 8 := rfl
theorem lset8 (pre post : List Value) (a0 a1 a2 a3 a4 a5 a6 a7 b0 b1 b2 b3 b4 b5 b6 b7 : Value) (k : Nat) (hk : pre.length = k * 8) :
    (((((((((pre ++ [a0, a1, a2, a3, a4, a5, a6, a7] ++ post).set (k * 8) b0).set (k * 8 + 1) b1).set (k * 8 + 2) b2).set (k * 8 + 3) b3).set (k * 8 + 4) b4).set (k * 8 + 5) b5).set (k * 8 + 6) b6).set (k * 8 + 7) b7) = pre ++ [b0, b1, b2, b3, b4, b5, b6, b7] ++ post := by
  have e0 : (pre ++ [a0, a1, a2, a3, a4, a5, a6, a7] ++ post).set (k * 8) b0 = pre ++ [b0, a1, a2, a3, a4, a5, a6, a7] ++ post := by
    rw [List.append_assoc, List.set_append_right _ _ (by omega), show k * 8 - pre.length = 0 by omega, List.append_assoc]; rfl
  have e1 : (pre ++ [b0, a1, a2, a3, a4, a5, a6, a7] ++ post).set (k * 8 + 1) b1 = pre ++ [b0, b1, a2, a3, a4, a5, a6, a7] ++ post := by
    rw [List.append_assoc, List.set_append_right _ _ (by omega), show k * 8 + 1 - pre.length = 1 by omega, List.append_assoc]; rfl
  have e2 : (pre ++ [b0, b1, a2, a3, a4, a5, a6, a7] ++ post).set (k * 8 + 2) b2 = pre ++ [b0, b1, b2, a3, a4, a5, a6, a7] ++ post := by
    rw [List.append_assoc, List.set_append_right _ _ (by omega), show k * 8 + 2 - pre.length = 2 by omega, List.append_assoc]; rfl
  have e3 : (pre ++ [b0, b1, b2, a3, a4, a5, a6, a7] ++ post).set (k * 8 + 3) b3 = pre ++ [b0, b1, b2, b3, a4, a5, a6, a7] ++ post := by
    rw [List.append_assoc, List.set_append_right _ _ (by omega), show k * 8 + 3 - pre.length = 3 by omega, List.append_assoc]; rfl
  have e4 : (pre ++ [b0, b1, b2, b3, a4, a5, a6, a7] ++ post).set (k * 8 + 4) b4 = pre ++ [b0, b1, b2, b3, b4, a5, a6, a7] ++ post := by
    rw [List.append_assoc, List.set_append_right _ _ (by omega), show k * 8 + 4 - pre.length = 4 by omega, List.append_assoc]; rfl
  have e5 : (pre ++ [b0, b1, b2, b3, b4, a5, a6, a7] ++ post).set (k * 8 + 5) b5 = pre ++ [b0, b1, b2, b3, b4, b5, a6, a7] ++ post := by
    rw [List.append_assoc, List.set_append_right _ _ (by omega), show k * 8 + 5 - pre.length = 5 by omega, List.append_assoc]; rfl
  have e6 : (pre ++ [b0, b1, b2, b3, b4, b5, a6, a7] ++ post).set (k * 8 + 6) b6 = pre ++ [b0, b1, b2, b3, b4, b5, b6, a7] ++ post := by
    rw [List.append_assoc, List.set_append_right _ _ (by omega), show k * 8 + 6 - pre.length = 6 by omega, List.append_assoc]; rfl
  have e7 : (pre ++ [b0, b1, b2, b3, b4, b5, b6, a7] ++ post).set (k * 8 + 7) b7 = pre ++ [b0, b1, b2, b3, b4, b5, b6, b7] ++ post := by
    rw [List.append_assoc, List.set_append_right _ _ (by omega), show k * 8 + 7 - pre.length = 7 by omega, List.append_assoc]; rfl
  rw [e0, e1, e2, e3, e4, e5, e6, e7]
theorem bstored8 {w : World} {base : Nat} {e : TypeId} {g n cap : Nat} {pre old post : List Value} (h : w.ownsRow base e 8 (.slice (some ⟨g, 0, none⟩) n cap) n (pre ++ old ++ post)) (k : Nat) (hk : pre.length = k * 8) (ho : old.length = 8) (b0 b1 b2 b3 b4 b5 b6 b7 : Value) :
    (((((((((w.setCell ⟨g, k * 8, none⟩ b0).setCell ⟨g, k * 8 + 1, none⟩ b1).setCell ⟨g, k * 8 + 2, none⟩ b2).setCell ⟨g, k * 8 + 3, none⟩ b3).setCell ⟨g, k * 8 + 4, none⟩ b4).setCell ⟨g, k * 8 + 5, none⟩ b5).setCell ⟨g, k * 8 + 6, none⟩ b6).setCell ⟨g, k * 8 + 7, none⟩ b7)).ownsRow base e 8 (.slice (some ⟨g, 0, none⟩) n cap) n (pre ++ [b0, b1, b2, b3, b4, b5, b6, b7] ++ post) := by
  obtain ⟨a0, a1, a2, a3, a4, a5, a6, a7, rfl⟩ : ∃ a0 a1 a2 a3 a4 a5 a6 a7, old = [a0, a1, a2, a3, a4, a5, a6, a7] := by
    match old, ho with
    | [a0, a1, a2, a3, a4, a5, a6, a7], _ => exact ⟨a0, a1, a2, a3, a4, a5, a6, a7, rfl⟩
  replace h := (h.stored (k * 8) b0).1
  replace h := (h.stored (k * 8 + 1) b1).1
  replace h := (h.stored (k * 8 + 2) b2).1
  replace h := (h.stored (k * 8 + 3) b3).1
  replace h := (h.stored (k * 8 + 4) b4).1
  replace h := (h.stored (k * 8 + 5) b5).1
  replace h := (h.stored (k * 8 + 6) b6).1
  replace h := (h.stored (k * 8 + 7) b7).1
  rw [lset8 pre post a0 a1 a2 a3 a4 a5 a6 a7 b0 b1 b2 b3 b4 b5 b6 b7 k hk] at h
  exact h
theorem grow8 (w : World) (g m : Nat) (b0 b1 b2 b3 b4 b5 b6 b7 : Value) : w.grownBy (((((((((w.setCell ⟨g, m, none⟩ b0).setCell ⟨g, m + 1, none⟩ b1).setCell ⟨g, m + 2, none⟩ b2).setCell ⟨g, m + 3, none⟩ b3).setCell ⟨g, m + 4, none⟩ b4).setCell ⟨g, m + 5, none⟩ b5).setCell ⟨g, m + 6, none⟩ b6).setCell ⟨g, m + 7, none⟩ b7)) (some g) := grown_again (grown_again (grown_again (grown_again (grown_again (grown_again (grown_again (cell_grown _ g _ _) (cell_grown _ g _ _)) (cell_grown _ g _ _)) (cell_grown _ g _ _)) (cell_grown _ g _ _)) (cell_grown _ g _ _)) (cell_grown _ g _ _)) (cell_grown _ g _ _)
theorem mklenField (i : Nat) : (mkField i).length = 9 := rfl
theorem lset9 (pre post : List Value) (a0 a1 a2 a3 a4 a5 a6 a7 a8 b0 b1 b2 b3 b4 b5 b6 b7 b8 : Value) (k : Nat) (hk : pre.length = k * 9) :
    ((((((((((pre ++ [a0, a1, a2, a3, a4, a5, a6, a7, a8] ++ post).set (k * 9) b0).set (k * 9 + 1) b1).set (k * 9 + 2) b2).set (k * 9 + 3) b3).set (k * 9 + 4) b4).set (k * 9 + 5) b5).set (k * 9 + 6) b6).set (k * 9 + 7) b7).set (k * 9 + 8) b8) = pre ++ [b0, b1, b2, b3, b4, b5, b6, b7, b8] ++ post := by
  have e0 : (pre ++ [a0, a1, a2, a3, a4, a5, a6, a7, a8] ++ post).set (k * 9) b0 = pre ++ [b0, a1, a2, a3, a4, a5, a6, a7, a8] ++ post := by
    rw [List.append_assoc, List.set_append_right _ _ (by omega), show k * 9 - pre.length = 0 by omega, List.append_assoc]; rfl
  have e1 : (pre ++ [b0, a1, a2, a3, a4, a5, a6, a7, a8] ++ post).set (k * 9 + 1) b1 = pre ++ [b0, b1, a2, a3, a4, a5, a6, a7, a8] ++ post := by
    rw [List.append_assoc, List.set_append_right _ _ (by omega), show k * 9 + 1 - pre.length = 1 by omega, List.append_assoc]; rfl
  have e2 : (pre ++ [b0, b1, a2, a3, a4, a5, a6, a7, a8] ++ post).set (k * 9 + 2) b2 = pre ++ [b0, b1, b2, a3, a4, a5, a6, a7, a8] ++ post := by
    rw [List.append_assoc, List.set_append_right _ _ (by omega), show k * 9 + 2 - pre.length = 2 by omega, List.append_assoc]; rfl
  have e3 : (pre ++ [b0, b1, b2, a3, a4, a5, a6, a7, a8] ++ post).set (k * 9 + 3) b3 = pre ++ [b0, b1, b2, b3, a4, a5, a6, a7, a8] ++ post := by
    rw [List.append_assoc, List.set_append_right _ _ (by omega), show k * 9 + 3 - pre.length = 3 by omega, List.append_assoc]; rfl
  have e4 : (pre ++ [b0, b1, b2, b3, a4, a5, a6, a7, a8] ++ post).set (k * 9 + 4) b4 = pre ++ [b0, b1, b2, b3, b4, a5, a6, a7, a8] ++ post := by
    rw [List.append_assoc, List.set_append_right _ _ (by omega), show k * 9 + 4 - pre.length = 4 by omega, List.append_assoc]; rfl
  have e5 : (pre ++ [b0, b1, b2, b3, b4, a5, a6, a7, a8] ++ post).set (k * 9 + 5) b5 = pre ++ [b0, b1, b2, b3, b4, b5, a6, a7, a8] ++ post := by
    rw [List.append_assoc, List.set_append_right _ _ (by omega), show k * 9 + 5 - pre.length = 5 by omega, List.append_assoc]; rfl
  have e6 : (pre ++ [b0, b1, b2, b3, b4, b5, a6, a7, a8] ++ post).set (k * 9 + 6) b6 = pre ++ [b0, b1, b2, b3, b4, b5, b6, a7, a8] ++ post := by
    rw [List.append_assoc, List.set_append_right _ _ (by omega), show k * 9 + 6 - pre.length = 6 by omega, List.append_assoc]; rfl
  have e7 : (pre ++ [b0, b1, b2, b3, b4, b5, b6, a7, a8] ++ post).set (k * 9 + 7) b7 = pre ++ [b0, b1, b2, b3, b4, b5, b6, b7, a8] ++ post := by
    rw [List.append_assoc, List.set_append_right _ _ (by omega), show k * 9 + 7 - pre.length = 7 by omega, List.append_assoc]; rfl
  have e8 : (pre ++ [b0, b1, b2, b3, b4, b5, b6, b7, a8] ++ post).set (k * 9 + 8) b8 = pre ++ [b0, b1, b2, b3, b4, b5, b6, b7, b8] ++ post := by
    rw [List.append_assoc, List.set_append_right _ _ (by omega), show k * 9 + 8 - pre.length = 8 by omega, List.append_assoc]; rfl
  rw [e0, e1, e2, e3, e4, e5, e6, e7, e8]
theorem bstored9 {w : World} {base : Nat} {e : TypeId} {g n cap : Nat} {pre old post : List Value} (h : w.ownsRow base e 9 (.slice (some ⟨g, 0, none⟩) n cap) n (pre ++ old ++ post)) (k : Nat) (hk : pre.length = k * 9) (ho : old.length = 9) (b0 b1 b2 b3 b4 b5 b6 b7 b8 : Value) :
    ((((((((((w.setCell ⟨g, k * 9, none⟩ b0).setCell ⟨g, k * 9 + 1, none⟩ b1).setCell ⟨g, k * 9 + 2, none⟩ b2).setCell ⟨g, k * 9 + 3, none⟩ b3).setCell ⟨g, k * 9 + 4, none⟩ b4).setCell ⟨g, k * 9 + 5, none⟩ b5).setCell ⟨g, k * 9 + 6, none⟩ b6).setCell ⟨g, k * 9 + 7, none⟩ b7).setCell ⟨g, k * 9 + 8, none⟩ b8)).ownsRow base e 9 (.slice (some ⟨g, 0, none⟩) n cap) n (pre ++ [b0, b1, b2, b3, b4, b5, b6, b7, b8] ++ post) := by
  obtain ⟨a0, a1, a2, a3, a4, a5, a6, a7, a8, rfl⟩ : ∃ a0 a1 a2 a3 a4 a5 a6 a7 a8, old = [a0, a1, a2, a3, a4, a5, a6, a7, a8] := by
    match old, ho with
    | [a0, a1, a2, a3, a4, a5, a6, a7, a8], _ => exact ⟨a0, a1, a2, a3, a4, a5, a6, a7, a8, rfl⟩
  replace h := (h.stored (k * 9) b0).1
  replace h := (h.stored (k * 9 + 1) b1).1
  replace h := (h.stored (k * 9 + 2) b2).1
  replace h := (h.stored (k * 9 + 3) b3).1
  replace h := (h.stored (k * 9 + 4) b4).1
  replace h := (h.stored (k * 9 + 5) b5).1
  replace h := (h.stored (k * 9 + 6) b6).1
  replace h := (h.stored (k * 9 + 7) b7).1
  replace h := (h.stored (k * 9 + 8) b8).1
  rw [lset9 pre post a0 a1 a2 a3 a4 a5 a6 a7 a8 b0 b1 b2 b3 b4 b5 b6 b7 b8 k hk] at h
  exact h
theorem grow9 (w : World) (g m : Nat) (b0 b1 b2 b3 b4 b5 b6 b7 b8 : Value) : w.grownBy ((((((((((w.setCell ⟨g, m, none⟩ b0).setCell ⟨g, m + 1, none⟩ b1).setCell ⟨g, m + 2, none⟩ b2).setCell ⟨g, m + 3, none⟩ b3).setCell ⟨g, m + 4, none⟩ b4).setCell ⟨g, m + 5, none⟩ b5).setCell ⟨g, m + 6, none⟩ b6).setCell ⟨g, m + 7, none⟩ b7).setCell ⟨g, m + 8, none⟩ b8)) (some g) := grown_again (grown_again (grown_again (grown_again (grown_again (grown_again (grown_again (grown_again (cell_grown _ g _ _) (cell_grown _ g _ _)) (cell_grown _ g _ _)) (cell_grown _ g _ _)) (cell_grown _ g _ _)) (cell_grown _ g _ _)) (cell_grown _ g _ _)) (cell_grown _ g _ _)) (cell_grown _ g _ _)
theorem mklenNode (i : Nat) : (mkNode i).length = 5 := rfl
theorem lset5 (pre post : List Value) (a0 a1 a2 a3 a4 b0 b1 b2 b3 b4 : Value) (k : Nat) (hk : pre.length = k * 5) :
    ((((((pre ++ [a0, a1, a2, a3, a4] ++ post).set (k * 5) b0).set (k * 5 + 1) b1).set (k * 5 + 2) b2).set (k * 5 + 3) b3).set (k * 5 + 4) b4) = pre ++ [b0, b1, b2, b3, b4] ++ post := by
  have e0 : (pre ++ [a0, a1, a2, a3, a4] ++ post).set (k * 5) b0 = pre ++ [b0, a1, a2, a3, a4] ++ post := by
    rw [List.append_assoc, List.set_append_right _ _ (by omega), show k * 5 - pre.length = 0 by omega, List.append_assoc]; rfl
  have e1 : (pre ++ [b0, a1, a2, a3, a4] ++ post).set (k * 5 + 1) b1 = pre ++ [b0, b1, a2, a3, a4] ++ post := by
    rw [List.append_assoc, List.set_append_right _ _ (by omega), show k * 5 + 1 - pre.length = 1 by omega, List.append_assoc]; rfl
  have e2 : (pre ++ [b0, b1, a2, a3, a4] ++ post).set (k * 5 + 2) b2 = pre ++ [b0, b1, b2, a3, a4] ++ post := by
    rw [List.append_assoc, List.set_append_right _ _ (by omega), show k * 5 + 2 - pre.length = 2 by omega, List.append_assoc]; rfl
  have e3 : (pre ++ [b0, b1, b2, a3, a4] ++ post).set (k * 5 + 3) b3 = pre ++ [b0, b1, b2, b3, a4] ++ post := by
    rw [List.append_assoc, List.set_append_right _ _ (by omega), show k * 5 + 3 - pre.length = 3 by omega, List.append_assoc]; rfl
  have e4 : (pre ++ [b0, b1, b2, b3, a4] ++ post).set (k * 5 + 4) b4 = pre ++ [b0, b1, b2, b3, b4] ++ post := by
    rw [List.append_assoc, List.set_append_right _ _ (by omega), show k * 5 + 4 - pre.length = 4 by omega, List.append_assoc]; rfl
  rw [e0, e1, e2, e3, e4]
theorem bstored5 {w : World} {base : Nat} {e : TypeId} {g n cap : Nat} {pre old post : List Value} (h : w.ownsRow base e 5 (.slice (some ⟨g, 0, none⟩) n cap) n (pre ++ old ++ post)) (k : Nat) (hk : pre.length = k * 5) (ho : old.length = 5) (b0 b1 b2 b3 b4 : Value) :
    ((((((w.setCell ⟨g, k * 5, none⟩ b0).setCell ⟨g, k * 5 + 1, none⟩ b1).setCell ⟨g, k * 5 + 2, none⟩ b2).setCell ⟨g, k * 5 + 3, none⟩ b3).setCell ⟨g, k * 5 + 4, none⟩ b4)).ownsRow base e 5 (.slice (some ⟨g, 0, none⟩) n cap) n (pre ++ [b0, b1, b2, b3, b4] ++ post) := by
  obtain ⟨a0, a1, a2, a3, a4, rfl⟩ : ∃ a0 a1 a2 a3 a4, old = [a0, a1, a2, a3, a4] := by
    match old, ho with
    | [a0, a1, a2, a3, a4], _ => exact ⟨a0, a1, a2, a3, a4, rfl⟩
  replace h := (h.stored (k * 5) b0).1
  replace h := (h.stored (k * 5 + 1) b1).1
  replace h := (h.stored (k * 5 + 2) b2).1
  replace h := (h.stored (k * 5 + 3) b3).1
  replace h := (h.stored (k * 5 + 4) b4).1
  rw [lset5 pre post a0 a1 a2 a3 a4 b0 b1 b2 b3 b4 k hk] at h
  exact h
theorem grow5 (w : World) (g m : Nat) (b0 b1 b2 b3 b4 : Value) : w.grownBy ((((((w.setCell ⟨g, m, none⟩ b0).setCell ⟨g, m + 1, none⟩ b1).setCell ⟨g, m + 2, none⟩ b2).setCell ⟨g, m + 3, none⟩ b3).setCell ⟨g, m + 4, none⟩ b4)) (some g) := grown_again (grown_again (grown_again (grown_again (cell_grown _ g _ _) (cell_grown _ g _ _)) (cell_grown _ g _ _)) (cell_grown _ g _ _)) (cell_grown _ g _ _)
end Go.Proofs.YtehcbicngbibgaaGreatDoor
