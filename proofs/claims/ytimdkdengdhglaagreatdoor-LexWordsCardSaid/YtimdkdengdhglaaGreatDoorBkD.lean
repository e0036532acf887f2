/- A Book's lists of words are filled with their marks. (By XBkD.gen.py.) -/
import Derived.Test.YtimdkdengdhglaaGreatDoorBkC
import Derived.Laws.OwnMore
namespace Go.Proofs.YtimdkdengdhglaaGreatDoor
open Go Go.RowKit

def mcell (i : Nat) : List Value := [.int .u8 0, .string (markB i), .int .i64 0, .int .i64 0]
def mcells (i n : Nat) : List Value := (List.replicate n (mcell i)).flatten
theorem mcells_len (i n : Nat) : (mcells i n).length = n * 4 := by
  induction n with
  | zero => rfl
  | succ n ih =>
    have : mcells i (n + 1) = mcell i ++ mcells i n := by simp [mcells, List.replicate_succ]
    rw [this, List.length_append, ih]; show 4 + n * 4 = _; omega
theorem mcells_succ (i n : Nat) : mcells i (n + 1) = mcells i n ++ mcell i := by
  simp [mcells, List.replicate_succ', List.flatten_append]
/-- Four cells of a row are stored. -/
theorem set4_list (pre post : List Value) (a0 a1 a2 a3 b0 b1 b2 b3 : Value) (k : Nat) (hk : pre.length = k * 4) :
    ((((pre ++ [a0, a1, a2, a3] ++ post).set (k * 4) b0).set (k * 4 + 1) b1).set (k * 4 + 2) b2).set (k * 4 + 3) b3 = pre ++ [b0, b1, b2, b3] ++ post := by
  have e : ∀ (x : List Value) (j : Nat) (v : Value), (pre ++ x).set (k * 4 + j) v = pre ++ x.set j v := fun x j v => by
    rw [List.set_append, if_neg (by omega), hk]; congr 2; omega
  have e0 : ∀ (x : List Value) (v : Value), (pre ++ x).set (k * 4) v = pre ++ x.set 0 v := fun x v => e x 0 v
  rw [List.append_assoc, e0, e, e, e, List.append_assoc]
  simp
theorem stored4 {w : World} {base : Nat} {e : TypeId} {g n cap : Nat} {xs : List Value} (h : w.ownsRow base e 4 (.slice (some ⟨g, 0, none⟩) n cap) n xs) (k : Nat) (v0 v1 v2 v3 : Value) :
    ((((w.setCell ⟨g, k * 4, none⟩ v0).setCell ⟨g, k * 4 + 1, none⟩ v1).setCell ⟨g, k * 4 + 2, none⟩ v2).setCell ⟨g, k * 4 + 3, none⟩ v3).ownsRow base e 4 (.slice (some ⟨g, 0, none⟩) n cap) n ((((xs.set (k * 4) v0).set (k * 4 + 1) v1).set (k * 4 + 2) v2).set (k * 4 + 3) v3) :=
  ((((h.stored (k * 4) v0).1.stored (k * 4 + 1) v1).1.stored (k * 4 + 2) v2).1.stored (k * 4 + 3) v3).1
theorem heap_set4 (w : World) (g k : Nat) (v0 v1 v2 v3 : Value) (j : Nat) (h : j ≠ g) : ((((w.setCell ⟨g, k * 4, none⟩ v0).setCell ⟨g, k * 4 + 1, none⟩ v1).setCell ⟨g, k * 4 + 2, none⟩ v2).setCell ⟨g, k * 4 + 3, none⟩ v3).heap[j]? = w.heap[j]? := by
  rw [Below.heap_setCell _ _ _ _ h, Below.heap_setCell _ _ _ _ h, Below.heap_setCell _ _ _ _ h, Below.heap_setCell _ _ _ _ h]
theorem set4_grown (w : World) (g k : Nat) (v0 v1 v2 v3 : Value) : w.grownBy ((((w.setCell ⟨g, k * 4, none⟩ v0).setCell ⟨g, k * 4 + 1, none⟩ v1).setCell ⟨g, k * 4 + 2, none⟩ v2).setCell ⟨g, k * 4 + 3, none⟩ v3) (some g) :=
  ⟨rfl, rfl, rfl, by simp, fun j _ hj => heap_set4 w g k v0 v1 v2 v3 j (fun e => hj (by rw [e]))⟩

/-- Two lists in a Book. -/
structure Held (W : World) (base B H cap : Nat) (v1 v2 u1 u2 : Value) (N : Nat) (L1 L2 : List Value) : Prop where
  book : BookSt W B 2 (.slice (some ⟨H, 0, none⟩) 2 cap)
  held : W.ownsRow (B + 1) 124 3 (.slice (some ⟨H, 0, none⟩) 2 cap) 2 [v1, u1, .int .i64 1, v2, u2, .int .i64 2]
  one : W.ownsRow base 86 4 v1 N L1
  two : W.ownsRow base 86 4 v2 N L2
  one_lt : ∀ k, v1.ownBlock = some k → k < B
  two_lt : ∀ k, v2.ownBlock = some k → k < B
  ne : ∀ k, v1.ownBlock = some k → v2.ownBlock ≠ some k
  low : base ≤ B
theorem Held.below {W W' : World} {base B H cap : Nat} {v1 v2 u1 u2 : Value} {N : Nat} {L1 L2 : List Value} (h : Held W base B H cap v1 v2 u1 u2 N L1 L2) (hb : Below W.heap.size W W') : Held W' base B H cap v1 v2 u1 u2 N L1 L2 :=
  ⟨h.book.of_block (hb.block B h.book.lt), h.held.kept (World.grownBy.mk hb.os hb.tape hb.output hb.size fun k hk _ => hb.block k hk) (Classical.em _), h.one.kept (World.grownBy.mk hb.os hb.tape hb.output hb.size fun k hk _ => hb.block k hk) (Classical.em _),
    h.two.kept (World.grownBy.mk hb.os hb.tape hb.output hb.size fun k hk _ => hb.block k hk) (Classical.em _), h.one_lt, h.two_lt, h.ne, h.low⟩
theorem Held.cells {W : World} {base B H cap : Nat} {v1 v2 u1 u2 : Value} {N : Nat} {L1 L2 : List Value} (h : Held W base B H cap v1 v2 u1 u2 N L1 L2) :
    W.cell? ⟨H, 0, none⟩ = some v1 ∧ W.cell? ⟨H, 1, none⟩ = some u1 ∧ W.cell? ⟨H, 2, none⟩ = some (.int .i64 1) ∧ W.cell? ⟨H, 3, none⟩ = some v2 ∧ W.cell? ⟨H, 4, none⟩ = some u2 ∧ W.cell? ⟨H, 5, none⟩ = some (.int .i64 2) :=
  ⟨h.held.cellAt 0 (by omega), h.held.cellAt 1 (by omega), h.held.cellAt 2 (by omega), h.held.cellAt 3 (by omega), h.held.cellAt 4 (by omega), h.held.cellAt 5 (by omega)⟩
theorem Held.H_lt {W : World} {base B H cap : Nat} {v1 v2 u1 u2 : Value} {N : Nat} {L1 L2 : List Value} (h : Held W base B H cap v1 v2 u1 u2 N L1 L2) : B + 1 ≤ H ∧ H < W.heap.size := h.held.lt H rfl

/-- A cell of the first list is stored. -/
theorem Held.put1 {W : World} {base B H cap : Nat} {v2 u1 u2 : Value} {g N c : Nat} {L1 L2 : List Value} (h : Held W base B H cap (.slice (some ⟨g, 0, none⟩) N c) v2 u1 u2 N L1 L2) (k : Nat) (x0 x1 x2 x3 : Value) :
    Held ((((W.setCell ⟨g, k * 4, none⟩ x0).setCell ⟨g, k * 4 + 1, none⟩ x1).setCell ⟨g, k * 4 + 2, none⟩ x2).setCell ⟨g, k * 4 + 3, none⟩ x3) base B H cap (.slice (some ⟨g, 0, none⟩) N c) v2 u1 u2 N ((((L1.set (k * 4) x0).set (k * 4 + 1) x1).set (k * 4 + 2) x2).set (k * 4 + 3) x3) L2 := by
  have hg := h.one_lt g rfl
  have hH := h.H_lt
  have hgr := set4_grown W g k x0 x1 x2 x3
  refine ⟨h.book.of_block (heap_set4 W g k x0 x1 x2 x3 B (by omega)), h.held.kept hgr (.inr (fun e => by simp [Value.ownBlock] at e; omega)), ?_, ?_, h.one_lt, h.two_lt, h.ne, h.low⟩
  · exact stored4 h.one k x0 x1 x2 x3
  · exact h.two.kept hgr (.inr (fun e => h.ne g rfl e))

/-- A cell of the second list is stored. -/
theorem Held.put2 {W : World} {base B H cap : Nat} {v1 u1 u2 : Value} {g N c : Nat} {L1 L2 : List Value} (h : Held W base B H cap v1 (.slice (some ⟨g, 0, none⟩) N c) u1 u2 N L1 L2) (k : Nat) (x0 x1 x2 x3 : Value) :
    Held ((((W.setCell ⟨g, k * 4, none⟩ x0).setCell ⟨g, k * 4 + 1, none⟩ x1).setCell ⟨g, k * 4 + 2, none⟩ x2).setCell ⟨g, k * 4 + 3, none⟩ x3) base B H cap v1 (.slice (some ⟨g, 0, none⟩) N c) u1 u2 N L1 ((((L2.set (k * 4) x0).set (k * 4 + 1) x1).set (k * 4 + 2) x2).set (k * 4 + 3) x3) := by
  have hg := h.two_lt g rfl
  have hH := h.H_lt
  have hgr := set4_grown W g k x0 x1 x2 x3
  refine ⟨h.book.of_block (heap_set4 W g k x0 x1 x2 x3 B (by omega)), h.held.kept hgr (.inr (fun e => by simp [Value.ownBlock] at e; omega)), ?_, ?_, h.one_lt, h.two_lt, h.ne, h.low⟩
  · exact h.one.kept hgr (.inr (fun e => h.ne g e rfl))
  · exact stored4 h.two k x0 x1 x2 x3
end Go.Proofs.YtimdkdengdhglaaGreatDoor
