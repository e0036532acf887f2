/- A list that grows by marks: what stands in a round of growWord. -/
import Derived.Test.YtimdkdengdhglaaGreatDoorBkF
namespace Go.Proofs.YtimdkdengdhglaaGreatDoor
open Go Go.RowKit

theorem mcells_add (i n m : Nat) : mcells i (n + m) = mcells i n ++ mcells i m := by
  induction m with
  | zero => simp [mcells]
  | succ m ih => rw [← Nat.add_assoc, mcells_succ, ih, mcells_succ, List.append_assoc]
theorem grown_trans {a b c : World} {row : Option Nat} (h : a.grownBy b row) (k : b.grownBy c row) : a.grownBy c row :=
  ⟨k.os.trans h.os, k.tape.trans h.tape, k.output.trans h.output, Nat.le_trans h.size k.size, fun i hi hne => (k.block i (Nat.lt_of_lt_of_le hi h.size) hne).trans (h.block i hi hne)⟩
theorem grown_none {a b : World} (h : a.grownBy b none) (row : Option Nat) : a.grownBy b row := ⟨h.os, h.tape, h.output, h.size, fun k hk _ => h.block k hk (by simp)⟩
theorem below_grown {a b : World} (h : Below a.heap.size a b) (row : Option Nat) : a.grownBy b row := ⟨h.os, h.tape, h.output, h.size, fun k hk _ => h.block k hk⟩

/-- The list v (N marks i) and what it has grown to, u, since the world S. -/
structure GrowSt (S wk : World) (base i N k : Nat) (v u : Value) : Prop where
  gr : S.grownBy wk v.ownBlock
  lng : wk.ownsRow base 86 4 u (N + k) (mcells i (N + k))
  own : wk.ownsRow base 86 4 v N (mcells i N)
  way : (∃ g c, v = .slice (some ⟨g, 0, none⟩) N c ∧ u = .slice (some ⟨g, 0, none⟩) (N + k) c) ∨ (∃ b, u.ownBlock = some b ∧ S.heap.size ≤ b) ∨ u.ownBlock = none
  lt : ∀ b, v.ownBlock = some b → b < S.heap.size
theorem GrowSt.start {S : World} {base i N : Nat} {v : Value} (h : S.ownsRow base 86 4 v N (mcells i N)) : GrowSt S S base i N 0 v v := by
  refine ⟨⟨rfl, rfl, rfl, Nat.le_refl _, fun _ _ _ => rfl⟩, h, h, ?_, fun b hb => (h.lt b hb).2⟩
  rcases h.2 with ⟨rfl, _⟩ | ⟨g, cap, cur, rfl, _⟩
  · exact .inr (.inr rfl)
  · exact .inl ⟨g, cap, rfl, rfl⟩
theorem GrowSt.below {S wk w' : World} {base i N k : Nat} {v u : Value} (h : GrowSt S wk base i N k v u) (hb : Below wk.heap.size wk w') : GrowSt S w' base i N k v u :=
  ⟨grown_trans h.gr (below_grown hb _), h.lng.kept (below_grown hb none) (Classical.em _), h.own.kept (below_grown hb none) (Classical.em _), h.way, h.lt⟩
theorem GrowSt.step {S wk w' : World} {base i N k : Nat} {v u u' : Value} (h : GrowSt S wk base i N k v u) (hown : w'.ownsRow base 86 4 u' (N + k + 1) (mcells i (N + k) ++ mcell i)) (hgr : wk.grownBy w' u.ownBlock)
    (hw : (∃ g cap, u = .slice (some ⟨g, 0, none⟩) (N + k) cap ∧ u' = .slice (some ⟨g, 0, none⟩) (N + k + 1) cap) ∨ (u'.ownBlock = some wk.heap.size ∧ wk.grownBy w' none)) : GrowSt S w' base i N (k + 1) v u' := by
  have hl : w'.ownsRow base 86 4 u' (N + (k + 1)) (mcells i (N + (k + 1))) := by rw [← Nat.add_assoc, mcells_succ]; exact hown
  rcases hw with ⟨g, cap, rfl, rfl⟩ | ⟨hat, hg0⟩
  · have hgr' : wk.grownBy w' (some g) := hgr
    rcases h.way with ⟨g1, c1, rfl, hu⟩ | ⟨b, hb, hSb⟩ | h0
    · obtain ⟨rfl, rfl⟩ : g = g1 ∧ cap = c1 := by simp at hu; exact hu
      refine ⟨grown_trans h.gr hgr', hl, ?_, .inl ⟨g, cap, rfl, rfl⟩, h.lt⟩
      have h2 := hl
      rw [mcells_add] at h2
      exact World.ownsRow.front (n := N) (m := k + 1) h2 (mcells_len i N)
    · obtain rfl : g = b := by simpa [Value.ownBlock] using hb
      have hne : v.ownBlock ≠ some g := fun e => by have := h.lt g e; omega
      refine ⟨⟨hgr'.os.trans h.gr.os, hgr'.tape.trans h.gr.tape, hgr'.output.trans h.gr.output, Nat.le_trans h.gr.size hgr'.size, fun j hj hjv => ?_⟩, hl, h.own.kept hgr' (.inr hne), .inr (.inl ⟨g, rfl, hSb⟩), h.lt⟩
      exact (hgr'.block j (Nat.lt_of_lt_of_le hj h.gr.size) (fun e => by simp at e; omega)).trans (h.gr.block j hj hjv)
    · simp [Value.ownBlock] at h0
  · exact ⟨grown_trans h.gr (grown_none hg0 _), hl, h.own.kept hg0 (Classical.em _), .inr (.inl ⟨_, hat, h.gr.size⟩), h.lt⟩
end Go.Proofs.YtimdkdengdhglaaGreatDoor
