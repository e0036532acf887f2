/- The contract of SameWords at two lists that are the same. -/
import Derived.Test.YtimdkdengdhglaaGreatDoorLexG
import Derived.Laws.StructEq
namespace Go.Proofs.YtimdkdengdhglaaGreatDoor
open Go Go.RowKit

/-- A slice of words that reads as ws. -/
def ReadsW (w : World) (v : Value) (ws : List (Nat × List UInt8 × Int × Nat)) : Prop :=
  ∃ ao cap, v = .slice ao ws.length cap ∧ ws.length ≤ 9223372036854775807 ∧
    (0 < ws.length → ∃ g, ao = some ⟨g, 0, none⟩ ∧ g < w.heap.size ∧ ∀ j, j < ws.length * 4 → w.cell? ⟨g, j, none⟩ = (wcells ws)[j]?)
theorem wcells_at (ws : List (Nat × List UInt8 × Int × Nat)) (k : Nat) (h : k < ws.length) (j : Nat) (hj : j < 4) : (wcells ws)[k * 4 + j]? = (wcell ws[k])[j]? := by
  induction ws generalizing k with
  | nil => simp at h
  | cons x l ih =>
    have hx : (wcell x).length = 4 := rfl
    cases k with
    | zero => simp only [wcells, List.flatMap_cons, Nat.zero_mul, Nat.zero_add, List.getElem_cons_zero]; rw [List.getElem?_append_left (by omega)]
    | succ k =>
      simp only [wcells, List.flatMap_cons, List.getElem_cons_succ]
      rw [List.getElem?_append_right (by omega), hx]
      have := ih k (by simpa using h)
      rw [show (k + 1) * 4 + j - 4 = k * 4 + j by omega]
      exact this
theorem ReadsW.own {w : World} {base n : Nat} {v : Value} {ws : List (Nat × List UInt8 × Int × Nat)} (h : w.ownsRow base 86 4 v n (wcells ws)) (hn : n = ws.length) : ReadsW w v ws := by
  subst hn
  rcases h.2 with ⟨rfl, h0⟩ | ⟨g, cap, cur, rfl, hb, hg, hc, hm, hs, ht⟩
  · exact ⟨none, 0, by rw [h0], by omega, fun hp => by omega⟩
  · refine ⟨_, cap, rfl, by unfold maxLen at hm; omega, fun _ => ⟨g, rfl, (Array.getElem?_eq_some_iff.1 hg).1, fun j hj => ?_⟩⟩
    rw [cell_of_row w g j cur _ _ hg, ← ht, List.getElem?_take, if_pos hj]
    simp
theorem ReadsW.kept {w w' : World} {v : Value} {ws : List (Nat × List UInt8 × Int × Nat)} (h : ReadsW w v ws) (hk : ∀ k, v.ownBlock = some k → k < w.heap.size → w'.heap[k]? = w.heap[k]?) (hz : w.heap.size ≤ w'.heap.size) : ReadsW w' v ws := by
  obtain ⟨ao, cap, rfl, hm, h⟩ := h
  refine ⟨ao, cap, rfl, hm, fun hp => ?_⟩
  obtain ⟨g, rfl, hg, hc⟩ := h hp
  exact ⟨g, rfl, by omega, fun j hj => (World.cell?_of_block (a := ⟨g, j, none⟩) (hk g rfl hg)).trans (hc j hj)⟩
theorem ReadsW.below {w w' : World} {v : Value} {ws : List (Nat × List UInt8 × Int × Nat)} (h : ReadsW w v ws) (hb : Below w.heap.size w w') : ReadsW w' v ws :=
  h.kept (fun k _ hk => hb.block k hk) hb.size

set_option maxHeartbeats 2000000 in
set_option maxRecDepth 100000 in
theorem sameWords_eq (v1 v2 : Value) (ws : List (Nat × List UInt8 × Int × Nat)) (w : World) (h1 : ReadsW w v1 ws) (h2 : ReadsW w v2 ws) :
    Calls Tryz.prog 18 #[v1, v2] w fun e w' => e = .returned (.bool true) ∧ Below w.heap.size w w' := by
  obtain ⟨a1, c1, rfl, hm, h1⟩ := h1
  obtain ⟨a2, c2, rfl, _, h2⟩ := h2
  replace h1 := Lib.hid h1
  replace h2 := Lib.hid h2
  go_enter Tryz.func18, Tryz.ntmps18
  go_wp2
  go_loopw [5] (fun i wr => ∃ k : Nat, k ≤ ws.length ∧ i = .int .i64 k ∧ Below w.heap.size w wr) (fun i _ => ws.length - (intOf i).toNat)
  case atStart => exact ⟨0, Nat.zero_le _, rfl, Below.refl _ _⟩
  case round =>
    obtain ⟨k, hk, rfl, hb⟩ := hrel
    by_cases hlt : k < ws.length
    · obtain ⟨g1, rfl, hg1, r1⟩ := h1.out (by omega)
      obtain ⟨g2, rfl, hg2, r2⟩ := h2.out (by omega)
      have f1 : ∀ j, j < 4 → wr.cell? ⟨g1, k * 4 + j, none⟩ = (wcell ws[k])[j]? := fun j hj => by
        rw [hb.cell (p := ⟨g1, k * 4 + j, none⟩) hg1, r1 _ (by omega), wcells_at ws k hlt j hj]
      have f2 : ∀ j, j < 4 → wr.cell? ⟨g2, k * 4 + j, none⟩ = (wcell ws[k])[j]? := fun j hj => by
        rw [hb.cell (p := ⟨g2, k * 4 + j, none⟩) hg2, r2 _ (by omega), wcells_at ws k hlt j hj]
      have d0 := f1 0 (by omega); have d1 := f1 1 (by omega); have d2 := f1 2 (by omega); have d3 := f1 3 (by omega)
      have e0 := f2 0 (by omega); have e1 := f2 1 (by omega); have e2 := f2 2 (by omega); have e3 := f2 3 (by omega)
      clear f1 f2 r1 r2
      generalize ws[k] = x at *
      simp only [wcell, List.getElem?_cons_zero, List.getElem?_cons_succ, Nat.add_zero] at d0 d1 d2 d3 e0 e1 e2 e3
      go_wp2
      go_quiet (fail)
      go_wp2
      go_roundw
      case rel => exact ⟨k + 1, by omega, by go_num, below_drewN hb _⟩
      case measure => simp [intOf]; omega
    · obtain rfl : k = ws.length := by omega
      go_wp2
      go_ret
      exact ⟨rfl, hb⟩
end Go.Proofs.YtimdkdengdhglaaGreatDoor
