/- A Book keeps a list of words. -/
import Derived.Test.YtimdkdengdhglaaGreatDoorBkB
import Derived.Deep.AppendLies
import Derived.Deep.RegionLaw
import Derived.BigRegion
namespace Go.Proofs.YtimdkdengdhglaaGreatDoor
open Go Go.RowKit

theorem bown_shape {w : World} {base : Nat} {e : TypeId} {size : Nat} {v : Value} {n : Nat} {xs : List Value} (h : w.ownsRow base e size v n xs) : ∃ ao cap, v = .slice ao n cap := by
  rcases h.2 with ⟨rfl, rfl⟩ | ⟨g, cap, cur, rfl, _⟩
  · exact ⟨none, 0, rfl⟩
  · exact ⟨_, cap, rfl⟩
def nilS : Value := .slice none 0 0
/-- A Book in block B: n lists, the words' lists in hv, no others. -/
def BookSt (W : World) (B n : Nat) (hv : Value) : Prop :=
  W.heap[B]? = some (.cells #[.int .i64 (n : Nat), .slice none 0 0, .slice none 0 0, .slice none 0 0, .slice none 0 0, hv, .slice none 0 0, .slice none 0 0, .slice none 0 0, .slice none 0 0, .slice none 0 0, .slice none 0 0, .slice none 0 0, .slice none 0 0, .slice none 0 0, .slice none 0 0, .slice none 0 0] 45 (0, 0))
theorem BookSt.c0 {W : World} {B n : Nat} {hv : Value} (h : BookSt W B n hv) : W.cell? ⟨B, 0, none⟩ = some (.int .i64 (n : Nat)) := by simp [World.cell?, show W.heap[B]? = _ from h]
theorem BookSt.c5 {W : World} {B n : Nat} {hv : Value} (h : BookSt W B n hv) : W.cell? ⟨B, 5, none⟩ = some hv := by simp [World.cell?, show W.heap[B]? = _ from h]
theorem BookSt.fr {W : World} {B n : Nat} {hv : Value} (h : BookSt W B n hv) (j : Nat) : W.frozen? ⟨B, j, none⟩ = false := by simp [World.frozen?, show W.heap[B]? = _ from h]
theorem BookSt.lt {W : World} {B n : Nat} {hv : Value} (h : BookSt W B n hv) : B < W.heap.size := by
  rcases Nat.lt_or_ge B W.heap.size with h1 | h1
  · exact h1
  · have : W.heap[B]? = _ := h
    rw [Array.getElem?_eq_none h1] at this; simp at this
theorem BookSt.ce {W : World} {B n : Nat} {hv : Value} (h : BookSt W B n hv) (j : Nat) (h1 : 1 ≤ j) (h2 : j ≤ 16) (h5 : j ≠ 5) : W.cell? ⟨B, j, none⟩ = some (.slice none 0 0) := by
  simp only [World.cell?, show W.heap[B]? = _ from h]
  rcases (by omega : j = 1 ∨ j = 2 ∨ j = 3 ∨ j = 4 ∨ j = 6 ∨ j = 7 ∨ j = 8 ∨ j = 9 ∨ j = 10 ∨ j = 11 ∨ j = 12 ∨ j = 13 ∨ j = 14 ∨ j = 15 ∨ j = 16) with rfl | rfl | rfl | rfl | rfl | rfl | rfl | rfl | rfl | rfl | rfl | rfl | rfl | rfl | rfl <;> rfl
theorem BookSt.set0 {W : World} {B n : Nat} {hv : Value} (h : BookSt W B n hv) (m : Nat) : BookSt (W.setCell ⟨B, 0, none⟩ (.int .i64 (m : Nat))) B m hv := by
  have := blk_set (show W.heap[B]? = _ from h) 0 (.int .i64 (m : Nat))
  exact this
theorem BookSt.set5 {W : World} {B n : Nat} {hv : Value} (h : BookSt W B n hv) (v : Value) : BookSt (W.setCell ⟨B, 5, none⟩ v) B n v := by
  have := blk_set (show W.heap[B]? = _ from h) 5 v
  exact this
theorem BookSt.of_block {W W' : World} {B n : Nat} {hv : Value} (h : BookSt W B n hv) (he : W'.heap[B]? = W.heap[B]?) : BookSt W' B n hv := he.trans h
theorem infoHeld : (Tryz.prog.info? 124).map (fun i => (i.zero, i.size, i.bytes)) = some (some (.agg #[.slice none 0 0, .slice none 0 0, .int .i64 0]), 3, 56) := by kernel_rfl

set_option maxHeartbeats 4000000 in
set_option maxRecDepth 100000 in
theorem keepWord_any (B n m : Nat) (hv : Value) (xs : List Value) (a1 : Option Addr) (n1 c1 : Nat) (w : World) (h : BookSt w B n hv) (ho : w.ownsRow (B + 1) 124 3 hv m xs) (hm : m < 100) (hn : n < 100) :
    Calls Tryz.prog 85 #[.pointer (some ⟨B, 0, none⟩), .slice a1 n1 c1] w fun e w' => e = .returned (.tuple #[]) ∧ ∃ hv', BookSt w' B (n + 1) hv' ∧ w'.ownsRow (B + 1) 124 3 hv' (m + 1) (xs ++ [.slice a1 n1 c1, .slice none 0 0, .int .i64 ((n + 1 : Nat) : Int)]) ∧ Below B w w' := by
  obtain ⟨i0, hi, hz0, hz1, hz2⟩ := info_parts infoHeld
  have c0 := h.c0
  have f0 := h.fr 0
  have hlt := h.lt
  obtain ⟨w1, hw1⟩ : ∃ w1, w1 = w.setCell ⟨B, 0, none⟩ (.int .i64 ((n : Int) + 1)) := ⟨_, rfl⟩
  have h1 : BookSt w1 B (n + 1) hv := by rw [hw1]; exact h.set0 (n + 1)
  have ho1 : w1.ownsRow (B + 1) 124 3 hv m xs := by
    rw [hw1]; exact ownsRow_setCell_below ho (a := ⟨B, 0, none⟩) (by show B < B + 1; omega) _
  have hb1 : Below B w w1 := by rw [hw1]; exact (Below.refl B w).setCell (p := ⟨B, 0, none⟩) (Nat.le_refl _) _
  have e0 := h1.c0
  have e5 := h1.c5
  have g5 := h1.fr 5
  have hlt1 := h1.lt
  replace h1 := Lib.hid h1
  replace ho1 := Lib.hid ho1
  replace hb1 := Lib.hid hb1
  clear h ho
  replace hw1 := Lib.hid hw1
  go_enter Tryz.func85, Tryz.ntmps85
  go_wp2_with fail
  rw [← hw1.out]
  obtain ⟨ah, ch, rfl⟩ := bown_shape ho1.out
  go_region_law ((refine step_append_lies _ (by rfl) _ _ 32 (by rfl) (B + 1) 124 i0 _ 3 56 Tryz.underlying32 hi hz0 hz1 hz2 rfl (by decide) _ m xs (by rfl) (ho1.out.alloc _) ⟨w1.heap.size, 0, none⟩ 1 1 [.slice a1 n1 c1, .slice none 0 0, .int .i64 ((n : Int) + 1)] (by rfl) (by rfl) (by
      intro j u hj
      match j, hj with
      | 0, hj => simp at hj; subst hj; simp [Addr.add]
      | 1, hj => simp at hj; subst hj; simp [Addr.add]
      | 2, hj => simp at hj; subst hj; simp [Addr.add]
      | j + 3, hj => simp at hj) (by intro u hu; simp at hu; rcases hu with rfl | rfl | rfl <;> rfl) (by decide) (by unfold maxLen; omega) (by omega) (by simp; omega) (w1.heap.size + 1) (by simp) ?_; intro g cap w2 hown hgrow hat hgl; have hB2 : Hid (BookSt w2 B (n + 1) (.slice ah m ch)) := h1.out.of_block ((hgrow.block B (by simp; omega) (fun e => by have := (ho1.out.lt B e.symm).1; omega)).trans (Below.heap_alloc w1 _ B hlt1)); have x5 := hB2.out.c5; have y5 := hB2.out.fr 5; have hlt2 := hB2.out.lt))
  all_goals
    have hown2 := ownsRow_setCell_below hown (a := ⟨B, 5, none⟩) (by show B < B + 1; omega) (.slice (some ⟨g, 0, none⟩) (m + 1) cap)
    have hbel := ((below_drewN (hb1.out.alloc (Nat.le_of_lt hlt1) _) 1).grown hgrow (by show B ≤ _; simp; omega) (fun k hk => by have := (ho1.out.lt k hk).1; omega)).setCell (p := ⟨B, 5, none⟩) (Nat.le_refl B) (.slice (some ⟨g, 0, none⟩) (m + 1) cap)
    have hB3 := hB2.out.set5 (.slice (some ⟨g, 0, none⟩) (m + 1) cap)
    replace hown2 := Lib.hid hown2
    replace hbel := Lib.hid hbel
    replace hB3 := Lib.hid hB3
    clear hown hgrow hB2 x5 y5
    go_wp2
    go_end0
    exact ⟨rfl, _, hB3.out, hown2.out, hbel.out⟩
end Go.Proofs.YtimdkdengdhglaaGreatDoor
