/- A Book keeps a list. (By XGk.gen.py.) -/
import Derived.Test.YtehcbicngbibgaaGreatDoorZGp
import Derived.Deep.AppendLies
import Derived.Deep.RegionLaw
import Derived.BigRegion
namespace Go.Proofs.YtehcbicngbibgaaGreatDoor
open Go Go.RowKit
theorem infoHeldValue : (Tryz.prog.info? 102).map (fun i => (i.zero, i.size, i.bytes)) = some (some (.agg #[.slice none 0 0, .slice none 0 0, .int .i64 0]), 3, 56) := by kernel_rfl
theorem BookSt.set3 {W : World} {B n : Nat} {hs : Nat → Value} (h : BookSt W B n hs) (v : Value) : BookSt (W.setCell ⟨B, 3, none⟩ v) B n (upd hs 3 v) := blk_set (show W.heap[B]? = _ from h) 3 v
set_option maxHeartbeats 4000000 in
set_option maxRecDepth 100000 in
theorem keepValue_any (base B n m : Nat) (hs : Nat → Value) (xs : List Value) (a1 : Option Addr) (n1 c1 : Nat) (w : World) (h : BookSt w B n hs) (ho : w.ownsRow base 102 3 (hs 3) m xs) (hbB : base ≤ B + 1) (hne : ∀ b, (hs 3).ownBlock = some b → b ≠ B) (hm : m ≤ 1073741824) (hn : n ≤ 1073741824) :
    Calls Tryz.prog 190 #[.pointer (some ⟨B, 0, none⟩), .slice a1 n1 c1] w fun e w' => e = .returned (.tuple #[]) ∧ ∃ hv', BookSt w' B (n + 1) (upd hs 3 hv') ∧ w'.ownsRow base 102 3 hv' (m + 1) (xs ++ [.slice a1 n1 c1, .slice none 0 0, .int .i64 ((n + 1 : Nat) : Int)]) ∧ Frm (fun b => b = B ∨ (hs 3).ownBlock = some b) w w' ∧ ∀ b, hv'.ownBlock = some b → (hs 3).ownBlock = some b ∨ w.heap.size ≤ b := by
  obtain ⟨i0, hi, hz0, hz1, hz2⟩ := info_parts infoHeldValue
  have c0 := h.c0
  have f0 := h.fr 0
  have hlt := h.lt
  obtain ⟨w1, hw1⟩ : ∃ w1, w1 = w.setCell ⟨B, 0, none⟩ (.int .i64 ((n : Int) + 1)) := ⟨_, rfl⟩
  have h1 : BookSt w1 B (n + 1) hs := by rw [hw1]; exact h.set0 (n + 1)
  have hg1 : w.grownBy w1 (some B) := by rw [hw1]; exact cell_grown _ _ _ _
  have hz1' : w1.heap.size = w.heap.size := by rw [hw1]; simp
  have ho1 : w1.ownsRow base 102 3 (hs 3) m xs := own_same ho (fun b hb => hg1.block b (ho.lt b hb).2 (fun e => hne b hb (by injection e)))
  have e0 := h1.c0
  have e5 := h1.ce 3 (by omega) (by omega)
  have g5 := h1.fr 3
  have hlt1 := h1.lt
  obtain ⟨ah, ch, hsj⟩ := row_shape ho1
  rw [hsj] at e5 ho1 hne
  have hv1 : ∀ b, (Value.slice ah m ch).ownBlock = some b → b < w1.heap.size := fun b hb => (ho1.lt b hb).2
  replace h1 := Lib.hid h1
  replace ho1 := Lib.hid ho1
  replace hg1 := Lib.hid hg1
  replace hz1' := Lib.hid hz1'
  replace hv1 := Lib.hid hv1
  replace hne := Lib.hid hne
  replace hsj := Lib.hid hsj
  clear h ho
  replace hw1 := Lib.hid hw1
  go_enter Tryz.func190, Tryz.ntmps190
  go_wp2_with fail
  rw [← hw1.out]
  go_region_law ((refine step_append_lies _ (by rfl) _ _ 30 (by rfl) base 102 i0 _ 3 56 Tryz.underlying30 hi hz0 hz1 hz2 rfl (by decide) _ m xs (by rfl) (ho1.out.alloc _) ⟨w1.heap.size, 0, none⟩ 1 1 [.slice a1 n1 c1, .slice none 0 0, .int .i64 ((n : Int) + 1)] (by rfl) (by rfl) (by
      intro j u hj
      match j, hj with
      | 0, hj => simp at hj; subst hj; simp [Addr.add]
      | 1, hj => simp at hj; subst hj; simp [Addr.add]
      | 2, hj => simp at hj; subst hj; simp [Addr.add]
      | j + 3, hj => simp at hj) (by intro u hu; simp at hu; rcases hu with rfl | rfl | rfl <;> rfl) (by decide) (by unfold maxLen; omega) (by omega) (by simp; omega) (w1.heap.size + 1) (by simp) ?_; intro g cap w2 hown hgrow hat hgl; have hB2 : Hid (BookSt w2 B (n + 1) hs) := h1.out.same ((hgrow.block B (by simp; omega) (fun e => hne.out B e.symm rfl)).trans (Below.heap_alloc w1 _ B hlt1)); have x5 := (hB2.out.ce 3 (by omega) (by omega)).trans (congrArg some hsj.out); have y5 := hB2.out.fr 3; have hlt2 := hB2.out.lt))
  all_goals
    have hz1'' := hz1'.out
    have hgB : g ≠ B := fun e => by
      rcases hat with h | h
      · exact hne.out g h e
      · omega
    have hown2 := Lib.hid (own_same hown (fun b hb => (cell_grown w2 B 3 (.slice (some ⟨g, 0, none⟩) (m + 1) cap)).block b (hown.lt b hb).2 (fun e => by simp [Value.ownBlock] at hb; injection e with e; omega)))
    have hfr := Lib.hid ((((Frm.of_grown (P := fun b => b = B ∨ (hs 3).ownBlock = some b) hg1.out (fun b hb => .inl (by injection hb with hb; exact hb.symm))).trans (Frm.of_below (below_drewN ((Below.refl _ w1).alloc (Nat.le_refl _) _) 1))).trans (Frm.of_grown hgrow (fun b hb => .inr (by rw [hsj.out]; exact hb)))).trans (Frm.of_grown (cell_grown w2 B 3 (.slice (some ⟨g, 0, none⟩) (m + 1) cap)) (fun b hb => .inl (by injection hb with hb; exact hb.symm))))
    have hloc : Hid (∀ b, (Value.slice (some ⟨g, 0, none⟩) (m + 1) cap).ownBlock = some b → (hs 3).ownBlock = some b ∨ w.heap.size ≤ b) := fun b hb => by
      have e : g = b := by simpa [Value.ownBlock] using hb
      rcases hat with h | h
      · exact .inl (by rw [hsj.out, ← e]; exact h)
      · exact .inr (by omega)
    have hB3 := Lib.hid (hB2.out.set3 (.slice (some ⟨g, 0, none⟩) (m + 1) cap))
    clear hown hgrow hB2 x5 y5 hat hz1''
    go_wp2
    go_end0
    exact ⟨rfl, _, hB3.out, hown2.out, hfr.out, hloc.out⟩
theorem infoHeldField : (Tryz.prog.info? 105).map (fun i => (i.zero, i.size, i.bytes)) = some (some (.agg #[.slice none 0 0, .slice none 0 0, .int .i64 0]), 3, 56) := by kernel_rfl
theorem BookSt.set4 {W : World} {B n : Nat} {hs : Nat → Value} (h : BookSt W B n hs) (v : Value) : BookSt (W.setCell ⟨B, 4, none⟩ v) B n (upd hs 4 v) := blk_set (show W.heap[B]? = _ from h) 4 v
set_option maxHeartbeats 4000000 in
set_option maxRecDepth 100000 in
theorem keepField_any (base B n m : Nat) (hs : Nat → Value) (xs : List Value) (a1 : Option Addr) (n1 c1 : Nat) (w : World) (h : BookSt w B n hs) (ho : w.ownsRow base 105 3 (hs 4) m xs) (hbB : base ≤ B + 1) (hne : ∀ b, (hs 4).ownBlock = some b → b ≠ B) (hm : m ≤ 1073741824) (hn : n ≤ 1073741824) :
    Calls Tryz.prog 143 #[.pointer (some ⟨B, 0, none⟩), .slice a1 n1 c1] w fun e w' => e = .returned (.tuple #[]) ∧ ∃ hv', BookSt w' B (n + 1) (upd hs 4 hv') ∧ w'.ownsRow base 105 3 hv' (m + 1) (xs ++ [.slice a1 n1 c1, .slice none 0 0, .int .i64 ((n + 1 : Nat) : Int)]) ∧ Frm (fun b => b = B ∨ (hs 4).ownBlock = some b) w w' ∧ ∀ b, hv'.ownBlock = some b → (hs 4).ownBlock = some b ∨ w.heap.size ≤ b := by
  obtain ⟨i0, hi, hz0, hz1, hz2⟩ := info_parts infoHeldField
  have c0 := h.c0
  have f0 := h.fr 0
  have hlt := h.lt
  obtain ⟨w1, hw1⟩ : ∃ w1, w1 = w.setCell ⟨B, 0, none⟩ (.int .i64 ((n : Int) + 1)) := ⟨_, rfl⟩
  have h1 : BookSt w1 B (n + 1) hs := by rw [hw1]; exact h.set0 (n + 1)
  have hg1 : w.grownBy w1 (some B) := by rw [hw1]; exact cell_grown _ _ _ _
  have hz1' : w1.heap.size = w.heap.size := by rw [hw1]; simp
  have ho1 : w1.ownsRow base 105 3 (hs 4) m xs := own_same ho (fun b hb => hg1.block b (ho.lt b hb).2 (fun e => hne b hb (by injection e)))
  have e0 := h1.c0
  have e5 := h1.ce 4 (by omega) (by omega)
  have g5 := h1.fr 4
  have hlt1 := h1.lt
  obtain ⟨ah, ch, hsj⟩ := row_shape ho1
  rw [hsj] at e5 ho1 hne
  have hv1 : ∀ b, (Value.slice ah m ch).ownBlock = some b → b < w1.heap.size := fun b hb => (ho1.lt b hb).2
  replace h1 := Lib.hid h1
  replace ho1 := Lib.hid ho1
  replace hg1 := Lib.hid hg1
  replace hz1' := Lib.hid hz1'
  replace hv1 := Lib.hid hv1
  replace hne := Lib.hid hne
  replace hsj := Lib.hid hsj
  clear h ho
  replace hw1 := Lib.hid hw1
  go_enter Tryz.func143, Tryz.ntmps143
  go_wp2_with fail
  rw [← hw1.out]
  go_region_law ((refine step_append_lies _ (by rfl) _ _ 31 (by rfl) base 105 i0 _ 3 56 Tryz.underlying31 hi hz0 hz1 hz2 rfl (by decide) _ m xs (by rfl) (ho1.out.alloc _) ⟨w1.heap.size, 0, none⟩ 1 1 [.slice a1 n1 c1, .slice none 0 0, .int .i64 ((n : Int) + 1)] (by rfl) (by rfl) (by
      intro j u hj
      match j, hj with
      | 0, hj => simp at hj; subst hj; simp [Addr.add]
      | 1, hj => simp at hj; subst hj; simp [Addr.add]
      | 2, hj => simp at hj; subst hj; simp [Addr.add]
      | j + 3, hj => simp at hj) (by intro u hu; simp at hu; rcases hu with rfl | rfl | rfl <;> rfl) (by decide) (by unfold maxLen; omega) (by omega) (by simp; omega) (w1.heap.size + 1) (by simp) ?_; intro g cap w2 hown hgrow hat hgl; have hB2 : Hid (BookSt w2 B (n + 1) hs) := h1.out.same ((hgrow.block B (by simp; omega) (fun e => hne.out B e.symm rfl)).trans (Below.heap_alloc w1 _ B hlt1)); have x5 := (hB2.out.ce 4 (by omega) (by omega)).trans (congrArg some hsj.out); have y5 := hB2.out.fr 4; have hlt2 := hB2.out.lt))
  all_goals
    have hz1'' := hz1'.out
    have hgB : g ≠ B := fun e => by
      rcases hat with h | h
      · exact hne.out g h e
      · omega
    have hown2 := Lib.hid (own_same hown (fun b hb => (cell_grown w2 B 4 (.slice (some ⟨g, 0, none⟩) (m + 1) cap)).block b (hown.lt b hb).2 (fun e => by simp [Value.ownBlock] at hb; injection e with e; omega)))
    have hfr := Lib.hid ((((Frm.of_grown (P := fun b => b = B ∨ (hs 4).ownBlock = some b) hg1.out (fun b hb => .inl (by injection hb with hb; exact hb.symm))).trans (Frm.of_below (below_drewN ((Below.refl _ w1).alloc (Nat.le_refl _) _) 1))).trans (Frm.of_grown hgrow (fun b hb => .inr (by rw [hsj.out]; exact hb)))).trans (Frm.of_grown (cell_grown w2 B 4 (.slice (some ⟨g, 0, none⟩) (m + 1) cap)) (fun b hb => .inl (by injection hb with hb; exact hb.symm))))
    have hloc : Hid (∀ b, (Value.slice (some ⟨g, 0, none⟩) (m + 1) cap).ownBlock = some b → (hs 4).ownBlock = some b ∨ w.heap.size ≤ b) := fun b hb => by
      have e : g = b := by simpa [Value.ownBlock] using hb
      rcases hat with h | h
      · exact .inl (by rw [hsj.out, ← e]; exact h)
      · exact .inr (by omega)
    have hB3 := Lib.hid (hB2.out.set4 (.slice (some ⟨g, 0, none⟩) (m + 1) cap))
    clear hown hgrow hB2 x5 y5 hat hz1''
    go_wp2
    go_end0
    exact ⟨rfl, _, hB3.out, hown2.out, hfr.out, hloc.out⟩
theorem infoHeldNode : (Tryz.prog.info? 93).map (fun i => (i.zero, i.size, i.bytes)) = some (some (.agg #[.slice none 0 0, .slice none 0 0, .int .i64 0]), 3, 56) := by kernel_rfl
theorem BookSt.set13 {W : World} {B n : Nat} {hs : Nat → Value} (h : BookSt W B n hs) (v : Value) : BookSt (W.setCell ⟨B, 13, none⟩ v) B n (upd hs 13 v) := blk_set (show W.heap[B]? = _ from h) 13 v
set_option maxHeartbeats 4000000 in
set_option maxRecDepth 100000 in
theorem keepNode_any (base B n m : Nat) (hs : Nat → Value) (xs : List Value) (a1 : Option Addr) (n1 c1 : Nat) (w : World) (h : BookSt w B n hs) (ho : w.ownsRow base 93 3 (hs 13) m xs) (hbB : base ≤ B + 1) (hne : ∀ b, (hs 13).ownBlock = some b → b ≠ B) (hm : m ≤ 1073741824) (hn : n ≤ 1073741824) :
    Calls Tryz.prog 28 #[.pointer (some ⟨B, 0, none⟩), .slice a1 n1 c1] w fun e w' => e = .returned (.tuple #[]) ∧ ∃ hv', BookSt w' B (n + 1) (upd hs 13 hv') ∧ w'.ownsRow base 93 3 hv' (m + 1) (xs ++ [.slice a1 n1 c1, .slice none 0 0, .int .i64 ((n + 1 : Nat) : Int)]) ∧ Frm (fun b => b = B ∨ (hs 13).ownBlock = some b) w w' ∧ ∀ b, hv'.ownBlock = some b → (hs 13).ownBlock = some b ∨ w.heap.size ≤ b := by
  obtain ⟨i0, hi, hz0, hz1, hz2⟩ := info_parts infoHeldNode
  have c0 := h.c0
  have f0 := h.fr 0
  have hlt := h.lt
  obtain ⟨w1, hw1⟩ : ∃ w1, w1 = w.setCell ⟨B, 0, none⟩ (.int .i64 ((n : Int) + 1)) := ⟨_, rfl⟩
  have h1 : BookSt w1 B (n + 1) hs := by rw [hw1]; exact h.set0 (n + 1)
  have hg1 : w.grownBy w1 (some B) := by rw [hw1]; exact cell_grown _ _ _ _
  have hz1' : w1.heap.size = w.heap.size := by rw [hw1]; simp
  have ho1 : w1.ownsRow base 93 3 (hs 13) m xs := own_same ho (fun b hb => hg1.block b (ho.lt b hb).2 (fun e => hne b hb (by injection e)))
  have e0 := h1.c0
  have e5 := h1.ce 13 (by omega) (by omega)
  have g5 := h1.fr 13
  have hlt1 := h1.lt
  obtain ⟨ah, ch, hsj⟩ := row_shape ho1
  rw [hsj] at e5 ho1 hne
  have hv1 : ∀ b, (Value.slice ah m ch).ownBlock = some b → b < w1.heap.size := fun b hb => (ho1.lt b hb).2
  replace h1 := Lib.hid h1
  replace ho1 := Lib.hid ho1
  replace hg1 := Lib.hid hg1
  replace hz1' := Lib.hid hz1'
  replace hv1 := Lib.hid hv1
  replace hne := Lib.hid hne
  replace hsj := Lib.hid hsj
  clear h ho
  replace hw1 := Lib.hid hw1
  go_enter Tryz.func28, Tryz.ntmps28
  go_wp2_with fail
  rw [← hw1.out]
  go_region_law ((refine step_append_lies _ (by rfl) _ _ 40 (by rfl) base 93 i0 _ 3 56 Tryz.underlying40 hi hz0 hz1 hz2 rfl (by decide) _ m xs (by rfl) (ho1.out.alloc _) ⟨w1.heap.size, 0, none⟩ 1 1 [.slice a1 n1 c1, .slice none 0 0, .int .i64 ((n : Int) + 1)] (by rfl) (by rfl) (by
      intro j u hj
      match j, hj with
      | 0, hj => simp at hj; subst hj; simp [Addr.add]
      | 1, hj => simp at hj; subst hj; simp [Addr.add]
      | 2, hj => simp at hj; subst hj; simp [Addr.add]
      | j + 3, hj => simp at hj) (by intro u hu; simp at hu; rcases hu with rfl | rfl | rfl <;> rfl) (by decide) (by unfold maxLen; omega) (by omega) (by simp; omega) (w1.heap.size + 1) (by simp) ?_; intro g cap w2 hown hgrow hat hgl; have hB2 : Hid (BookSt w2 B (n + 1) hs) := h1.out.same ((hgrow.block B (by simp; omega) (fun e => hne.out B e.symm rfl)).trans (Below.heap_alloc w1 _ B hlt1)); have x5 := (hB2.out.ce 13 (by omega) (by omega)).trans (congrArg some hsj.out); have y5 := hB2.out.fr 13; have hlt2 := hB2.out.lt))
  all_goals
    have hz1'' := hz1'.out
    have hgB : g ≠ B := fun e => by
      rcases hat with h | h
      · exact hne.out g h e
      · omega
    have hown2 := Lib.hid (own_same hown (fun b hb => (cell_grown w2 B 13 (.slice (some ⟨g, 0, none⟩) (m + 1) cap)).block b (hown.lt b hb).2 (fun e => by simp [Value.ownBlock] at hb; injection e with e; omega)))
    have hfr := Lib.hid ((((Frm.of_grown (P := fun b => b = B ∨ (hs 13).ownBlock = some b) hg1.out (fun b hb => .inl (by injection hb with hb; exact hb.symm))).trans (Frm.of_below (below_drewN ((Below.refl _ w1).alloc (Nat.le_refl _) _) 1))).trans (Frm.of_grown hgrow (fun b hb => .inr (by rw [hsj.out]; exact hb)))).trans (Frm.of_grown (cell_grown w2 B 13 (.slice (some ⟨g, 0, none⟩) (m + 1) cap)) (fun b hb => .inl (by injection hb with hb; exact hb.symm))))
    have hloc : Hid (∀ b, (Value.slice (some ⟨g, 0, none⟩) (m + 1) cap).ownBlock = some b → (hs 13).ownBlock = some b ∨ w.heap.size ≤ b) := fun b hb => by
      have e : g = b := by simpa [Value.ownBlock] using hb
      rcases hat with h | h
      · exact .inl (by rw [hsj.out, ← e]; exact h)
      · exact .inr (by omega)
    have hB3 := Lib.hid (hB2.out.set13 (.slice (some ⟨g, 0, none⟩) (m + 1) cap))
    clear hown hgrow hB2 x5 y5 hat hz1''
    go_wp2
    go_end0
    exact ⟨rfl, _, hB3.out, hown2.out, hfr.out, hloc.out⟩
end Go.Proofs.YtehcbicngbibgaaGreatDoor
