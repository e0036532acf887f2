/- fillWord at two lists. (By XBkE.gen.py.) -/
import Derived.Test.YtimdkdengdhglaaGreatDoorBkD
import Derived.BigRegion
namespace Go.Proofs.YtimdkdengdhglaaGreatDoor
open Go Go.RowKit

theorem drop4 (L : List Value) (N k : Nat) (hL : L.length = N * 4) (hk : k < N) : ∃ a0 a1 a2 a3, L.drop (k * 4) = [a0, a1, a2, a3] ++ L.drop ((k + 1) * 4) := by
  refine ⟨L[k * 4]'(by omega), L[k * 4 + 1]'(by omega), L[k * 4 + 2]'(by omega), L[k * 4 + 3]'(by omega), ?_⟩
  rw [List.drop_eq_getElem_cons (show k * 4 < L.length by omega), List.drop_eq_getElem_cons (show k * 4 + 1 < L.length by omega), List.drop_eq_getElem_cons (show k * 4 + 1 + 1 < L.length by omega), List.drop_eq_getElem_cons (show k * 4 + 1 + 1 + 1 < L.length by omega)]
  rw [show k * 4 + 1 + 1 + 1 + 1 = (k + 1) * 4 by omega]; rfl
theorem fill_step (i : Nat) (L : List Value) (N k : Nat) (hL : L.length = N * 4) (hk : k < N) :
    (((((mcells i k ++ L.drop (k * 4)).set (k * 4) (.int .u8 0)).set (k * 4 + 1) (.string (markB i))).set (k * 4 + 2) (.int .i64 0)).set (k * 4 + 3) (.int .i64 0)) = mcells i (k + 1) ++ L.drop ((k + 1) * 4) := by
  obtain ⟨a0, a1, a2, a3, e⟩ := drop4 L N k hL hk
  rw [e, ← List.append_assoc, set4_list (mcells i k) (L.drop ((k + 1) * 4)) a0 a1 a2 a3 _ _ _ _ k (mcells_len i k), mcells_succ]; rfl
theorem own_at {W : World} {base : Nat} {e : TypeId} {g n cap size : Nat} {xs : List Value} (h : W.ownsRow base e size (.slice (some ⟨g, 0, none⟩) n cap) n xs) (j : Nat) (hj : j < n * size) : ∃ u, W.cell? ⟨g, j, none⟩ = some u := by
  rw [h.cellAt j hj]
  have : j < xs.length := by rw [h.1]; exact hj
  exact ⟨_, List.getElem?_eq_getElem this⟩
def HeldRow (W : World) (T : Nat) (v u : Value) (i : Nat) : Prop := W.heap[T]? = some (.cells #[v, u, .int .i64 (i : Nat)] 124 (0, 0))
theorem HeldRow.cells {W : World} {T : Nat} {v u : Value} {i : Nat} (h : HeldRow W T v u i) : W.cell? ⟨T, 0, none⟩ = some v ∧ W.cell? ⟨T, 1, none⟩ = some u ∧ W.cell? ⟨T, 2, none⟩ = some (.int .i64 (i : Nat)) := by
  simp [World.cell?, show W.heap[T]? = _ from h]
theorem HeldRow.below {W W' : World} {T : Nat} {v u : Value} {i : Nat} (h : HeldRow W T v u i) (hT : T < W.heap.size) (hb : Below W.heap.size W W') : HeldRow W' T v u i := (hb.block T hT).trans h

set_option maxHeartbeats 8000000 in
set_option maxRecDepth 100000 in
theorem fillWord_any (base B H cap N : Nat) (a1 a2 : Option Addr) (c1 c2 : Nat) (L1 L2 : List Value) (w : World) (h : Held w base B H cap (.slice a1 N c1) (.slice a2 N c2) (.slice none 0 0) (.slice none 0 0) N L1 L2) (hN : N ≤ 1000000) :
    Calls Tryz.prog 38 #[.pointer (some ⟨B, 0, none⟩)] w fun e w' => e = .returned (.tuple #[]) ∧ Held w' base B H cap (.slice a1 N c1) (.slice a2 N c2) (.slice none 0 0) (.slice none 0 0) N (mcells 1 N) (mcells 2 N) ∧ Below base w w' := by
  have hl1 : Hid (L1.length = N * 4) := h.one.1
  have hl2 : Hid (L2.length = N * 4) := h.two.1
  have hlow := h.low
  replace h := Lib.hid h
  go_enter Tryz.func38, Tryz.ntmps38
  go_wp2
  go_loopw [2] (fun i wr => ∃ j : Nat, j ≤ 2 ∧ i = .int .i64 (j : Nat) ∧ Held wr base B H cap (.slice a1 N c1) (.slice a2 N c2) (.slice none 0 0) (.slice none 0 0) N (if 0 < j then mcells 1 N else L1) (if 1 < j then mcells 2 N else L2) ∧ Below base w wr) (fun i _ => 2 - (intOf i).toNat)
  case atStart => exact ⟨0, by omega, rfl, h.out, Below.refl _ _⟩
  case round =>
    obtain ⟨j, hj, hi2, hh, hb⟩ := hrel
    have x5 := hh.book.c5
    obtain ⟨d0, d1, d2, d3, d4, d5⟩ := hh.cells
    have hHl := hh.H_lt
    have hBl := hh.book.lt
    rcases (by omega : j = 0 ∨ j = 1 ∨ j = 2) with rfl | rfl | rfl
    · obtain ⟨wo, rfl⟩ : ∃ wo : World, wo = wr := ⟨_, rfl⟩
      replace hi2 : u2 = .int .i64 0 := hi2
      subst hi2
      simp only [Nat.lt_irrefl, if_false, if_true, show ¬ (1 < 0) by omega, show (0 : Nat) < 1 by omega] at hh
      have hT0 : Hid (HeldRow (wo.alloc (.cells #[.slice a1 N c1, .slice none 0 0, .int .i64 1] 124)) wo.heap.size (.slice a1 N c1) (.slice none 0 0) 1) := heap_alloc_new wo _
      have hh0 : Hid (Held (wo.alloc (.cells #[.slice a1 N c1, .slice none 0 0, .int .i64 1] 124)) base B H cap (.slice a1 N c1) (.slice a2 N c2) (.slice none 0 0) (.slice none 0 0) N (mcells 1 0 ++ L1.drop (0 * 4)) L2) := hh.below ((Below.refl _ wo).alloc (Nat.le_refl _) _)
      have hb0 : Hid (Below base w (wo.alloc (.cells #[.slice a1 N c1, .slice none 0 0, .int .i64 1] 124))) := hb.alloc (by omega) _
      clear hh hb h
      go_wp2
      go_loopw [4] (fun i wr => ∃ k : Nat, k ≤ N ∧ i = .int .i64 (k : Nat) ∧ Held wr base B H cap (.slice a1 N c1) (.slice a2 N c2) (.slice none 0 0) (.slice none 0 0) N (mcells 1 k ++ L1.drop (k * 4)) L2 ∧ Below base w wr ∧ HeldRow wr wo.heap.size (.slice a1 N c1) (.slice none 0 0) 1 ∧ wo.heap.size < wr.heap.size) (fun i _ => N - (intOf i).toNat)
      case atStart => exact ⟨0, Nat.zero_le _, rfl, hh0.out, hb0.out, hT0.out, by simp⟩
      case round =>
        obtain ⟨k, hk, rfl, hh, hb, hT, hTl⟩ := hrel
        clear hT0 hh0 hb0 x5 d0 d1 d2 d3 d4 d5
        obtain ⟨t0, t1, t2⟩ := hT.cells
        by_cases hlt : k < N
        · obtain ⟨g, cg, hv, _, hgl⟩ := hh.one.form (by omega)
          obtain ⟨rfl, rfl⟩ : a1 = some ⟨g, 0, none⟩ ∧ c1 = cg := by simp at hv; exact ⟨hv.1, hv.2⟩
          have hgB := hh.one_lt g rfl
          have hgb := (hh.one.lt g rfl).1
          have cM : Hid (∀ V, Calls Tryz.prog 109 #[.int .i64 1] V fun e w' => e = .returned (.agg #[.int .u8 0, .string (markB 1), .int .i64 0, .int .i64 0]) ∧ Below V.heap.size V w') := fun V => markWord_any 1 (by omega) V
          have hkey : Hid (∀ V, Below wr.heap.size wr V → Held V base B H cap (.slice (some ⟨g, 0, none⟩) N c1) (.slice a2 N c2) (.slice none 0 0) (.slice none 0 0) N (mcells 1 k ++ L1.drop (k * 4)) L2 ∧ Below base w V ∧ HeldRow V wo.heap.size (.slice (some ⟨g, 0, none⟩) N c1) (.slice none 0 0) 1 ∧ wo.heap.size < V.heap.size ∧
              ((∃ u, V.cell? ⟨g, k * 4, none⟩ = some u) ∧ (∃ u, V.cell? ⟨g, k * 4 + 1, none⟩ = some u) ∧ (∃ u, V.cell? ⟨g, k * 4 + 2, none⟩ = some u) ∧ (∃ u, V.cell? ⟨g, k * 4 + 3, none⟩ = some u)) ∧ (∀ j, V.frozen? ⟨g, j, none⟩ = false)) := fun V hV =>
            have hhV := hh.below hV
            ⟨hhV, hb.trans (hV.mono (by have := hh.book.lt; omega)), hT.below hTl hV, Nat.lt_of_lt_of_le hTl hV.size,
              ⟨own_at hhV.one _ (by omega), own_at hhV.one _ (by omega), own_at hhV.one _ (by omega), own_at hhV.one _ (by omega)⟩, hhV.one.frozenAt⟩
          have hfs := Lib.hid (fill_step 1 L1 N k hl1.out hlt)
          clear hh hb hv
          replace hT := Lib.hid hT
          go_wp2_with fail
          go_region_with (go_at_call 109; refine (cM.out _).mono ?_; rintro e W2 ⟨rfl, hb2⟩; obtain ⟨q1, q2, q3, q4, ⟨⟨e0, r0⟩, ⟨e1, r1⟩, ⟨e2, r2⟩, ⟨e3, r3⟩⟩, qf⟩ := hkey.out W2 ((below_drewN (Below.refl _ wr) 1).trans hb2); obtain ⟨s0, s1, s2⟩ := q3.cells; have f0 := qf (k * 4); have f1 := qf (k * 4 + 1); have f2 := qf (k * 4 + 2); have f3 := qf (k * 4 + 3); replace q1 := Lib.hid q1; replace q2 := Lib.hid q2; replace q3 := Lib.hid q3; replace qf := Lib.hid qf; have hz2 := hb2.size; clear hb2)
          all_goals
            have hp := Lib.hid (Held.put1 q1.out k (.int .u8 0) (.string (markB 1)) (.int .i64 0) (.int .i64 0))
            rw [hfs.out] at hp
            have hT' : Hid (HeldRow ((((W2.setCell ⟨g, k * 4, none⟩ (.int .u8 0)).setCell ⟨g, k * 4 + 1, none⟩ (.string (markB 1))).setCell ⟨g, k * 4 + 2, none⟩ (.int .i64 0)).setCell ⟨g, k * 4 + 3, none⟩ (.int .i64 0)) wo.heap.size (.slice (some ⟨g, 0, none⟩) N c1) (.slice none 0 0) 1) := (heap_set4 W2 g k _ _ _ _ wo.heap.size (by omega)).trans q3.out
            have hb' := Lib.hid ((((q2.out.setCell (p := ⟨g, k * 4, none⟩) hgb (.int .u8 0)).setCell (p := ⟨g, k * 4 + 1, none⟩) hgb (.string (markB 1))).setCell (p := ⟨g, k * 4 + 2, none⟩) hgb (.int .i64 0)).setCell (p := ⟨g, k * 4 + 3, none⟩) hgb (.int .i64 0))
            clear q1 q2 q3 qf r0 r1 r2 r3 f0 f1 f2 f3 s0 s1 s2
            go_wp2
            go_roundw
            case rel => exact ⟨k + 1, by omega, by go_num, hp.out, hb'.out, hT'.out, by simp; omega⟩
            case measure => simp [intOf]; omega
        · obtain rfl : k = N := by omega
          have hdr : L1.drop (k * 4) = [] := List.drop_of_length_le (by rw [hl1.out]; exact Nat.le_refl _)
          rw [hdr, List.append_nil] at hh
          replace hT := Lib.hid hT
          replace hh := Lib.hid hh
          replace hb := Lib.hid hb
          clear hdr
          go_wp2
          go_roundw
          case rel => exact ⟨1, by omega, by go_num, hh.out, hb.out⟩
          case measure => simp [intOf]
    · obtain ⟨wo, rfl⟩ : ∃ wo : World, wo = wr := ⟨_, rfl⟩
      replace hi2 : u2 = .int .i64 1 := hi2
      subst hi2
      simp only [Nat.lt_irrefl, if_false, if_true, show ¬ (1 < 0) by omega, show (0 : Nat) < 1 by omega] at hh
      have hT0 : Hid (HeldRow (wo.alloc (.cells #[.slice a2 N c2, .slice none 0 0, .int .i64 2] 124)) wo.heap.size (.slice a2 N c2) (.slice none 0 0) 2) := heap_alloc_new wo _
      have hh0 : Hid (Held (wo.alloc (.cells #[.slice a2 N c2, .slice none 0 0, .int .i64 2] 124)) base B H cap (.slice a1 N c1) (.slice a2 N c2) (.slice none 0 0) (.slice none 0 0) N (mcells 1 N) (mcells 2 0 ++ L2.drop (0 * 4))) := hh.below ((Below.refl _ wo).alloc (Nat.le_refl _) _)
      have hb0 : Hid (Below base w (wo.alloc (.cells #[.slice a2 N c2, .slice none 0 0, .int .i64 2] 124))) := hb.alloc (by omega) _
      clear hh hb h
      go_wp2
      go_loopw [4] (fun i wr => ∃ k : Nat, k ≤ N ∧ i = .int .i64 (k : Nat) ∧ Held wr base B H cap (.slice a1 N c1) (.slice a2 N c2) (.slice none 0 0) (.slice none 0 0) N (mcells 1 N) (mcells 2 k ++ L2.drop (k * 4)) ∧ Below base w wr ∧ HeldRow wr wo.heap.size (.slice a2 N c2) (.slice none 0 0) 2 ∧ wo.heap.size < wr.heap.size) (fun i _ => N - (intOf i).toNat)
      case atStart => exact ⟨0, Nat.zero_le _, rfl, hh0.out, hb0.out, hT0.out, by simp⟩
      case round =>
        obtain ⟨k, hk, rfl, hh, hb, hT, hTl⟩ := hrel
        clear hT0 hh0 hb0 x5 d0 d1 d2 d3 d4 d5
        obtain ⟨t0, t1, t2⟩ := hT.cells
        by_cases hlt : k < N
        · obtain ⟨g, cg, hv, _, hgl⟩ := hh.two.form (by omega)
          obtain ⟨rfl, rfl⟩ : a2 = some ⟨g, 0, none⟩ ∧ c2 = cg := by simp at hv; exact ⟨hv.1, hv.2⟩
          have hgB := hh.two_lt g rfl
          have hgb := (hh.two.lt g rfl).1
          have cM : Hid (∀ V, Calls Tryz.prog 109 #[.int .i64 2] V fun e w' => e = .returned (.agg #[.int .u8 0, .string (markB 2), .int .i64 0, .int .i64 0]) ∧ Below V.heap.size V w') := fun V => markWord_any 2 (by omega) V
          have hkey : Hid (∀ V, Below wr.heap.size wr V → Held V base B H cap (.slice a1 N c1) (.slice (some ⟨g, 0, none⟩) N c2) (.slice none 0 0) (.slice none 0 0) N (mcells 1 N) (mcells 2 k ++ L2.drop (k * 4)) ∧ Below base w V ∧ HeldRow V wo.heap.size (.slice (some ⟨g, 0, none⟩) N c2) (.slice none 0 0) 2 ∧ wo.heap.size < V.heap.size ∧
              ((∃ u, V.cell? ⟨g, k * 4, none⟩ = some u) ∧ (∃ u, V.cell? ⟨g, k * 4 + 1, none⟩ = some u) ∧ (∃ u, V.cell? ⟨g, k * 4 + 2, none⟩ = some u) ∧ (∃ u, V.cell? ⟨g, k * 4 + 3, none⟩ = some u)) ∧ (∀ j, V.frozen? ⟨g, j, none⟩ = false)) := fun V hV =>
            have hhV := hh.below hV
            ⟨hhV, hb.trans (hV.mono (by have := hh.book.lt; omega)), hT.below hTl hV, Nat.lt_of_lt_of_le hTl hV.size,
              ⟨own_at hhV.two _ (by omega), own_at hhV.two _ (by omega), own_at hhV.two _ (by omega), own_at hhV.two _ (by omega)⟩, hhV.two.frozenAt⟩
          have hfs := Lib.hid (fill_step 2 L2 N k hl2.out hlt)
          clear hh hb hv
          replace hT := Lib.hid hT
          go_wp2_with fail
          go_region_with (go_at_call 109; refine (cM.out _).mono ?_; rintro e W2 ⟨rfl, hb2⟩; obtain ⟨q1, q2, q3, q4, ⟨⟨e0, r0⟩, ⟨e1, r1⟩, ⟨e2, r2⟩, ⟨e3, r3⟩⟩, qf⟩ := hkey.out W2 ((below_drewN (Below.refl _ wr) 1).trans hb2); obtain ⟨s0, s1, s2⟩ := q3.cells; have f0 := qf (k * 4); have f1 := qf (k * 4 + 1); have f2 := qf (k * 4 + 2); have f3 := qf (k * 4 + 3); replace q1 := Lib.hid q1; replace q2 := Lib.hid q2; replace q3 := Lib.hid q3; replace qf := Lib.hid qf; have hz2 := hb2.size; clear hb2)
          all_goals
            have hp := Lib.hid (Held.put2 q1.out k (.int .u8 0) (.string (markB 2)) (.int .i64 0) (.int .i64 0))
            rw [hfs.out] at hp
            have hT' : Hid (HeldRow ((((W2.setCell ⟨g, k * 4, none⟩ (.int .u8 0)).setCell ⟨g, k * 4 + 1, none⟩ (.string (markB 2))).setCell ⟨g, k * 4 + 2, none⟩ (.int .i64 0)).setCell ⟨g, k * 4 + 3, none⟩ (.int .i64 0)) wo.heap.size (.slice (some ⟨g, 0, none⟩) N c2) (.slice none 0 0) 2) := (heap_set4 W2 g k _ _ _ _ wo.heap.size (by omega)).trans q3.out
            have hb' := Lib.hid ((((q2.out.setCell (p := ⟨g, k * 4, none⟩) hgb (.int .u8 0)).setCell (p := ⟨g, k * 4 + 1, none⟩) hgb (.string (markB 2))).setCell (p := ⟨g, k * 4 + 2, none⟩) hgb (.int .i64 0)).setCell (p := ⟨g, k * 4 + 3, none⟩) hgb (.int .i64 0))
            clear q1 q2 q3 qf r0 r1 r2 r3 f0 f1 f2 f3 s0 s1 s2
            go_wp2
            go_roundw
            case rel => exact ⟨k + 1, by omega, by go_num, hp.out, hb'.out, hT'.out, by simp; omega⟩
            case measure => simp [intOf]; omega
        · obtain rfl : k = N := by omega
          have hdr : L2.drop (k * 4) = [] := List.drop_of_length_le (by rw [hl2.out]; exact Nat.le_refl _)
          rw [hdr, List.append_nil] at hh
          replace hT := Lib.hid hT
          replace hh := Lib.hid hh
          replace hb := Lib.hid hb
          clear hdr
          go_wp2
          go_roundw
          case rel => exact ⟨2, by omega, by go_num, hh.out, hb.out⟩
          case measure => simp [intOf]
    · replace hi2 : u2 = .int .i64 2 := hi2
      subst hi2
      simp only [if_true, show (0 : Nat) < 2 by omega, show (1 : Nat) < 2 by omega] at hh
      replace hh := Lib.hid hh
      replace hb := Lib.hid hb
      clear d0 d1 d2 d3 d4 d5
      go_wp2
      go_end0
      exact ⟨rfl, hh.out, hb.out⟩
end Go.Proofs.YtimdkdengdhglaaGreatDoor
