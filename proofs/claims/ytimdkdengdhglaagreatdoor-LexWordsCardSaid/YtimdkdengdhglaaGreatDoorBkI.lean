/- lookWord at two lists. (By XBkI.gen.py.) -/
import Derived.Test.YtimdkdengdhglaaGreatDoorBkH
import Derived.Deep.RegionHeld3
namespace Go.Proofs.YtimdkdengdhglaaGreatDoor
open Go Go.RowKit

theorem mcells_at (i M k : Nat) (h : k < M) (j : Nat) (hj : j < 4) : (mcells i M)[k * 4 + j]? = (mcell i)[j]? := by
  obtain ⟨d, rfl⟩ : ∃ d, M = k + (1 + d) := ⟨M - k - 1, by omega⟩
  rw [mcells_add, List.getElem?_append_right (by rw [mcells_len]; omega), mcells_len, mcells_add, show k * 4 + j - k * 4 = j by omega, List.getElem?_append_left (by rw [mcells_len]; omega)]
  have : mcells i 1 = mcell i := by simp [mcells]
  rw [this]
/-- The four cells of a mark in a row of marks. -/
theorem mark_cells {W : World} {base i M g c k : Nat} (h : W.ownsRow base 86 4 (.slice (some ⟨g, 0, none⟩) M c) M (mcells i M)) (hk : k < M) :
    W.cell? ⟨g, k * 4, none⟩ = some (.int .u8 0) ∧ W.cell? ⟨g, k * 4 + 1, none⟩ = some (.string (markB i)) ∧ W.cell? ⟨g, k * 4 + 2, none⟩ = some (.int .i64 0) ∧ W.cell? ⟨g, k * 4 + 3, none⟩ = some (.int .i64 0) :=
  ⟨(h.cellAt _ (by omega)).trans (mcells_at i M k hk 0 (by omega)), (h.cellAt _ (by omega)).trans (mcells_at i M k hk 1 (by omega)), (h.cellAt _ (by omega)).trans (mcells_at i M k hk 2 (by omega)), (h.cellAt _ (by omega)).trans (mcells_at i M k hk 3 (by omega))⟩

section
variable {P : Program} {ops : Array Oper} {Q : Exit → Act → World → Prop} {md : Region.Mode} {S : World → Prop}
theorem held_take (i : Nat) {oi : Oper} {d : Option Tmp} {v : Value} {fuel : Nat} {listed : Array Bool} {a : Act} {w : World} (hi : ops[i]? = some oi) (hd : oi.dst = d)
    (hs : Region.noSelect ops = true) (hf : Region.free md ops listed i = true) (hr : (Region.ready md ops listed).contains i = true)
    (hQ : ∀ c a w, Q (.panic c) (a.put oi.dst v) w → Q (.panic c) a w) (hw : Region.wanted oi (yielded ops a.tmps) = true) (hS : S w)
    (hy : ∀ w, S w → (execOp a.eval oi).run P w = .ok (.value v) w)
    (h : wpAnyH P md ops Q S fuel (listed.setIfInBounds i true) (a.put d v) w) : wpAnyH P md ops Q S (fuel + 1) listed a w := by
  subst hd
  exact wpAnyH_take hi hs hf hr hQ (.inl ⟨hw, hy⟩) hS h
theorem held_idle (i : Nat) {oi : Oper} {d : Option Tmp} {fuel : Nat} {listed : Array Bool} {a : Act} {w : World} (hi : ops[i]? = some oi) (hd : oi.dst = d)
    (hs : Region.noSelect ops = true) (hf : Region.free md ops listed i = true) (hr : (Region.ready md ops listed).contains i = true)
    (hQ : ∀ c a w, Q (.panic c) (a.put oi.dst undef) w → Q (.panic c) a w) (hw : Region.wanted oi (yielded ops a.tmps) = false) (hS : S w)
    (h : wpAnyH P md ops Q S fuel (listed.setIfInBounds i true) (a.put d undef) w) : wpAnyH P md ops Q S (fuel + 1) listed a w := by
  subst hd
  exact wpAnyH_take hi hs hf hr hQ (.inr ⟨hw, rfl⟩) hS h
end

set_option maxHeartbeats 8000000 in
set_option maxRecDepth 100000 in
theorem lookWord_any (base B H cap N : Nat) (a1 a2 : Option Addr) (c1 c2 : Nat) (w : World) (h : GSt w base B H cap (.slice a1 N c1) (.slice a2 N c2) N 2) (hN : N ≤ 1000000) :
    Calls Tryz.prog 70 #[.pointer (some ⟨B, 0, none⟩)] w fun e w' => e = .returned (.bool true) ∧ Below w.heap.size w w' := by
  obtain ⟨u1, u2, hh0, hl1, hl2⟩ := h
  obtain ⟨g1, e1, rfl, _, _⟩ := hl1.form (by omega)
  obtain ⟨g2, e2, rfl, _, _⟩ := hl2.form (by omega)
  replace hh0 := Lib.hid hh0
  replace hl1 := Lib.hid hl1
  replace hl2 := Lib.hid hl2
  go_enter Tryz.func70, Tryz.ntmps70
  go_wp2
  go_loopw [3] (fun i wr => ∃ j : Nat, j ≤ 2 ∧ i = .int .i64 (j : Nat) ∧ Below w.heap.size w wr) (fun i _ => 2 - (intOf i).toNat)
  case atStart => exact ⟨0, by omega, rfl, Below.refl _ _⟩
  case round =>
    obtain ⟨j, hj, hi2, hb⟩ := hrel
    have hh := hh0.out.below hb
    have x5 := hh.book.c5
    obtain ⟨d0, d1, d2, d3, d4, d5⟩ := hh.cells
    have hHl := hh.H_lt
    have hBl := hh.book.lt
    replace hh := Lib.hid hh
    rcases (by omega : j = 0 ∨ j = 1 ∨ j = 2) with rfl | rfl | rfl
    · obtain ⟨wo, rfl⟩ : ∃ wo : World, wo = wr := ⟨_, rfl⟩
      replace hi2 : u3 = .int .i64 0 := hi2
      subst hi2
      obtain ⟨S, hS⟩ : ∃ S, S = wo.alloc (.cells #[.slice a1 N c1, .slice (some ⟨g1, 0, none⟩) (N + 40) e1, .int .i64 1] 124) := ⟨_, rfl⟩
      have hbS : Below wo.heap.size wo S := by rw [hS]; exact (Below.refl _ wo).alloc (Nat.le_refl _) _
      have hTS : HeldRow S wo.heap.size (.slice a1 N c1) (.slice (some ⟨g1, 0, none⟩) (N + 40) e1) 1 := by rw [hS]; exact heap_alloc_new wo _
      have hzS : S.heap.size = wo.heap.size + 1 := by rw [hS]; simp
      have hbw := hb.trans (hbS.mono hb.size)
      have hzw := hb.size
      obtain ⟨t0, t1, t2⟩ := hTS.cells
      replace hS := Lib.hid hS
      replace hTS := Lib.hid hTS
      replace hbw := Lib.hid hbw
      clear hb hbS
      go_wp2_with fail
      rw [← hS.out]
      go_wp2
      go_loopw [5] (fun i wr => ∃ k : Nat, k ≤ N + 40 ∧ i = .int .i64 (k : Nat) ∧ Below S.heap.size S wr) (fun i _ => N + 40 - (intOf i).toNat)
      case atStart => exact ⟨0, by omega, rfl, Below.refl _ _⟩
      case round =>
        obtain ⟨k, hk, rfl, hbk⟩ := hrel
        clear x5 d0 d1 d2 d3 d4 d5 t0 t1 t2
        have hT := hTS.out.below (by omega) hbk
        have hzk := hbk.size
        obtain ⟨t0, t1, t2⟩ := hT.cells
        replace hT := Lib.hid hT
        by_cases hlt : k < N + 40
        · have cI : Hid (∀ V, Calls Tryz.prog 125 #[.agg #[.int .u8 0, .string (markB 1), .int .i64 0, .int .i64 0], .int .i64 1] V fun e w' => e = .returned (.bool true) ∧ Below V.heap.size V w') := fun V => isWord_any 1 (by omega) 0 0 0 V
          have hcur : Hid (Below S.heap.size S wr.drew) := below_drewN hbk 1
          by_cases hlt2 : k < N
          · have hkn : decide ((k : Int) < (N : Int)) = true := by simp; omega
            obtain ⟨gl, cl, hv, _, _⟩ := hh.out.one.form (by omega)
            obtain ⟨rfl, rfl⟩ : a1 = some ⟨gl, 0, none⟩ ∧ c1 = cl := by simp at hv; exact ⟨hv.1, hv.2⟩
            have hkey : Hid (∀ V, Below S.heap.size S V → (V.cell? ⟨wo.heap.size, 0, none⟩ = some (.slice (some ⟨gl, 0, none⟩) N c1) ∧ V.cell? ⟨wo.heap.size, 1, none⟩ = some (.slice (some ⟨g1, 0, none⟩) (N + 40) e1) ∧ V.cell? ⟨wo.heap.size, 2, none⟩ = some (.int .i64 1)) ∧
                (V.cell? ⟨g1, k * 4, none⟩ = some (.int .u8 0) ∧ V.cell? ⟨g1, k * 4 + 1, none⟩ = some (.string (markB 1)) ∧ V.cell? ⟨g1, k * 4 + 2, none⟩ = some (.int .i64 0) ∧ V.cell? ⟨g1, k * 4 + 3, none⟩ = some (.int .i64 0)) ∧
                (V.cell? ⟨gl, k * 4, none⟩ = some (.int .u8 0) ∧ V.cell? ⟨gl, k * 4 + 1, none⟩ = some (.string (markB 1)) ∧ V.cell? ⟨gl, k * 4 + 2, none⟩ = some (.int .i64 0) ∧ V.cell? ⟨gl, k * 4 + 3, none⟩ = some (.int .i64 0))) := fun V hV =>
              have hwV := hbw.out.trans (hV.mono (by omega))
              ⟨(hTS.out.below (by omega) hV).cells, mark_cells (hl1.out.kept (below_grown hwV none) (Classical.em _)) hlt, mark_cells (hh0.out.below hwV).one hlt2⟩
            obtain ⟨_, ⟨p0, p1, p2, p3⟩, ⟨q0, q1, q2, q3⟩⟩ := hkey.out wr hbk
            clear hv hbk
            go_wp2_with fail
            go_region_held3 (fun V => V.cell? ⟨wo.heap.size, 0, none⟩ = some (.slice (some ⟨gl, 0, none⟩) N c1) ∧ V.cell? ⟨wo.heap.size, 1, none⟩ = some (.slice (some ⟨g1, 0, none⟩) (N + 40) e1) ∧ V.cell? ⟨wo.heap.size, 2, none⟩ = some (.int .i64 1) ∧ V.cell? ⟨g1, k * 4, none⟩ = some (.int .u8 0) ∧ V.cell? ⟨g1, k * 4 + 1, none⟩ = some (.string (markB 1)) ∧ V.cell? ⟨g1, k * 4 + 2, none⟩ = some (.int .i64 0) ∧ V.cell? ⟨g1, k * 4 + 3, none⟩ = some (.int .i64 0) ∧ V.cell? ⟨gl, k * 4, none⟩ = some (.int .u8 0) ∧ V.cell? ⟨gl, k * 4 + 1, none⟩ = some (.string (markB 1)) ∧ V.cell? ⟨gl, k * 4 + 2, none⟩ = some (.int .i64 0) ∧ V.cell? ⟨gl, k * 4 + 3, none⟩ = some (.int .i64 0)) (first | go_keep | exact ⟨t0, t1, t2, p0, p1, p2, p3, q0, q1, q2, q3⟩) (first | (go_at_call 125; refine (cI.out _).mono ?_; rintro e W2 ⟨rfl, hb2⟩; replace hcur := Lib.hid (hcur.out.trans (hb2.mono hcur.out.size)); obtain ⟨⟨t0, t1, t2⟩, ⟨p0, p1, p2, p3⟩, ⟨q0, q1, q2, q3⟩⟩ := hkey.out W2 hcur.out; have hz2 := hb2.size; clear hb2))
            all_goals
              have hcur' := hcur
              go_wp2
              go_roundw
              case rel => exact ⟨k + 1, by omega, by go_num, hcur'.out⟩
              case measure => simp [intOf]; omega
          · have hkn : decide ((k : Int) < (N : Int)) = false := by simp; omega
            have hkey : Hid (∀ V, Below S.heap.size S V → (V.cell? ⟨wo.heap.size, 0, none⟩ = some (.slice a1 N c1) ∧ V.cell? ⟨wo.heap.size, 1, none⟩ = some (.slice (some ⟨g1, 0, none⟩) (N + 40) e1) ∧ V.cell? ⟨wo.heap.size, 2, none⟩ = some (.int .i64 1)) ∧
                (V.cell? ⟨g1, k * 4, none⟩ = some (.int .u8 0) ∧ V.cell? ⟨g1, k * 4 + 1, none⟩ = some (.string (markB 1)) ∧ V.cell? ⟨g1, k * 4 + 2, none⟩ = some (.int .i64 0) ∧ V.cell? ⟨g1, k * 4 + 3, none⟩ = some (.int .i64 0))) := fun V hV =>
              have hwV := hbw.out.trans (hV.mono (by omega))
              ⟨(hTS.out.below (by omega) hV).cells, mark_cells (hl1.out.kept (below_grown hwV none) (Classical.em _)) hlt⟩
            obtain ⟨_, ⟨p0, p1, p2, p3⟩⟩ := hkey.out wr hbk
            clear hbk
            go_wp2_with fail
            refine wp_region_held_drew (S := (fun V => V.cell? ⟨wo.heap.size, 0, none⟩ = some (.slice a1 N c1) ∧ V.cell? ⟨wo.heap.size, 1, none⟩ = some (.slice (some ⟨g1, 0, none⟩) (N + 40) e1) ∧ V.cell? ⟨wo.heap.size, 2, none⟩ = some (.int .i64 1) ∧ V.cell? ⟨g1, k * 4, none⟩ = some (.int .u8 0) ∧ V.cell? ⟨g1, k * 4 + 1, none⟩ = some (.string (markB 1)) ∧ V.cell? ⟨g1, k * 4 + 2, none⟩ = some (.int .i64 0) ∧ V.cell? ⟨g1, k * 4 + 3, none⟩ = some (.int .i64 0))) (by kernel_rfl) (by exact ⟨t0, t1, t2, p0, p1, p2, p3⟩) (fun hHeld => ?_)
            refine held_take 0 (d := some 37) (v := ?_) rfl rfl (by kernel_rfl) (by kernel_rfl) (by kernel_rfl) (fun _ _ _ h => h) (by rfl) (by assumption) ?_ ?_
            rotate_left
            · intro V hV; obtain ⟨y0, y1, y2, z0, z1, z2, z3⟩ := hV; go_simp <;> with_reducible rfl
            try simp only [Act.put, List.setIfInBounds_toArray, List.set_cons_zero, List.set_cons_succ]
            refine held_take 1 (d := some 38) (v := ?_) rfl rfl (by kernel_rfl) (by kernel_rfl) (by kernel_rfl) (fun _ _ _ h => h) (by rfl) (by assumption) ?_ ?_
            rotate_left
            · intro V hV; obtain ⟨y0, y1, y2, z0, z1, z2, z3⟩ := hV; go_simp <;> with_reducible rfl
            try simp only [Act.put, List.setIfInBounds_toArray, List.set_cons_zero, List.set_cons_succ]
            refine held_take 2 (d := some 39) (v := ?_) rfl rfl (by kernel_rfl) (by kernel_rfl) (by kernel_rfl) (fun _ _ _ h => h) (by rfl) (by assumption) ?_ ?_
            rotate_left
            · intro V hV; obtain ⟨y0, y1, y2, z0, z1, z2, z3⟩ := hV; go_simp <;> with_reducible rfl
            try simp only [Act.put, List.setIfInBounds_toArray, List.set_cons_zero, List.set_cons_succ]
            refine held_take 3 (d := some 40) (v := ?_) rfl rfl (by kernel_rfl) (by kernel_rfl) (by kernel_rfl) (fun _ _ _ h => h) (by rfl) (by assumption) ?_ ?_
            rotate_left
            · intro V hV; obtain ⟨y0, y1, y2, z0, z1, z2, z3⟩ := hV; go_simp <;> with_reducible rfl
            try simp only [Act.put, List.setIfInBounds_toArray, List.set_cons_zero, List.set_cons_succ]
            refine held_take 4 (d := some 41) (v := ?_) rfl rfl (by kernel_rfl) (by kernel_rfl) (by kernel_rfl) (fun _ _ _ h => h) (by rfl) (by assumption) ?_ ?_
            rotate_left
            · intro V hV; obtain ⟨y0, y1, y2, z0, z1, z2, z3⟩ := hV; go_simp <;> with_reducible rfl
            try simp only [Act.put, List.setIfInBounds_toArray, List.set_cons_zero, List.set_cons_succ]
            refine held_take 5 (d := some 42) (v := ?_) rfl rfl (by kernel_rfl) (by kernel_rfl) (by kernel_rfl) (fun _ _ _ h => h) (by rfl) (by assumption) ?_ ?_
            rotate_left
            · intro V hV; obtain ⟨y0, y1, y2, z0, z1, z2, z3⟩ := hV; go_simp <;> with_reducible rfl
            try simp only [Act.put, List.setIfInBounds_toArray, List.set_cons_zero, List.set_cons_succ]
            refine held_take 6 (d := some 43) (v := ?_) rfl rfl (by kernel_rfl) (by kernel_rfl) (by kernel_rfl) (fun _ _ _ h => h) (by rfl) (by assumption) ?_ ?_
            rotate_left
            · intro V hV; obtain ⟨y0, y1, y2, z0, z1, z2, z3⟩ := hV; go_simp <;> with_reducible rfl
            try simp only [Act.put, List.setIfInBounds_toArray, List.set_cons_zero, List.set_cons_succ]
            refine wpAnyH_ready (rs := [7]) (by kernel_rfl) (by simp) ?_
            refine AllReadyH.cons rfl (fun K hK => ?_) AllReadyH.nil
            go_simp
            go_at_call 125
            refine (cI.out _).mono ?_
            rintro e W2 ⟨rfl, hb2⟩
            replace hcur := Lib.hid (hcur.out.trans (hb2.mono hcur.out.size))
            obtain ⟨⟨t0, t1, t2⟩, ⟨p0, p1, p2, p3⟩⟩ := hkey.out W2 hcur.out
            have hz2 := hb2.size
            clear hb2
            go_wp2_with fail
            refine hK.out _ _ (by exact ⟨t0, t1, t2, p0, p1, p2, p3⟩) (fun hHeld => ?_)
            clear hK K
            try simp only [Act.put, List.setIfInBounds_toArray, List.set_cons_zero, List.set_cons_succ]
            refine held_take 8 (d := some 45) (v := ?_) rfl rfl (by kernel_rfl) (by kernel_rfl) (by kernel_rfl) (fun _ _ _ h => h) (by rfl) (by assumption) ?_ ?_
            rotate_left
            · intro V hV; obtain ⟨y0, y1, y2, z0, z1, z2, z3⟩ := hV; go_simp <;> with_reducible rfl
            try simp only [Act.put, List.setIfInBounds_toArray, List.set_cons_zero, List.set_cons_succ]
            refine held_take 9 (d := some 46) (v := ?_) rfl rfl (by kernel_rfl) (by kernel_rfl) (by kernel_rfl) (fun _ _ _ h => h) (by rfl) (by assumption) ?_ ?_
            rotate_left
            · intro V hV; obtain ⟨y0, y1, y2, z0, z1, z2, z3⟩ := hV; go_simp <;> with_reducible rfl
            try simp only [Act.put, List.setIfInBounds_toArray, List.set_cons_zero, List.set_cons_succ]
            refine held_take 10 (d := some 47) (v := ?_) rfl rfl (by kernel_rfl) (by kernel_rfl) (by kernel_rfl) (fun _ _ _ h => h) (by rfl) (by assumption) ?_ ?_
            rotate_left
            · intro V hV; obtain ⟨y0, y1, y2, z0, z1, z2, z3⟩ := hV; go_simp <;> with_reducible rfl
            try simp only [Act.put, List.setIfInBounds_toArray, List.set_cons_zero, List.set_cons_succ]
            refine held_take 11 (d := some 48) (v := ?_) rfl rfl (by kernel_rfl) (by kernel_rfl) (by kernel_rfl) (fun _ _ _ h => h) (by rfl) (by assumption) ?_ ?_
            rotate_left
            · intro V hV; obtain ⟨y0, y1, y2, z0, z1, z2, z3⟩ := hV; go_simp <;> with_reducible rfl
            try simp only [Act.put, List.setIfInBounds_toArray, List.set_cons_zero, List.set_cons_succ]
            refine held_take 12 (d := some 49) (v := ?_) rfl rfl (by kernel_rfl) (by kernel_rfl) (by kernel_rfl) (fun _ _ _ h => h) (by rfl) (by assumption) ?_ ?_
            rotate_left
            · intro V hV; obtain ⟨y0, y1, y2, z0, z1, z2, z3⟩ := hV; go_simp <;> with_reducible rfl
            try simp only [Act.put, List.setIfInBounds_toArray, List.set_cons_zero, List.set_cons_succ]
            refine held_take 13 (d := some 50) (v := ?_) rfl rfl (by kernel_rfl) (by kernel_rfl) (by kernel_rfl) (fun _ _ _ h => h) (by rfl) (by assumption) ?_ ?_
            rotate_left
            · intro V hV; obtain ⟨y0, y1, y2, z0, z1, z2, z3⟩ := hV; go_simp <;> with_reducible rfl
            try simp only [Act.put, List.setIfInBounds_toArray, List.set_cons_zero, List.set_cons_succ]
            refine held_take 14 (d := some 51) (v := ?_) rfl rfl (by kernel_rfl) (by kernel_rfl) (by kernel_rfl) (fun _ _ _ h => h) (by rfl) (by assumption) ?_ ?_
            rotate_left
            · intro V hV; obtain ⟨y0, y1, y2, z0, z1, z2, z3⟩ := hV; go_simp <;> with_reducible rfl
            try simp only [Act.put, List.setIfInBounds_toArray, List.set_cons_zero, List.set_cons_succ]
            refine held_take 15 (d := some 52) (v := ?_) rfl rfl (by kernel_rfl) (by kernel_rfl) (by kernel_rfl) (fun _ _ _ h => h) (by rfl) (by assumption) ?_ ?_
            rotate_left
            · intro V hV; obtain ⟨y0, y1, y2, z0, z1, z2, z3⟩ := hV; go_simp <;> with_reducible rfl
            try simp only [Act.put, List.setIfInBounds_toArray, List.set_cons_zero, List.set_cons_succ]
            refine held_idle 16 (d := some 53) rfl rfl (by kernel_rfl) (by kernel_rfl) (by kernel_rfl) (fun _ _ _ h => h) (by rfl) (by assumption) ?_
            try simp only [Act.put, List.setIfInBounds_toArray, List.set_cons_zero, List.set_cons_succ]
            refine held_idle 17 (d := some 54) rfl rfl (by kernel_rfl) (by kernel_rfl) (by kernel_rfl) (fun _ _ _ h => h) (by rfl) (by assumption) ?_
            try simp only [Act.put, List.setIfInBounds_toArray, List.set_cons_zero, List.set_cons_succ]
            refine held_idle 18 (d := some 55) rfl rfl (by kernel_rfl) (by kernel_rfl) (by kernel_rfl) (fun _ _ _ h => h) (by rfl) (by assumption) ?_
            try simp only [Act.put, List.setIfInBounds_toArray, List.set_cons_zero, List.set_cons_succ]
            refine held_idle 19 (d := some 56) rfl rfl (by kernel_rfl) (by kernel_rfl) (by kernel_rfl) (fun _ _ _ h => h) (by rfl) (by assumption) ?_
            try simp only [Act.put, List.setIfInBounds_toArray, List.set_cons_zero, List.set_cons_succ]
            refine held_idle 20 (d := some 57) rfl rfl (by kernel_rfl) (by kernel_rfl) (by kernel_rfl) (fun _ _ _ h => h) (by rfl) (by assumption) ?_
            try simp only [Act.put, List.setIfInBounds_toArray, List.set_cons_zero, List.set_cons_succ]
            refine held_idle 21 (d := some 58) rfl rfl (by kernel_rfl) (by kernel_rfl) (by kernel_rfl) (fun _ _ _ h => h) (by rfl) (by assumption) ?_
            try simp only [Act.put, List.setIfInBounds_toArray, List.set_cons_zero, List.set_cons_succ]
            refine held_idle 22 (d := some 59) rfl rfl (by kernel_rfl) (by kernel_rfl) (by kernel_rfl) (fun _ _ _ h => h) (by rfl) (by assumption) ?_
            try simp only [Act.put, List.setIfInBounds_toArray, List.set_cons_zero, List.set_cons_succ]
            refine held_idle 23 (d := some 60) rfl rfl (by kernel_rfl) (by kernel_rfl) (by kernel_rfl) (fun _ _ _ h => h) (by rfl) (by assumption) ?_
            try simp only [Act.put, List.setIfInBounds_toArray, List.set_cons_zero, List.set_cons_succ]
            refine held_idle 24 (d := some 61) rfl rfl (by kernel_rfl) (by kernel_rfl) (by kernel_rfl) (fun _ _ _ h => h) (by rfl) (by assumption) ?_
            try simp only [Act.put, List.setIfInBounds_toArray, List.set_cons_zero, List.set_cons_succ]
            refine held_take 25 (d := some 62) (v := ?_) rfl rfl (by kernel_rfl) (by kernel_rfl) (by kernel_rfl) (fun _ _ _ h => h) (by rfl) (by assumption) ?_ ?_
            rotate_left
            · intro V hV; obtain ⟨y0, y1, y2, z0, z1, z2, z3⟩ := hV; go_simp <;> with_reducible rfl
            try simp only [Act.put, List.setIfInBounds_toArray, List.set_cons_zero, List.set_cons_succ]
            refine held_take 26 (d := some 63) (v := ?_) rfl rfl (by kernel_rfl) (by kernel_rfl) (by kernel_rfl) (fun _ _ _ h => h) (by rfl) (by assumption) ?_ ?_
            rotate_left
            · intro V hV; obtain ⟨y0, y1, y2, z0, z1, z2, z3⟩ := hV; go_simp <;> with_reducible rfl
            try simp only [Act.put, List.setIfInBounds_toArray, List.set_cons_zero, List.set_cons_succ]
            refine wpAnyH_done (by kernel_rfl) ?_ _
            all_goals
              have hcur' := hcur
              go_wp2
              go_roundw
              case rel => exact ⟨k + 1, by omega, by go_num, hcur'.out⟩
              case measure => simp [intOf]; omega
        · obtain rfl : k = N + 40 := by omega
          have hbf := Lib.hid (hbw.out.trans (hbk.mono (by omega)))
          clear hbk
          go_wp2
          go_roundw
          case rel => exact ⟨1, by omega, by go_num, hbf.out⟩
          case measure => simp [intOf]
    · obtain ⟨wo, rfl⟩ : ∃ wo : World, wo = wr := ⟨_, rfl⟩
      replace hi2 : u3 = .int .i64 1 := hi2
      subst hi2
      obtain ⟨S, hS⟩ : ∃ S, S = wo.alloc (.cells #[.slice a2 N c2, .slice (some ⟨g2, 0, none⟩) (N + 40) e2, .int .i64 2] 124) := ⟨_, rfl⟩
      have hbS : Below wo.heap.size wo S := by rw [hS]; exact (Below.refl _ wo).alloc (Nat.le_refl _) _
      have hTS : HeldRow S wo.heap.size (.slice a2 N c2) (.slice (some ⟨g2, 0, none⟩) (N + 40) e2) 2 := by rw [hS]; exact heap_alloc_new wo _
      have hzS : S.heap.size = wo.heap.size + 1 := by rw [hS]; simp
      have hbw := hb.trans (hbS.mono hb.size)
      have hzw := hb.size
      obtain ⟨t0, t1, t2⟩ := hTS.cells
      replace hS := Lib.hid hS
      replace hTS := Lib.hid hTS
      replace hbw := Lib.hid hbw
      clear hb hbS
      go_wp2_with fail
      rw [← hS.out]
      go_wp2
      go_loopw [5] (fun i wr => ∃ k : Nat, k ≤ N + 40 ∧ i = .int .i64 (k : Nat) ∧ Below S.heap.size S wr) (fun i _ => N + 40 - (intOf i).toNat)
      case atStart => exact ⟨0, by omega, rfl, Below.refl _ _⟩
      case round =>
        obtain ⟨k, hk, rfl, hbk⟩ := hrel
        clear x5 d0 d1 d2 d3 d4 d5 t0 t1 t2
        have hT := hTS.out.below (by omega) hbk
        have hzk := hbk.size
        obtain ⟨t0, t1, t2⟩ := hT.cells
        replace hT := Lib.hid hT
        by_cases hlt : k < N + 40
        · have cI : Hid (∀ V, Calls Tryz.prog 125 #[.agg #[.int .u8 0, .string (markB 2), .int .i64 0, .int .i64 0], .int .i64 2] V fun e w' => e = .returned (.bool true) ∧ Below V.heap.size V w') := fun V => isWord_any 2 (by omega) 0 0 0 V
          have hcur : Hid (Below S.heap.size S wr.drew) := below_drewN hbk 1
          by_cases hlt2 : k < N
          · have hkn : decide ((k : Int) < (N : Int)) = true := by simp; omega
            obtain ⟨gl, cl, hv, _, _⟩ := hh.out.two.form (by omega)
            obtain ⟨rfl, rfl⟩ : a2 = some ⟨gl, 0, none⟩ ∧ c2 = cl := by simp at hv; exact ⟨hv.1, hv.2⟩
            have hkey : Hid (∀ V, Below S.heap.size S V → (V.cell? ⟨wo.heap.size, 0, none⟩ = some (.slice (some ⟨gl, 0, none⟩) N c2) ∧ V.cell? ⟨wo.heap.size, 1, none⟩ = some (.slice (some ⟨g2, 0, none⟩) (N + 40) e2) ∧ V.cell? ⟨wo.heap.size, 2, none⟩ = some (.int .i64 2)) ∧
                (V.cell? ⟨g2, k * 4, none⟩ = some (.int .u8 0) ∧ V.cell? ⟨g2, k * 4 + 1, none⟩ = some (.string (markB 2)) ∧ V.cell? ⟨g2, k * 4 + 2, none⟩ = some (.int .i64 0) ∧ V.cell? ⟨g2, k * 4 + 3, none⟩ = some (.int .i64 0)) ∧
                (V.cell? ⟨gl, k * 4, none⟩ = some (.int .u8 0) ∧ V.cell? ⟨gl, k * 4 + 1, none⟩ = some (.string (markB 2)) ∧ V.cell? ⟨gl, k * 4 + 2, none⟩ = some (.int .i64 0) ∧ V.cell? ⟨gl, k * 4 + 3, none⟩ = some (.int .i64 0))) := fun V hV =>
              have hwV := hbw.out.trans (hV.mono (by omega))
              ⟨(hTS.out.below (by omega) hV).cells, mark_cells (hl2.out.kept (below_grown hwV none) (Classical.em _)) hlt, mark_cells (hh0.out.below hwV).two hlt2⟩
            obtain ⟨_, ⟨p0, p1, p2, p3⟩, ⟨q0, q1, q2, q3⟩⟩ := hkey.out wr hbk
            clear hv hbk
            go_wp2_with fail
            go_region_held3 (fun V => V.cell? ⟨wo.heap.size, 0, none⟩ = some (.slice (some ⟨gl, 0, none⟩) N c2) ∧ V.cell? ⟨wo.heap.size, 1, none⟩ = some (.slice (some ⟨g2, 0, none⟩) (N + 40) e2) ∧ V.cell? ⟨wo.heap.size, 2, none⟩ = some (.int .i64 2) ∧ V.cell? ⟨g2, k * 4, none⟩ = some (.int .u8 0) ∧ V.cell? ⟨g2, k * 4 + 1, none⟩ = some (.string (markB 2)) ∧ V.cell? ⟨g2, k * 4 + 2, none⟩ = some (.int .i64 0) ∧ V.cell? ⟨g2, k * 4 + 3, none⟩ = some (.int .i64 0) ∧ V.cell? ⟨gl, k * 4, none⟩ = some (.int .u8 0) ∧ V.cell? ⟨gl, k * 4 + 1, none⟩ = some (.string (markB 2)) ∧ V.cell? ⟨gl, k * 4 + 2, none⟩ = some (.int .i64 0) ∧ V.cell? ⟨gl, k * 4 + 3, none⟩ = some (.int .i64 0)) (first | go_keep | exact ⟨t0, t1, t2, p0, p1, p2, p3, q0, q1, q2, q3⟩) (first | (go_at_call 125; refine (cI.out _).mono ?_; rintro e W2 ⟨rfl, hb2⟩; replace hcur := Lib.hid (hcur.out.trans (hb2.mono hcur.out.size)); obtain ⟨⟨t0, t1, t2⟩, ⟨p0, p1, p2, p3⟩, ⟨q0, q1, q2, q3⟩⟩ := hkey.out W2 hcur.out; have hz2 := hb2.size; clear hb2))
            all_goals
              have hcur' := hcur
              go_wp2
              go_roundw
              case rel => exact ⟨k + 1, by omega, by go_num, hcur'.out⟩
              case measure => simp [intOf]; omega
          · have hkn : decide ((k : Int) < (N : Int)) = false := by simp; omega
            have hkey : Hid (∀ V, Below S.heap.size S V → (V.cell? ⟨wo.heap.size, 0, none⟩ = some (.slice a2 N c2) ∧ V.cell? ⟨wo.heap.size, 1, none⟩ = some (.slice (some ⟨g2, 0, none⟩) (N + 40) e2) ∧ V.cell? ⟨wo.heap.size, 2, none⟩ = some (.int .i64 2)) ∧
                (V.cell? ⟨g2, k * 4, none⟩ = some (.int .u8 0) ∧ V.cell? ⟨g2, k * 4 + 1, none⟩ = some (.string (markB 2)) ∧ V.cell? ⟨g2, k * 4 + 2, none⟩ = some (.int .i64 0) ∧ V.cell? ⟨g2, k * 4 + 3, none⟩ = some (.int .i64 0))) := fun V hV =>
              have hwV := hbw.out.trans (hV.mono (by omega))
              ⟨(hTS.out.below (by omega) hV).cells, mark_cells (hl2.out.kept (below_grown hwV none) (Classical.em _)) hlt⟩
            obtain ⟨_, ⟨p0, p1, p2, p3⟩⟩ := hkey.out wr hbk
            clear hbk
            go_wp2_with fail
            refine wp_region_held_drew (S := (fun V => V.cell? ⟨wo.heap.size, 0, none⟩ = some (.slice a2 N c2) ∧ V.cell? ⟨wo.heap.size, 1, none⟩ = some (.slice (some ⟨g2, 0, none⟩) (N + 40) e2) ∧ V.cell? ⟨wo.heap.size, 2, none⟩ = some (.int .i64 2) ∧ V.cell? ⟨g2, k * 4, none⟩ = some (.int .u8 0) ∧ V.cell? ⟨g2, k * 4 + 1, none⟩ = some (.string (markB 2)) ∧ V.cell? ⟨g2, k * 4 + 2, none⟩ = some (.int .i64 0) ∧ V.cell? ⟨g2, k * 4 + 3, none⟩ = some (.int .i64 0))) (by kernel_rfl) (by exact ⟨t0, t1, t2, p0, p1, p2, p3⟩) (fun hHeld => ?_)
            refine held_take 0 (d := some 37) (v := ?_) rfl rfl (by kernel_rfl) (by kernel_rfl) (by kernel_rfl) (fun _ _ _ h => h) (by rfl) (by assumption) ?_ ?_
            rotate_left
            · intro V hV; obtain ⟨y0, y1, y2, z0, z1, z2, z3⟩ := hV; go_simp <;> with_reducible rfl
            try simp only [Act.put, List.setIfInBounds_toArray, List.set_cons_zero, List.set_cons_succ]
            refine held_take 1 (d := some 38) (v := ?_) rfl rfl (by kernel_rfl) (by kernel_rfl) (by kernel_rfl) (fun _ _ _ h => h) (by rfl) (by assumption) ?_ ?_
            rotate_left
            · intro V hV; obtain ⟨y0, y1, y2, z0, z1, z2, z3⟩ := hV; go_simp <;> with_reducible rfl
            try simp only [Act.put, List.setIfInBounds_toArray, List.set_cons_zero, List.set_cons_succ]
            refine held_take 2 (d := some 39) (v := ?_) rfl rfl (by kernel_rfl) (by kernel_rfl) (by kernel_rfl) (fun _ _ _ h => h) (by rfl) (by assumption) ?_ ?_
            rotate_left
            · intro V hV; obtain ⟨y0, y1, y2, z0, z1, z2, z3⟩ := hV; go_simp <;> with_reducible rfl
            try simp only [Act.put, List.setIfInBounds_toArray, List.set_cons_zero, List.set_cons_succ]
            refine held_take 3 (d := some 40) (v := ?_) rfl rfl (by kernel_rfl) (by kernel_rfl) (by kernel_rfl) (fun _ _ _ h => h) (by rfl) (by assumption) ?_ ?_
            rotate_left
            · intro V hV; obtain ⟨y0, y1, y2, z0, z1, z2, z3⟩ := hV; go_simp <;> with_reducible rfl
            try simp only [Act.put, List.setIfInBounds_toArray, List.set_cons_zero, List.set_cons_succ]
            refine held_take 4 (d := some 41) (v := ?_) rfl rfl (by kernel_rfl) (by kernel_rfl) (by kernel_rfl) (fun _ _ _ h => h) (by rfl) (by assumption) ?_ ?_
            rotate_left
            · intro V hV; obtain ⟨y0, y1, y2, z0, z1, z2, z3⟩ := hV; go_simp <;> with_reducible rfl
            try simp only [Act.put, List.setIfInBounds_toArray, List.set_cons_zero, List.set_cons_succ]
            refine held_take 5 (d := some 42) (v := ?_) rfl rfl (by kernel_rfl) (by kernel_rfl) (by kernel_rfl) (fun _ _ _ h => h) (by rfl) (by assumption) ?_ ?_
            rotate_left
            · intro V hV; obtain ⟨y0, y1, y2, z0, z1, z2, z3⟩ := hV; go_simp <;> with_reducible rfl
            try simp only [Act.put, List.setIfInBounds_toArray, List.set_cons_zero, List.set_cons_succ]
            refine held_take 6 (d := some 43) (v := ?_) rfl rfl (by kernel_rfl) (by kernel_rfl) (by kernel_rfl) (fun _ _ _ h => h) (by rfl) (by assumption) ?_ ?_
            rotate_left
            · intro V hV; obtain ⟨y0, y1, y2, z0, z1, z2, z3⟩ := hV; go_simp <;> with_reducible rfl
            try simp only [Act.put, List.setIfInBounds_toArray, List.set_cons_zero, List.set_cons_succ]
            refine wpAnyH_ready (rs := [7]) (by kernel_rfl) (by simp) ?_
            refine AllReadyH.cons rfl (fun K hK => ?_) AllReadyH.nil
            go_simp
            go_at_call 125
            refine (cI.out _).mono ?_
            rintro e W2 ⟨rfl, hb2⟩
            replace hcur := Lib.hid (hcur.out.trans (hb2.mono hcur.out.size))
            obtain ⟨⟨t0, t1, t2⟩, ⟨p0, p1, p2, p3⟩⟩ := hkey.out W2 hcur.out
            have hz2 := hb2.size
            clear hb2
            go_wp2_with fail
            refine hK.out _ _ (by exact ⟨t0, t1, t2, p0, p1, p2, p3⟩) (fun hHeld => ?_)
            clear hK K
            try simp only [Act.put, List.setIfInBounds_toArray, List.set_cons_zero, List.set_cons_succ]
            refine held_take 8 (d := some 45) (v := ?_) rfl rfl (by kernel_rfl) (by kernel_rfl) (by kernel_rfl) (fun _ _ _ h => h) (by rfl) (by assumption) ?_ ?_
            rotate_left
            · intro V hV; obtain ⟨y0, y1, y2, z0, z1, z2, z3⟩ := hV; go_simp <;> with_reducible rfl
            try simp only [Act.put, List.setIfInBounds_toArray, List.set_cons_zero, List.set_cons_succ]
            refine held_take 9 (d := some 46) (v := ?_) rfl rfl (by kernel_rfl) (by kernel_rfl) (by kernel_rfl) (fun _ _ _ h => h) (by rfl) (by assumption) ?_ ?_
            rotate_left
            · intro V hV; obtain ⟨y0, y1, y2, z0, z1, z2, z3⟩ := hV; go_simp <;> with_reducible rfl
            try simp only [Act.put, List.setIfInBounds_toArray, List.set_cons_zero, List.set_cons_succ]
            refine held_take 10 (d := some 47) (v := ?_) rfl rfl (by kernel_rfl) (by kernel_rfl) (by kernel_rfl) (fun _ _ _ h => h) (by rfl) (by assumption) ?_ ?_
            rotate_left
            · intro V hV; obtain ⟨y0, y1, y2, z0, z1, z2, z3⟩ := hV; go_simp <;> with_reducible rfl
            try simp only [Act.put, List.setIfInBounds_toArray, List.set_cons_zero, List.set_cons_succ]
            refine held_take 11 (d := some 48) (v := ?_) rfl rfl (by kernel_rfl) (by kernel_rfl) (by kernel_rfl) (fun _ _ _ h => h) (by rfl) (by assumption) ?_ ?_
            rotate_left
            · intro V hV; obtain ⟨y0, y1, y2, z0, z1, z2, z3⟩ := hV; go_simp <;> with_reducible rfl
            try simp only [Act.put, List.setIfInBounds_toArray, List.set_cons_zero, List.set_cons_succ]
            refine held_take 12 (d := some 49) (v := ?_) rfl rfl (by kernel_rfl) (by kernel_rfl) (by kernel_rfl) (fun _ _ _ h => h) (by rfl) (by assumption) ?_ ?_
            rotate_left
            · intro V hV; obtain ⟨y0, y1, y2, z0, z1, z2, z3⟩ := hV; go_simp <;> with_reducible rfl
            try simp only [Act.put, List.setIfInBounds_toArray, List.set_cons_zero, List.set_cons_succ]
            refine held_take 13 (d := some 50) (v := ?_) rfl rfl (by kernel_rfl) (by kernel_rfl) (by kernel_rfl) (fun _ _ _ h => h) (by rfl) (by assumption) ?_ ?_
            rotate_left
            · intro V hV; obtain ⟨y0, y1, y2, z0, z1, z2, z3⟩ := hV; go_simp <;> with_reducible rfl
            try simp only [Act.put, List.setIfInBounds_toArray, List.set_cons_zero, List.set_cons_succ]
            refine held_take 14 (d := some 51) (v := ?_) rfl rfl (by kernel_rfl) (by kernel_rfl) (by kernel_rfl) (fun _ _ _ h => h) (by rfl) (by assumption) ?_ ?_
            rotate_left
            · intro V hV; obtain ⟨y0, y1, y2, z0, z1, z2, z3⟩ := hV; go_simp <;> with_reducible rfl
            try simp only [Act.put, List.setIfInBounds_toArray, List.set_cons_zero, List.set_cons_succ]
            refine held_take 15 (d := some 52) (v := ?_) rfl rfl (by kernel_rfl) (by kernel_rfl) (by kernel_rfl) (fun _ _ _ h => h) (by rfl) (by assumption) ?_ ?_
            rotate_left
            · intro V hV; obtain ⟨y0, y1, y2, z0, z1, z2, z3⟩ := hV; go_simp <;> with_reducible rfl
            try simp only [Act.put, List.setIfInBounds_toArray, List.set_cons_zero, List.set_cons_succ]
            refine held_idle 16 (d := some 53) rfl rfl (by kernel_rfl) (by kernel_rfl) (by kernel_rfl) (fun _ _ _ h => h) (by rfl) (by assumption) ?_
            try simp only [Act.put, List.setIfInBounds_toArray, List.set_cons_zero, List.set_cons_succ]
            refine held_idle 17 (d := some 54) rfl rfl (by kernel_rfl) (by kernel_rfl) (by kernel_rfl) (fun _ _ _ h => h) (by rfl) (by assumption) ?_
            try simp only [Act.put, List.setIfInBounds_toArray, List.set_cons_zero, List.set_cons_succ]
            refine held_idle 18 (d := some 55) rfl rfl (by kernel_rfl) (by kernel_rfl) (by kernel_rfl) (fun _ _ _ h => h) (by rfl) (by assumption) ?_
            try simp only [Act.put, List.setIfInBounds_toArray, List.set_cons_zero, List.set_cons_succ]
            refine held_idle 19 (d := some 56) rfl rfl (by kernel_rfl) (by kernel_rfl) (by kernel_rfl) (fun _ _ _ h => h) (by rfl) (by assumption) ?_
            try simp only [Act.put, List.setIfInBounds_toArray, List.set_cons_zero, List.set_cons_succ]
            refine held_idle 20 (d := some 57) rfl rfl (by kernel_rfl) (by kernel_rfl) (by kernel_rfl) (fun _ _ _ h => h) (by rfl) (by assumption) ?_
            try simp only [Act.put, List.setIfInBounds_toArray, List.set_cons_zero, List.set_cons_succ]
            refine held_idle 21 (d := some 58) rfl rfl (by kernel_rfl) (by kernel_rfl) (by kernel_rfl) (fun _ _ _ h => h) (by rfl) (by assumption) ?_
            try simp only [Act.put, List.setIfInBounds_toArray, List.set_cons_zero, List.set_cons_succ]
            refine held_idle 22 (d := some 59) rfl rfl (by kernel_rfl) (by kernel_rfl) (by kernel_rfl) (fun _ _ _ h => h) (by rfl) (by assumption) ?_
            try simp only [Act.put, List.setIfInBounds_toArray, List.set_cons_zero, List.set_cons_succ]
            refine held_idle 23 (d := some 60) rfl rfl (by kernel_rfl) (by kernel_rfl) (by kernel_rfl) (fun _ _ _ h => h) (by rfl) (by assumption) ?_
            try simp only [Act.put, List.setIfInBounds_toArray, List.set_cons_zero, List.set_cons_succ]
            refine held_idle 24 (d := some 61) rfl rfl (by kernel_rfl) (by kernel_rfl) (by kernel_rfl) (fun _ _ _ h => h) (by rfl) (by assumption) ?_
            try simp only [Act.put, List.setIfInBounds_toArray, List.set_cons_zero, List.set_cons_succ]
            refine held_take 25 (d := some 62) (v := ?_) rfl rfl (by kernel_rfl) (by kernel_rfl) (by kernel_rfl) (fun _ _ _ h => h) (by rfl) (by assumption) ?_ ?_
            rotate_left
            · intro V hV; obtain ⟨y0, y1, y2, z0, z1, z2, z3⟩ := hV; go_simp <;> with_reducible rfl
            try simp only [Act.put, List.setIfInBounds_toArray, List.set_cons_zero, List.set_cons_succ]
            refine held_take 26 (d := some 63) (v := ?_) rfl rfl (by kernel_rfl) (by kernel_rfl) (by kernel_rfl) (fun _ _ _ h => h) (by rfl) (by assumption) ?_ ?_
            rotate_left
            · intro V hV; obtain ⟨y0, y1, y2, z0, z1, z2, z3⟩ := hV; go_simp <;> with_reducible rfl
            try simp only [Act.put, List.setIfInBounds_toArray, List.set_cons_zero, List.set_cons_succ]
            refine wpAnyH_done (by kernel_rfl) ?_ _
            all_goals
              have hcur' := hcur
              go_wp2
              go_roundw
              case rel => exact ⟨k + 1, by omega, by go_num, hcur'.out⟩
              case measure => simp [intOf]; omega
        · obtain rfl : k = N + 40 := by omega
          have hbf := Lib.hid (hbw.out.trans (hbk.mono (by omega)))
          clear hbk
          go_wp2
          go_roundw
          case rel => exact ⟨2, by omega, by go_num, hbf.out⟩
          case measure => simp [intOf]
    · replace hi2 : u3 = .int .i64 2 := hi2
      subst hi2
      replace hb := Lib.hid hb
      go_wp2
      go_ret
      exact ⟨rfl, hb.out⟩
end Go.Proofs.YtimdkdengdhglaaGreatDoor
