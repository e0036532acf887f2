/- The walk of rises. -/
import Derived.Test.YtehcbicngbibgaaBgT
import Derived.Deep.AppendLies
namespace Go.Proofs.Ytehcbicngbibgaa
open Go Go.RowKit Go.Maps

/-- A slice of numbers that came from elsewhere. -/
def ReadsS (w : World) (v : Value) (xs : List Int) : Prop := ∃ ao cap, v = .slice ao xs.length cap ∧ (0 < xs.length → ∃ g, ao = some ⟨g, 0, none⟩ ∧ g < w.heap.size ∧ ReadsI w g xs)
theorem pstep_ne (L : List Int) (x : Int) : pstep L x ≠ [] := by simp [pstep]
def VarRow (W : World) (T : Nat) (v : Value) (t : TypeId) : Prop := W.heap[T]? = some (.cells #[v] t (0, 0))
theorem VarRow.cell {W : World} {T : Nat} {v : Value} {t : TypeId} (h : VarRow W T v t) : W.cell? ⟨T, 0, none⟩ = some v := by simp [World.cell?, show W.heap[T]? = _ from h]
theorem VarRow.fr {W : World} {T : Nat} {v : Value} {t : TypeId} (h : VarRow W T v t) : W.frozen? ⟨T, 0, none⟩ = false := by simp [World.frozen?, show W.heap[T]? = _ from h]
theorem VarRow.lt {W : World} {T : Nat} {v : Value} {t : TypeId} (h : VarRow W T v t) : T < W.heap.size := (Array.getElem?_eq_some_iff.1 (show W.heap[T]? = _ from h)).1
theorem VarRow.new (W : World) (v : Value) (t : TypeId) : VarRow (W.alloc (.cells #[v] t)) W.heap.size v t := heap_alloc_new W _

set_option maxHeartbeats 4000000 in
set_option maxRecDepth 100000 in
theorem rises_any (v : Value) (xs : List Int) (w : World) (h : ReadsS w v xs) (hx : xs.length ≤ 1048576) :
    Calls Try.prog 11 #[v] w fun e w' => e = .returned (.int .i64 ((patL xs).length : Nat)) ∧ Below w.heap.size w w' := by
  obtain ⟨ao, cap, rfl, hr⟩ := h
  obtain ⟨i0, hi, hz0, hz1, hz2⟩ := info_parts infoInt
  obtain ⟨S, hS⟩ : ∃ S, S = w.alloc (.cells #[.slice none 0 0] 41) := ⟨_, rfl⟩
  have hV : VarRow S w.heap.size (.slice none 0 0) 41 := by rw [hS]; exact VarRow.new w _ _
  have hbS : Below w.heap.size w S := by rw [hS]; exact (Below.refl _ _).alloc (Nat.le_refl _) _
  have hzS : S.heap.size = w.heap.size + 1 := by rw [hS]; simp
  replace hS := Lib.hid hS
  replace hV := Lib.hid hV
  replace hbS := Lib.hid hbS
  replace hr := Lib.hid hr
  go_enter Try.func11, Try.ntmps11
  go_wp2_with (first | (rw [← hS.out]) | fail)
  go_loopw [9] (fun i wr => ∃ k : Nat, k ≤ xs.length ∧ i = .int .i64 (k : Nat) ∧ ∃ lv, VarRow wr w.heap.size lv 41 ∧ (patL (xs.take k) = [] → lv = .slice none 0 0) ∧ OwnIds wr (w.heap.size + 1) lv (patL (xs.take k)) ∧ Below w.heap.size w wr) (fun i _ => xs.length - (intOf i).toNat)
  case atStart => exact ⟨0, Nat.zero_le _, rfl, _, hV.out, fun _ => rfl, by simpa [patL, OwnIds] using World.ownsRow_nil _ _ _ _, hbS.out⟩
  case round =>
    obtain ⟨k, hk, rfl, lv, hv, hnil, ho, hb⟩ := hrel
    have hTl := hv.lt
    by_cases hlt : k < xs.length
    · obtain ⟨g, rfl, hgl, hrd⟩ := hr.out (by omega)
      obtain ⟨x, hxk⟩ : ∃ x, x = xs.getD k 0 := ⟨_, rfl⟩
      have x0 : wr.cell? ⟨g, k, none⟩ = some (.int .i64 x) := by rw [hxk]; exact (hb.cell (p := ⟨g, k, none⟩) hgl).trans (hrd k hlt)
      obtain ⟨S1, hS1⟩ : ∃ S1, S1 = wr.alloc (.cells #[.int .i64 x] 3) := ⟨_, rfl⟩
      have hX : VarRow S1 wr.heap.size (.int .i64 x) 3 := by rw [hS1]; exact VarRow.new wr _ _
      have hb1 : Below wr.heap.size wr S1 := by rw [hS1]; exact (Below.refl _ _).alloc (Nat.le_refl _) _
      have hz1' : S1.heap.size = wr.heap.size + 1 := by rw [hS1]; simp
      have hV1 : VarRow S1 w.heap.size lv 41 := (hb1.block _ hTl).trans hv
      have ho1 : OwnIds S1 (w.heap.size + 1) lv (patL (xs.take k)) := World.ownsRow.kept ho (World.grownBy.mk hb1.os hb1.tape hb1.output hb1.size fun k hk _ => hb1.block k hk : wr.grownBy S1 none) (Classical.em _)
      have hpt : patL (xs.take (k + 1)) = pstep (patL (xs.take k)) x := by
        rw [List.take_succ_eq_append_getElem hlt, patL_snoc, hxk, getD_at xs k hlt]
      have hsort := sorted_patL (xs.take k)
      have hplen : (patL (xs.take k)).length ≤ 1048576 := by have := patL_len (xs.take k); rw [List.length_take] at this; omega
      obtain ⟨L, hL⟩ : ∃ L, L = patL (xs.take k) := ⟨_, rfl⟩
      rw [← hL] at ho1 hpt hsort hplen hnil
      have hb01 : Below w.heap.size w S1 := hb.trans (hb1.mono (by omega))
      have t0 := hV1.cell
      have t1 := hX.cell
      replace hL := Lib.hid hL
      replace hxk := Lib.hid hxk
      replace hS1 := Lib.hid hS1
      replace hX := Lib.hid hX
      replace hV1 := Lib.hid hV1
      replace ho1 := Lib.hid ho1
      replace hpt := Lib.hid hpt
      replace hsort := Lib.hid hsort
      replace hb01 := Lib.hid hb01
      have hlw : Hid (∀ k, lv.ownBlock = some k → k < wr.heap.size) := fun k hk => (ho.lt k hk).2
      clear ho hb hv hb1
      by_cases hL0 : L.length = 0
      · obtain rfl : L = [] := List.eq_nil_of_length_eq_zero hL0
        obtain rfl := hnil rfl
        have cS := search_nil (.func (.func 18) #[] #[.pointer (some ⟨w.heap.size, 0, none⟩), .pointer (some ⟨wr.heap.size, 0, none⟩)]) S1
        have f0 := hV1.out.fr
        have hw1 : IntKind.i64.wrap 1 = 1 := by decide
        have hwx : S1.heap.size = wr.heap.size + 1 := hz1'
        go_wp2_with (first | (rw [← hS1.out]) | (go_at_call 17; refine cS.mono ?_; (first | rintro e W2 ⟨rfl, hqq⟩ | rintro e W2 rfl hqq); rw [hqq]; clear hqq W2))
        refine region_but (fun V => V.cell? ⟨w.heap.size, 0, none⟩ = some (.slice none 0 0) ∧ V.cell? ⟨wr.heap.size, 0, none⟩ = some (.int .i64 x)) 14 (by kernel_rfl) ?_
        have hHeld : (fun V : World => V.cell? ⟨w.heap.size, 0, none⟩ = some (.slice none 0 0) ∧ V.cell? ⟨wr.heap.size, 0, none⟩ = some (.int .i64 x)) S1.drew := ⟨t0, t1⟩
        refine AnyBut.take 0 (d := some 17) (v := ?_) rfl rfl (by kernel_rfl) (by decide) (by kernel_rfl) (by kernel_rfl) (by kernel_rfl) (fun _ _ _ h => h) (by rfl) (by assumption) ?_ ?_
        rotate_left
        · intro V hV; obtain ⟨y0, y1⟩ := hV; go_simp <;> with_reducible rfl
        try simp only [Act.put, List.setIfInBounds_toArray, List.set_cons_zero, List.set_cons_succ]
        refine AnyBut.take 1 (d := some 18) (v := ?_) rfl rfl (by kernel_rfl) (by decide) (by kernel_rfl) (by kernel_rfl) (by kernel_rfl) (fun _ _ _ h => h) (by rfl) (by assumption) ?_ ?_
        rotate_left
        · intro V hV; obtain ⟨y0, y1⟩ := hV; go_simp <;> with_reducible rfl
        try simp only [Act.put, List.setIfInBounds_toArray, List.set_cons_zero, List.set_cons_succ]
        refine AnyBut.take 2 (d := some 19) (v := ?_) rfl rfl (by kernel_rfl) (by decide) (by kernel_rfl) (by kernel_rfl) (by kernel_rfl) (fun _ _ _ h => h) (by rfl) (by assumption) ?_ ?_
        rotate_left
        · intro V hV; obtain ⟨y0, y1⟩ := hV; go_simp <;> with_reducible rfl
        try simp only [Act.put, List.setIfInBounds_toArray, List.set_cons_zero, List.set_cons_succ]
        refine AnyBut.take 3 (d := some 20) (v := ?_) rfl rfl (by kernel_rfl) (by decide) (by kernel_rfl) (by kernel_rfl) (by kernel_rfl) (fun _ _ _ h => h) (by rfl) (by assumption) ?_ ?_
        rotate_left
        · intro V hV; obtain ⟨y0, y1⟩ := hV; go_simp <;> with_reducible rfl
        try simp only [Act.put, List.setIfInBounds_toArray, List.set_cons_zero, List.set_cons_succ]
        refine AnyBut.take 5 (d := some 22) (v := ?_) rfl rfl (by kernel_rfl) (by decide) (by kernel_rfl) (by kernel_rfl) (by kernel_rfl) (fun _ _ _ h => h) (by rfl) (by assumption) ?_ ?_
        rotate_left
        · intro V hV; obtain ⟨y0, y1⟩ := hV; go_simp <;> with_reducible rfl
        try simp only [Act.put, List.setIfInBounds_toArray, List.set_cons_zero, List.set_cons_succ]
        refine AnyBut.take 6 (d := some 23) (v := ?_) rfl rfl (by kernel_rfl) (by decide) (by kernel_rfl) (by kernel_rfl) (by kernel_rfl) (fun _ _ _ h => h) (by rfl) (by assumption) ?_ ?_
        rotate_left
        · intro V hV; obtain ⟨y0, y1⟩ := hV; go_simp <;> with_reducible rfl
        try simp only [Act.put, List.setIfInBounds_toArray, List.set_cons_zero, List.set_cons_succ]
        refine AnyBut.take 7 (d := some 24) (v := ?_) rfl rfl (by kernel_rfl) (by decide) (by kernel_rfl) (by kernel_rfl) (by kernel_rfl) (fun _ _ _ h => h) (by rfl) (by assumption) ?_ ?_
        rotate_left
        · intro V hV; obtain ⟨y0, y1⟩ := hV; go_simp <;> with_reducible rfl
        try simp only [Act.put, List.setIfInBounds_toArray, List.set_cons_zero, List.set_cons_succ]
        refine AnyBut.take 8 (d := some 25) (v := ?_) rfl rfl (by kernel_rfl) (by decide) (by kernel_rfl) (by kernel_rfl) (by kernel_rfl) (fun _ _ _ h => h) (by rfl) (by assumption) ?_ ?_
        rotate_left
        · intro V hV; obtain ⟨y0, y1⟩ := hV; go_simp <;> with_reducible rfl
        try simp only [Act.put, List.setIfInBounds_toArray, List.set_cons_zero, List.set_cons_succ]
        refine AnyBut.take 9 (d := some 26) (v := ?_) rfl rfl (by kernel_rfl) (by decide) (by kernel_rfl) (by kernel_rfl) (by kernel_rfl) (fun _ _ _ h => h) (by rfl) (by assumption) ?_ ?_
        rotate_left
        · intro V hV; obtain ⟨y0, y1⟩ := hV; go_simp <;> with_reducible rfl
        try simp only [Act.put, List.setIfInBounds_toArray, List.set_cons_zero, List.set_cons_succ]
        refine AnyBut.take 10 (d := some 27) (v := .int .i64 0) rfl rfl (by kernel_rfl) (by decide) (by kernel_rfl) (by kernel_rfl) (by kernel_rfl) (fun _ _ _ h => h) (by rfl) (by assumption) ?_ ?_
        · intro V hV; obtain ⟨y0, y1⟩ := hV; go_simp
        try simp only [Act.put, List.setIfInBounds_toArray, List.set_cons_zero, List.set_cons_succ]
        refine AnyBut.take 11 (d := some 28) (v := .slice none 0 0) rfl rfl (by kernel_rfl) (by decide) (by kernel_rfl) (by kernel_rfl) (by kernel_rfl) (fun _ _ _ h => h) (by rfl) (by assumption) ?_ ?_
        · intro V hV; obtain ⟨y0, y1⟩ := hV; go_simp
        try simp only [Act.put, List.setIfInBounds_toArray, List.set_cons_zero, List.set_cons_succ]
        obtain ⟨W3, hW3⟩ : ∃ W3, W3 = (S1.alloc (.cells #[.int .i64 x] 3)).drew := ⟨_, rfl⟩
        have hb23 : Below S1.heap.size S1 W3 := by rw [hW3]; exact ((Below.refl _ S1).alloc (Nat.le_refl _) _).drew
        have hz3 : W3.heap.size = S1.heap.size + 1 := by rw [hW3]; simp
        have hX3 : W3.ownsRow (w.heap.size + 1) 3 1 (.slice (some ⟨S1.heap.size, 0, none⟩) 1 1) 1 [.int .i64 x] := by
          rw [hW3]
          exact World.ownsRow_lit S1 #[.int .i64 x] 1 (by omega) (by unfold maxLen; omega) rfl
        have hV3 : VarRow W3 w.heap.size (.slice none 0 0) 41 := (hb23.block _ (by omega)).trans hV1.out
        have hX3v : VarRow W3 wr.heap.size (.int .i64 x) 3 := (hb23.block _ (by omega)).trans hX.out
        replace hW3 := Lib.hid hW3
        replace hb23 := Lib.hid hb23
        rw [hwx] at hX3
        replace hX3 := Lib.hid hX3
        refine AnyBut.one 4 rfl (by kernel_rfl) (fun K hK => ?_)
        go_simp
        rw [← hW3.out]
        refine hK.out _ _ (fun _ => (⟨hV3.cell, hX3v.cell⟩ : (fun V : World => V.cell? ⟨w.heap.size, 0, none⟩ = some (.slice none 0 0) ∧ V.cell? ⟨wr.heap.size, 0, none⟩ = some (.int .i64 x)) W3)) ?_
        clear hK K hHeld
        try simp only [Act.put, List.setIfInBounds_toArray, List.set_cons_zero, List.set_cons_succ]
        refine AnyBut.one 12 rfl (by kernel_rfl) (fun K hK => ?_)
        refine step_append_none (by rfl) _ _ 41 (by rfl) (w.heap.size + 1) 3 i0 1 Try.underlying41 hi _ 1 [.int .i64 x] (by rfl) hX3.out (by rfl) ?_
        refine hK.out _ _ (fun _ => (⟨hV3.cell, hX3v.cell⟩ : (fun V : World => V.cell? ⟨w.heap.size, 0, none⟩ = some (.slice none 0 0) ∧ V.cell? ⟨wr.heap.size, 0, none⟩ = some (.int .i64 x)) W3)) ?_
        clear hK K
        try simp only [Act.put, List.setIfInBounds_toArray, List.set_cons_zero, List.set_cons_succ]
        refine AnyBut.one 13 rfl (by kernel_rfl) (fun K hK => ?_)
        refine step_append_row (by rfl) _ _ 41 (by rfl) (w.heap.size + 1) 3 i0 (.int .i64 0) 1 8 Try.underlying41 hi hz0 hz1 hz2 rfl (by decide) _ 0 [] (by rfl) (World.ownsRow_nil _ _ _ _) ⟨wr.heap.size + 1, 0, none⟩ 1 1 [.int .i64 x] (by rfl) rfl (hX3.out.cells rfl) (ints_oneCell .i64 [x]) (by unfold maxLen; omega) (by omega) (by omega) (by omega) ?_
        intro g5 c5 W5 hown5 hgrow5 hg5
        have hz5 := hgrow5.size
        have hV5 : VarRow W5 w.heap.size (.slice none 0 0) 41 := (hgrow5.block _ (by omega) (fun e => by simp [Value.ownBlock] at e)).trans hV3
        have hX5v : VarRow W5 wr.heap.size (.int .i64 x) 3 := (hgrow5.block _ (by omega) (fun e => by simp [Value.ownBlock] at e)).trans hX3v
        refine hK.out _ _ (fun _ => (⟨hV5.cell, hX5v.cell⟩ : (fun V : World => V.cell? ⟨w.heap.size, 0, none⟩ = some (.slice none 0 0) ∧ V.cell? ⟨wr.heap.size, 0, none⟩ = some (.int .i64 x)) W5)) ?_
        clear hK K
        try simp only [Act.put, List.setIfInBounds_toArray, List.set_cons_zero, List.set_cons_succ]
        have ho5 : OwnIds W5 (w.heap.size + 1) (.slice (some ⟨g5, 0, none⟩) (0 + 1) c5) (pstep [] x) := hown5
        have y0 := hV5.cell
        have y1 := hV5.fr
        have hb25 : Below w.heap.size w W5 := (hb01.out.trans (hb23.out.mono (by omega))).grown hgrow5 (by omega) (fun k hk => by simp [Value.ownBlock] at hk)
        replace ho5 := Lib.hid ho5
        replace hb25 := Lib.hid hb25
        replace hV5 := Lib.hid hV5
        clear hown5 hgrow5 hX5v hg5 t0 t1 f0 hX3 hV3 hX3v hV1 hX ho1
        refine AnyBut.one 14 rfl (by kernel_rfl) (fun K hK => ?_)
        go_simp
        refine hK.out _ _ (fun h => absurd rfl h) ?_
        clear hK K
        refine AnyBut.done (by kernel_rfl) ?_
        have hV6 : Hid (VarRow (W5.setCell ⟨w.heap.size, 0, none⟩ (.slice (some ⟨g5, 0, none⟩) (0 + 1) c5)) w.heap.size (.slice (some ⟨g5, 0, none⟩) (0 + 1) c5) 41) := by
          have := blk_set (show W5.heap[w.heap.size]? = _ from hV5.out) 0 (.slice (some ⟨g5, 0, none⟩) (0 + 1) c5)
          exact this
        have ho6 : Hid (OwnIds (W5.setCell ⟨w.heap.size, 0, none⟩ (.slice (some ⟨g5, 0, none⟩) (0 + 1) c5)) (w.heap.size + 1) (.slice (some ⟨g5, 0, none⟩) (0 + 1) c5) (pstep [] x)) :=
          ownsRow_setCell_below ho5.out (a := ⟨w.heap.size, 0, none⟩) (by show w.heap.size < w.heap.size + 1; omega) _
        have hb6 : Hid (Below w.heap.size w (W5.setCell ⟨w.heap.size, 0, none⟩ (.slice (some ⟨g5, 0, none⟩) (0 + 1) c5))) := hb25.out.setCell (p := ⟨w.heap.size, 0, none⟩) (Nat.le_refl _) _
        clear y0 y1
        go_wp2_with fail
        go_roundw
        case rel => exact ⟨k + 1, by omega, by go_num, _, hV6.out, fun h => absurd (hpt.out.symm.trans h) (pstep_ne [] x), by rw [hpt.out]; exact ho6.out, hb6.out⟩
        case measure => simp [intOf]; omega
      · obtain ⟨gl, cl, hlv, hgB, hgS⟩ := World.ownsRow.form ho1.out (by omega)
        subst hlv
        have hglw := hlw.out gl rfl
        have hrow : ReadsI S1 gl L := fun j hj => by
          have := World.ownsRow.cellAt ho1.out j (by omega)
          rw [this]
          simp [hj, List.getD]
        have cS := search_any w.heap.size wr.heap.size gl cl L x S1 t0 t1 hrow (by omega) (by omega) hgS hplen
        replace hrow := Lib.hid hrow
        go_wp2_with (first | (rw [← hS1.out]) | (go_at_call 17; refine cS.mono ?_))
        rintro e W2 ⟨⟨q, rfl, hq1, hq2, hq3⟩, hb2⟩
        have hpq : pidx L x = q := pidx_eq hsort.out hq1 hq2 hq3
        have hV2 : Hid (VarRow W2 w.heap.size (.slice (some ⟨gl, 0, none⟩) L.length cl) 41) := (hb2.block _ (by omega)).trans hV1.out
        have hX2 : Hid (VarRow W2 wr.heap.size (.int .i64 x) 3) := (hb2.block _ (by omega)).trans hX.out
        have ho2 : Hid (OwnIds W2 (w.heap.size + 1) (.slice (some ⟨gl, 0, none⟩) L.length cl) L) := World.ownsRow.kept ho1.out (World.grownBy.mk hb2.os hb2.tape hb2.output hb2.size fun k hk _ => hb2.block k hk : S1.grownBy W2 none) (Classical.em _)
        have hb02 : Hid (Below w.heap.size w W2) := hb01.out.trans (hb2.mono (by omega))
        have hzW2 := hb2.size
        have hcap : L.length ≤ cl ∧ cl ≤ maxLen := by
          rcases ho2.out.2 with ⟨h0, _⟩ | ⟨g', cap', cur, h0, _, _, h1, h2, _⟩
          · simp at h0
          · simp at h0; obtain ⟨_, rfl⟩ := h0; exact ⟨h1, h2⟩
        have hcap2 : (q : Int) ≤ (cl : Int) := by omega
        obtain ⟨m, hm1, hm2, hm3⟩ : ∃ m : Nat, m ≤ L.length ∧ (q < L.length → m = q + 1) ∧ (q = L.length → m = L.length) := by
          by_cases h : q < L.length
          · exact ⟨q + 1, by omega, fun _ => rfl, fun h2 => by omega⟩
          · exact ⟨L.length, by omega, fun h2 => by omega, fun _ => rfl⟩
        replace hm2 := Lib.hid hm2
        replace hm3 := Lib.hid hm3
        have hw1 : IntKind.i64.wrap ((q : Int) + 1) = (q : Int) + 1 := IntWalk.i64_in _ (by omega)
        have hmI : (m : Int) ≤ (L.length : Int) := by omega
        obtain ⟨A, hA, hA2⟩ : ∃ A : Addr, (if cl = m then some (⟨gl, 0, none⟩ : Addr) else some ⟨gl, m, none⟩) = some A ∧ (cl ≠ m → A = ⟨gl, m, none⟩) := by
          by_cases h : cl = m
          · exact ⟨_, if_pos h, fun h2 => absurd h h2⟩
          · exact ⟨_, if_neg h, fun _ => rfl⟩
        replace t0 := hV2.out.cell
        replace t1 := hX2.out.cell
        have f0 := hV2.out.fr
        clear cS hb2 hV1 hX ho1 hb01 hq2 hq3 hrow
        go_wp2_with fail
        refine region_but (fun V => V.cell? ⟨w.heap.size, 0, none⟩ = some (.slice (some ⟨gl, 0, none⟩) L.length cl) ∧ V.cell? ⟨wr.heap.size, 0, none⟩ = some (.int .i64 x)) 14 (by kernel_rfl) ?_
        have hHeld : (fun V : World => V.cell? ⟨w.heap.size, 0, none⟩ = some (.slice (some ⟨gl, 0, none⟩) L.length cl) ∧ V.cell? ⟨wr.heap.size, 0, none⟩ = some (.int .i64 x)) W2.drew := ⟨t0, t1⟩
        refine AnyBut.take 0 (d := some 17) (v := ?_) rfl rfl (by kernel_rfl) (by decide) (by kernel_rfl) (by kernel_rfl) (by kernel_rfl) (fun _ _ _ h => h) (by rfl) (by assumption) ?_ ?_
        rotate_left
        · intro V hV; obtain ⟨y0, y1⟩ := hV; go_simp <;> with_reducible rfl
        try simp only [Act.put, List.setIfInBounds_toArray, List.set_cons_zero, List.set_cons_succ]
        refine AnyBut.take 1 (d := some 18) (v := ?_) rfl rfl (by kernel_rfl) (by decide) (by kernel_rfl) (by kernel_rfl) (by kernel_rfl) (fun _ _ _ h => h) (by rfl) (by assumption) ?_ ?_
        rotate_left
        · intro V hV; obtain ⟨y0, y1⟩ := hV; go_simp <;> with_reducible rfl
        try simp only [Act.put, List.setIfInBounds_toArray, List.set_cons_zero, List.set_cons_succ]
        refine AnyBut.take 2 (d := some 19) (v := ?_) rfl rfl (by kernel_rfl) (by decide) (by kernel_rfl) (by kernel_rfl) (by kernel_rfl) (fun _ _ _ h => h) (by rfl) (by assumption) ?_ ?_
        rotate_left
        · intro V hV; obtain ⟨y0, y1⟩ := hV; go_simp <;> with_reducible rfl
        try simp only [Act.put, List.setIfInBounds_toArray, List.set_cons_zero, List.set_cons_succ]
        refine AnyBut.take 3 (d := some 20) (v := ?_) rfl rfl (by kernel_rfl) (by decide) (by kernel_rfl) (by kernel_rfl) (by kernel_rfl) (fun _ _ _ h => h) (by rfl) (by assumption) ?_ ?_
        rotate_left
        · intro V hV; obtain ⟨y0, y1⟩ := hV; go_simp <;> with_reducible rfl
        try simp only [Act.put, List.setIfInBounds_toArray, List.set_cons_zero, List.set_cons_succ]
        refine AnyBut.take 5 (d := some 22) (v := ?_) rfl rfl (by kernel_rfl) (by decide) (by kernel_rfl) (by kernel_rfl) (by kernel_rfl) (fun _ _ _ h => h) (by rfl) (by assumption) ?_ ?_
        rotate_left
        · intro V hV; obtain ⟨y0, y1⟩ := hV; go_simp <;> with_reducible rfl
        try simp only [Act.put, List.setIfInBounds_toArray, List.set_cons_zero, List.set_cons_succ]
        refine AnyBut.take 6 (d := some 23) (v := ?_) rfl rfl (by kernel_rfl) (by decide) (by kernel_rfl) (by kernel_rfl) (by kernel_rfl) (fun _ _ _ h => h) (by rfl) (by assumption) ?_ ?_
        rotate_left
        · intro V hV; obtain ⟨y0, y1⟩ := hV; go_simp <;> with_reducible rfl
        try simp only [Act.put, List.setIfInBounds_toArray, List.set_cons_zero, List.set_cons_succ]
        refine AnyBut.take 7 (d := some 24) (v := ?_) rfl rfl (by kernel_rfl) (by decide) (by kernel_rfl) (by kernel_rfl) (by kernel_rfl) (fun _ _ _ h => h) (by rfl) (by assumption) ?_ ?_
        rotate_left
        · intro V hV; obtain ⟨y0, y1⟩ := hV; go_simp <;> with_reducible rfl
        try simp only [Act.put, List.setIfInBounds_toArray, List.set_cons_zero, List.set_cons_succ]
        refine AnyBut.take 8 (d := some 25) (v := ?_) rfl rfl (by kernel_rfl) (by decide) (by kernel_rfl) (by kernel_rfl) (by kernel_rfl) (fun _ _ _ h => h) (by rfl) (by assumption) ?_ ?_
        rotate_left
        · intro V hV; obtain ⟨y0, y1⟩ := hV; go_simp <;> with_reducible rfl
        try simp only [Act.put, List.setIfInBounds_toArray, List.set_cons_zero, List.set_cons_succ]
        refine AnyBut.take 9 (d := some 26) (v := ?_) rfl rfl (by kernel_rfl) (by decide) (by kernel_rfl) (by kernel_rfl) (by kernel_rfl) (fun _ _ _ h => h) (by rfl) (by assumption) ?_ ?_
        rotate_left
        · intro V hV; obtain ⟨y0, y1⟩ := hV; go_simp <;> with_reducible rfl
        try simp only [Act.put, List.setIfInBounds_toArray, List.set_cons_zero, List.set_cons_succ]
        refine AnyBut.take 10 (d := some 27) (v := .int .i64 (m : Nat)) rfl rfl (by kernel_rfl) (by decide) (by kernel_rfl) (by kernel_rfl) (by kernel_rfl) (fun _ _ _ h => h) (by rfl) (by assumption) ?_ ?_
        · intro V hV; obtain ⟨y0, y1⟩ := hV; go_simp; (rcases Nat.lt_or_ge q L.length with h | h); (· have := hm2.out h; split <;> omega); (have := hm3.out (by omega); split <;> omega)
        try simp only [Act.put, List.setIfInBounds_toArray, List.set_cons_zero, List.set_cons_succ]
        refine AnyBut.take 11 (d := some 28) (v := .slice (some A) (L.length - m) (cl - m)) rfl rfl (by kernel_rfl) (by decide) (by kernel_rfl) (by kernel_rfl) (by kernel_rfl) (fun _ _ _ h => h) (by rfl) (by assumption) ?_ ?_
        · intro V hV; obtain ⟨y0, y1⟩ := hV; go_simp
        try simp only [Act.put, List.setIfInBounds_toArray, List.set_cons_zero, List.set_cons_succ]
        have hlen' : L.length - m = (L.drop (q + 1)).length := by
          rw [List.length_drop]
          rcases Nat.lt_or_ge q L.length with h | h
          · have := hm2.out h; omega
          · have := hm3.out (by omega); omega
        obtain ⟨W3, hW3⟩ : ∃ W3, W3 = (W2.alloc (.cells #[.int .i64 x] 3)).drew := ⟨_, rfl⟩
        have hb23 : Below W2.heap.size W2 W3 := by rw [hW3]; exact ((Below.refl _ W2).alloc (Nat.le_refl _) _).drew
        have hz3 : W3.heap.size = W2.heap.size + 1 := by rw [hW3]; simp
        have hX3 : W3.ownsRow (w.heap.size + 1) 3 1 (.slice (some ⟨W2.heap.size, 0, none⟩) 1 1) 1 [.int .i64 x] := by
          rw [hW3]
          exact World.ownsRow_lit W2 #[.int .i64 x] 1 (by omega) (by unfold maxLen; omega) rfl
        have ho3 : OwnIds W3 (w.heap.size + 1) (.slice (some ⟨gl, 0, none⟩) L.length cl) L := World.ownsRow.kept ho2.out (World.grownBy.mk hb23.os hb23.tape hb23.output hb23.size fun k hk _ => hb23.block k hk : W2.grownBy W3 none) (Classical.em _)
        have hV3 : VarRow W3 w.heap.size (.slice (some ⟨gl, 0, none⟩) L.length cl) 41 := (hb23.block _ (by omega)).trans hV2.out
        have hX3v : VarRow W3 wr.heap.size (.int .i64 x) 3 := (hb23.block _ (by omega)).trans hX2.out
        have hsrc : ∀ j u, ((L.drop (q + 1)).map (Value.int .i64))[j]? = some u → W3.cell? (A.add j) = some u := by
          intro j u hj
          have hjl : j < (L.drop (q + 1)).length := by
            by_cases h : j < (L.drop (q + 1)).length
            · exact h
            · rw [List.getElem?_eq_none (by rw [List.length_map]; omega)] at hj; simp at hj
          rw [hA2 (by omega)]
          rw [List.length_drop] at hjl
          have hmq := hm2.out (by omega)
          have h2 := World.ownsRow.cellAt ho3 (m + j) (by omega)
          have e1 : ((⟨gl, m, none⟩ : Addr).add j) = ⟨gl, m + j, none⟩ := by unfold Addr.add; split <;> simp_all
          rw [e1, h2, ← hj, List.getElem?_map, List.getElem?_map, List.getElem?_drop, hmq]
        replace hlen' := Lib.hid hlen'
        replace hW3 := Lib.hid hW3
        replace hb23 := Lib.hid hb23
        replace hX3 := Lib.hid hX3
        replace ho3 := Lib.hid ho3
        replace hV3 := Lib.hid hV3
        replace hX3v := Lib.hid hX3v
        replace hsrc := Lib.hid hsrc
        refine AnyBut.one 4 rfl (by kernel_rfl) (fun K hK => ?_)
        go_simp
        rw [← hW3.out]
        refine hK.out _ _ (fun _ => (⟨hV3.out.cell, hX3v.out.cell⟩ : (fun V : World => V.cell? ⟨w.heap.size, 0, none⟩ = some (.slice (some ⟨gl, 0, none⟩) L.length cl) ∧ V.cell? ⟨wr.heap.size, 0, none⟩ = some (.int .i64 x)) W3)) ?_
        clear hK K hHeld
        try simp only [Act.put, List.setIfInBounds_toArray, List.set_cons_zero, List.set_cons_succ]
        refine AnyBut.one 12 rfl (by kernel_rfl) (fun K hK => ?_)
        refine step_append_row (by rfl) _ _ 41 (by rfl) (w.heap.size + 1) 3 i0 (.int .i64 0) 1 8 Try.underlying41 hi hz0 hz1 hz2 rfl (by decide) _ 1 [.int .i64 x] (by rfl) hX3.out A _ _ ((L.drop (q + 1)).map (Value.int .i64)) (by rfl) (by rw [List.length_map, ← hlen'.out, Nat.mul_one]) hsrc.out (ints_oneCell .i64 _) (by unfold maxLen; omega) (by omega) (by omega) (by omega) ?_
        intro g4 c4 W4 hown4 hgrow4 hg4
        have hz4 := hgrow4.size
        have hV4 : VarRow W4 w.heap.size (.slice (some ⟨gl, 0, none⟩) L.length cl) 41 := (hgrow4.block _ (by omega) (fun e => by simp [Value.ownBlock] at e; omega)).trans hV3.out
        have hX4v : VarRow W4 wr.heap.size (.int .i64 x) 3 := (hgrow4.block _ (by omega) (fun e => by simp [Value.ownBlock] at e; omega)).trans hX3v.out
        refine hK.out _ _ (fun _ => (⟨hV4.cell, hX4v.cell⟩ : (fun V : World => V.cell? ⟨w.heap.size, 0, none⟩ = some (.slice (some ⟨gl, 0, none⟩) L.length cl) ∧ V.cell? ⟨wr.heap.size, 0, none⟩ = some (.int .i64 x)) W4)) ?_
        clear hK K
        try simp only [Act.put, List.setIfInBounds_toArray, List.set_cons_zero, List.set_cons_succ]
        have ho4 : OwnIds W4 (w.heap.size + 1) (.slice (some ⟨gl, 0, none⟩) L.length cl) L := World.ownsRow.kept ho3.out hgrow4 (.inr (fun e => by simp [Value.ownBlock] at e; omega))
        have hfr : W4.ownsRow (w.heap.size + 1) 3 1 (.slice (some ⟨gl, 0, none⟩) q cl) q ((L.take q).map (Value.int .i64)) := by
          obtain ⟨d, hd⟩ : ∃ d, L.length = q + d := ⟨L.length - q, by omega⟩
          have h9 := ho4
          unfold OwnIds at h9
          rw [show L.map (Value.int .i64) = (L.take q).map (Value.int .i64) ++ (L.drop q).map (Value.int .i64) by rw [← List.map_append, List.take_append_drop], hd] at h9
          exact h9.front (by rw [List.length_map, List.length_take]; omega)
        have hc4 : ∀ j u, ([Value.int .i64 x] ++ (L.drop (q + 1)).map (Value.int .i64))[j]? = some u → W4.cell? ((⟨g4, 0, none⟩ : Addr).add j) = some u := hown4.cells rfl
        have hk4 := hown4.1
        refine AnyBut.one 13 rfl (by kernel_rfl) (fun K hK => ?_)
        refine step_append_row (by rfl) _ _ 41 (by rfl) (w.heap.size + 1) 3 i0 (.int .i64 0) 1 8 Try.underlying41 hi hz0 hz1 hz2 rfl (by decide) _ q _ (by rfl) hfr ⟨g4, 0, none⟩ (1 + (L.length - m)) c4 ([Value.int .i64 x] ++ (L.drop (q + 1)).map (Value.int .i64)) (by rfl) hk4 hc4 (ints_oneCell .i64 (x :: L.drop (q + 1))) (by unfold maxLen; omega) (by omega) (by omega) (by omega) ?_
        intro g5 c5 W5 hown5 hgrow5 hg5
        have hz5 := hgrow5.size
        have hV5 : VarRow W5 w.heap.size (.slice (some ⟨gl, 0, none⟩) L.length cl) 41 := (hgrow5.block _ (by omega) (fun e => by simp [Value.ownBlock] at e; omega)).trans hV4
        have hX5v : VarRow W5 wr.heap.size (.int .i64 x) 3 := (hgrow5.block _ (by omega) (fun e => by simp [Value.ownBlock] at e; omega)).trans hX4v
        refine hK.out _ _ (fun _ => (⟨hV5.cell, hX5v.cell⟩ : (fun V : World => V.cell? ⟨w.heap.size, 0, none⟩ = some (.slice (some ⟨gl, 0, none⟩) L.length cl) ∧ V.cell? ⟨wr.heap.size, 0, none⟩ = some (.int .i64 x)) W5)) ?_
        clear hK K
        try simp only [Act.put, List.setIfInBounds_toArray, List.set_cons_zero, List.set_cons_succ]
        have hps : (pstep L x).length = q + (1 + (L.length - m)) := by
          have e1 := hlen'.out
          simp [pstep, hpq]
          rw [List.length_drop] at e1
          omega
        have ho5 : OwnIds W5 (w.heap.size + 1) (.slice (some ⟨g5, 0, none⟩) (pstep L x).length c5) (pstep L x) := by
          unfold OwnIds
          rw [hps]
          have e2 : (pstep L x).map (Value.int .i64) = (L.take q).map (Value.int .i64) ++ ([Value.int .i64 x] ++ (L.drop (q + 1)).map (Value.int .i64)) := by simp [pstep, hpq]
          rw [e2]
          exact hown5
        have y0 := hV5.cell
        have y1 := hV5.fr
        have hb25 : Below w.heap.size w W5 := ((hb02.out.trans (hb23.out.mono (by omega))).grown hgrow4 (by omega) (fun k hk => by simp [Value.ownBlock] at hk; omega)).grown hgrow5 (by omega) (fun k hk => by simp [Value.ownBlock] at hk; omega)
        replace ho5 := Lib.hid ho5
        replace hb25 := Lib.hid hb25
        replace hV5 := Lib.hid hV5
        clear ho4 hfr hc4 hk4 hown4 hgrow4 hown5 hgrow5 hV4 hX4v hX5v hg4 hg5 t0 t1 f0 hsrc hX3 ho3 hV3 hX3v hV2 hX2 ho2
        refine AnyBut.one 14 rfl (by kernel_rfl) (fun K hK => ?_)
        go_simp
        refine hK.out _ _ (fun h => absurd rfl h) ?_
        clear hK K
        refine AnyBut.done (by kernel_rfl) ?_
        rw [← hps]
        have hV6 : Hid (VarRow (W5.setCell ⟨w.heap.size, 0, none⟩ (.slice (some ⟨g5, 0, none⟩) (pstep L x).length c5)) w.heap.size (.slice (some ⟨g5, 0, none⟩) (pstep L x).length c5) 41) := by
          have := blk_set (show W5.heap[w.heap.size]? = _ from hV5.out) 0 (.slice (some ⟨g5, 0, none⟩) (pstep L x).length c5)
          exact this
        have ho6 : Hid (OwnIds (W5.setCell ⟨w.heap.size, 0, none⟩ (.slice (some ⟨g5, 0, none⟩) (pstep L x).length c5)) (w.heap.size + 1) (.slice (some ⟨g5, 0, none⟩) (pstep L x).length c5) (pstep L x)) :=
          ownsRow_setCell_below ho5.out (a := ⟨w.heap.size, 0, none⟩) (by show w.heap.size < w.heap.size + 1; omega) _
        have hb6 : Hid (Below w.heap.size w (W5.setCell ⟨w.heap.size, 0, none⟩ (.slice (some ⟨g5, 0, none⟩) (pstep L x).length c5))) := hb25.out.setCell (p := ⟨w.heap.size, 0, none⟩) (Nat.le_refl _) _
        clear y0 y1 hps
        go_wp2_with fail
        go_roundw
        case rel => exact ⟨k + 1, by omega, by go_num, _, hV6.out, fun h => absurd (hpt.out.symm.trans h) (pstep_ne L x), by rw [hpt.out]; exact ho6.out, hb6.out⟩
        case measure => simp [intOf]; omega
    · obtain rfl : k = xs.length := by omega
      rw [List.take_length] at ho
      obtain ⟨al, cl, rfl⟩ : ∃ al cl, lv = .slice al (patL xs).length cl := by
        rcases ho.2 with ⟨rfl, h0⟩ | ⟨g, cp, cur, rfl, _⟩
        · exact ⟨none, 0, by rw [h0]⟩
        · exact ⟨_, cp, rfl⟩
      have t0 := hv.cell
      replace ho := Lib.hid ho
      replace hb := Lib.hid hb
      go_wp2_with fail
      go_ret
      exact ⟨rfl, hb.out⟩
end Go.Proofs.Ytehcbicngbibgaa
