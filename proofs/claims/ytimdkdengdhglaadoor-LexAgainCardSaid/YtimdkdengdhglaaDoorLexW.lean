/- The walk of LexAgain. -/
import Derived.Test.YtimdkdengdhglaaDoorLexV
import Derived.Lib.BufferRead
import Derived.Lib.BufferOwn
namespace Go.Proofs.YtimdkdengdhglaaDoor
open Go Go.RowKit

theorem wordsL_err2 (l : List UInt8) {n er : Nat} (h : wordsL l = .error (n, er)) : er = 3 ∨ er = 4 := by
  unfold wordsL at h
  split at h
  · simp at h; exact .inl h.2.symm
  · split at h
    · simp at h
    · simp at h; exact .inr h.2.symm
theorem reads_some {W : World} {av : Option Addr} {cv : Nat} {l : List Wd} (h : ReadsW W (.slice av l.length cv) l) (h0 : 0 < l.length) : ∃ g, av = some ⟨g, 0, none⟩ := by
  obtain ⟨a1, c1, hv, hm, h1⟩ := h
  obtain ⟨g, rfl, _⟩ := h1 h0
  simp at hv
  exact ⟨g, hv.1⟩
theorem reads_cells {W : World} {g cv : Nat} {l : List Wd} (h : ReadsW W (.slice (some ⟨g, 0, none⟩) l.length cv) l) (k : Nat) (hk : k < l.length) :
    W.cell? ⟨g, k * 4, none⟩ = some (.int .u8 (l[k].1 : Nat)) ∧ W.cell? ⟨g, k * 4 + 1, none⟩ = some (.string (bs l[k].2.1)) ∧ W.cell? ⟨g, k * 4 + 2, none⟩ = some (.int .i64 l[k].2.2.1) ∧ W.cell? ⟨g, k * 4 + 3, none⟩ = some (.int .i64 (l[k].2.2.2 : Nat)) := by
  obtain ⟨a1, c1, hv, hm, h1⟩ := h
  obtain ⟨g', rfl, hg, hc⟩ := h1 (by omega)
  simp at hv
  obtain ⟨rfl, rfl⟩ := hv
  have key : ∀ j, j < 4 → W.cell? ⟨g, k * 4 + j, none⟩ = (wcell l[k])[j]? := fun j hj => by rw [hc _ (by omega), wcells_at l k hk j hj]
  exact ⟨key 0 (by omega), key 1 (by omega), key 2 (by omega), key 3 (by omega)⟩
theorem reads_lt {W : World} {g cv : Nat} {l : List Wd} (h : ReadsW W (.slice (some ⟨g, 0, none⟩) l.length cv) l) (h0 : 0 < l.length) : g < W.heap.size := by
  obtain ⟨a1, c1, hv, hm, h1⟩ := h
  obtain ⟨g', rfl, hg, hc⟩ := h1 h0
  simp at hv
  omega
theorem bytes_to (w : World) (v : Value) (l : List UInt8) {base : Nat} (h : w.ownsRow base 5 1 v l.length (Lib.byteCells l)) : (convert 27 9 v).run Tryd.prog w = .ok (.string (bs l)) w := by
  rcases h.2 with ⟨hv, h0⟩ | ⟨g, cap, cur, hv, _⟩
  · obtain rfl : l = [] := List.eq_nil_of_length_eq_zero h0
    rw [hv]
    exact Lib.run_convert_nil_bytes w _ _ 5 _ Tryd.underlying27 Tryd.underlying5 Tryd.underlying9
  · subst hv
    exact run_convert_bytes_back (P := Tryd.prog) w _ _ 5 ⟨g, 0, none⟩ cap l Tryd.underlying27 Tryd.underlying5 Tryd.underlying9 (fun j hj => by
      have := h.cells rfl j (.int .u8 (l[j].toNat : Int)) (by simp [Lib.byteCells, hj])
      exact this)

set_option maxHeartbeats 2000000 in
set_option maxRecDepth 100000 in
theorem again_err (s : List UInt8) (n er : Nat) (w : World) (hE : Env w) (hl : s.length ≤ 140737488355328) (hw : wordsL s = .error (n, er)) :
    Calls Tryd.prog 3 #[.string (bs s)] w fun e w' => e = .returned (.bool true) ∧ Below w.heap.size w w' := by
  have her := wordsL_err2 s hw
  have cW := words_all s w (by omega) hE
  rw [hw] at cW
  have t1 : ((er : Int) == 0) = false := by rw [beq_eq_false_iff_ne]; omega
  replace hw := Lib.hid hw
  replace her := Lib.hid her
  have hE0 := Lib.hid hE
  clear hE
  go_enter Tryd.func3, Tryd.ntmps3
  go_wp2_with (go_at_call 6; refine cW.mono ?_)
  rintro e W1 ⟨hb1, rfl⟩
  have hE1 := Lib.hid (hE0.out.kept hb1)
  have cA := alive_any W1 hE1.out
  clear cW
  go_wp2_with (go_at_call 7; refine cA.mono ?_)
  rintro e W2 ⟨rfl, hb2⟩
  have cA2 := alive_any W2 (hE1.out.kept hb2)
  have hb12 := Lib.hid (hb1.trans (hb2.mono hb1.size))
  clear cA hb2 hb1
  go_wp2_with (go_at_call 7; refine cA2.mono ?_)
  rintro e W3 ⟨rfl, hb3⟩
  have hb13 := Lib.hid (hb12.out.trans (hb3.mono hb12.out.size))
  clear cA2 hb3 hb12
  go_wp2
  go_ret
  exact ⟨rfl, hb13.out⟩

/-! MAIN -/
set_option maxHeartbeats 8000000 in
set_option maxRecDepth 100000 in
theorem again_main (s : List UInt8) (l : List Wd) (w : World) (hE : Env w) (hl : s.length ≤ 65536) (hw : wordsL s = .ok l) :
    Calls Tryd.prog 3 #[.string (bs s)] w fun e w' => e = .returned (.bool true) ∧ Below w.heap.size w w' := by
  obtain ⟨hgood, hrise⟩ := wordsL_good s l hw
  have hll := wordsL_len s l hw
  have cW := words_all s w (by omega) hE
  rw [hw] at cW
  replace hw := Lib.hid hw
  replace hgood := Lib.hid hgood
  replace hrise := Lib.hid hrise
  obtain ⟨i0, hi, hz0, hz1, hz2⟩ := info_parts infoByte
  have hE0 := Lib.hid hE
  clear hE
  go_enter Tryd.func3, Tryd.ntmps3
  go_wp2_with (go_at_call 6; refine cW.mono ?_)
  rintro e W1 ⟨hb1, v, rfl, ho⟩
  obtain ⟨av, cv, rfl⟩ := own_shape ho
  have hE1 := Lib.hid (hE0.out.kept hb1)
  have cA := alive_any W1 hE1.out
  have hr1 := Lib.hid (ReadsW.own ho rfl)
  have hu1 : Hid (∀ k, (Value.slice av l.length cv).ownBlock = some k → k < W1.heap.size) := fun k hk => (ho.lt k hk).2
  clear cW ho
  go_wp2_with (go_at_call 7; refine cA.mono ?_)
  rintro e W2 ⟨rfl, hb2⟩
  have hr2 := Lib.hid (hr1.out.below hb2)
  have hb12 := Lib.hid (hb1.trans (hb2.mono hb1.size))
  have hu : Hid (∀ k, (Value.slice av l.length cv).ownBlock = some k → k < W2.heap.size) := fun k hk => by have := hu1.out k hk; have := hb2.size; omega
  have hzW : w.heap.size ≤ W2.heap.size := hb12.out.size
  clear cA hb1 hb2 hr1 hu1 hE1
  go_wp2
  go_loopw [6, 7] (fun b i wr => ∃ k : Nat, k ≤ l.length ∧ i = .int .i64 k ∧ wr.ownsRow W2.heap.size 5 1 b (joinedL (l.take k)).length (Lib.byteCells (joinedL (l.take k))) ∧ ReadsW wr (.slice av l.length cv) l ∧ Below w.heap.size w wr ∧ W2.heap.size ≤ wr.heap.size ∧ (joinedL (l.take k)).length ≤ 65536) (fun _ i _ => l.length - (intOf i).toNat)
  case atStart => exact ⟨0, Nat.zero_le _, rfl, World.ownsRow_nil _ _ _ _, hr2.out, hb12.out, Nat.le_refl _, by simp [joinedL]⟩
  case round =>
    obtain ⟨k, hk, rfl, ho, hr, hb, hzk, hjl⟩ := hrel
    clear hr2 hb12
    by_cases hlt : k < l.length
    · obtain ⟨g, rfl⟩ := reads_some hr (by omega)
      have hgx := hgood.out l[k] (List.getElem_mem hlt)
      have hjt := Lib.hid (joinedL_take l k hlt)
      have htl := told_len _ hgx
      have hug := hu.out g rfl
      have hnk : ∀ (w' : World) (row : Option Nat), wr.grownBy w' row → (∀ j, row = some j → W2.heap.size ≤ j) → ReadsW w' (.slice (some ⟨g, 0, none⟩) l.length cv) l := fun w' row hg2 hrow => hr.kept (fun j hj hjl => hg2.block j hjl (fun e => by
        simp [Value.ownBlock] at hj; subst hj
        have := hrow _ e.symm; omega)) hg2.size
      replace hgx := Lib.hid hgx
      replace hnk := Lib.hid hnk
      cases k with
      | zero =>
        have hoW := Lib.hid ho
        have hbW := Lib.hid hb
        have hrW := Lib.hid hr
        clear ho hb hr hnk
        obtain ⟨d0, d1, d2, d3⟩ := reads_cells hrW.out 0 hlt
        have cT : Hid (∀ V, Calls Tryd.prog 8 #[.agg #[.int .u8 ((l[0]'hlt).1 : Nat), .string (bs (l[0]'hlt).2.1), .int .i64 (l[0]'hlt).2.2.1, .int .i64 ((l[0]'hlt).2.2.2 : Nat)]] V fun e w' => e = .returned (.string (bs (toldL (l[0]'hlt)))) ∧ Below V.heap.size V w') := fun V => told_any _ hgx.out V
        generalize l[0]'hlt = x at *
        simp only [Nat.zero_mul, Nat.zero_add] at d0 d1 d2 d3
        go_wp2_with (go_at_call 8; refine (cT.out _).mono ?_)
        (first | rintro e W4 rfl hb4 | rintro e W4 ⟨rfl, hb4⟩)
        have ho4 := Lib.hid ((show World.ownsRow wr _ _ _ _ _ _ from hoW.out).kept (World.Below.grown0 hb4) (Classical.em _))
        have hbel4 := Lib.hid ((show Below w.heap.size w wr from hbW.out).trans (hb4.mono hbW.out.size))
        have hr4 := Lib.hid ((show ReadsW wr _ _ from hrW.out).below hb4)
        have hz4 : W2.heap.size ≤ W4.heap.size := Nat.le_trans hzk hb4.size
        clear hoW hbW hrW hb4 cT d0 d1 d2 d3
        obtain ⟨cp, C, hcv, hC⟩ := bytes_of W4 (toldL x)
        have hcell := Lib.hid (cells_new W4 C (toldL x) 5 (C.size, C.size + 1) hC)
        have ho5 : (W4.alloc (.cells C 5 (C.size, C.size + 1))).drew.ownsRow W2.heap.size 5 1 u6 ((joinedL (l.take 0)).length) (Lib.byteCells (joinedL (l.take 0))) :=
          show World.ownsRow (W4.alloc _) _ _ _ _ _ _ from ho4.out.alloc _
        have hbel5 : Hid (Below w.heap.size w (W4.alloc (.cells C 5 (C.size, C.size + 1))).drew) :=
          below_drewN (hbel4.out.alloc hbel4.out.size _) 1
        have hr5 : Hid (ReadsW (W4.alloc (.cells C 5 (C.size, C.size + 1))).drew (.slice (some ⟨g, 0, none⟩) l.length cv) l) :=
          hr4.out.below (below_drewN ((Below.refl _ W4).alloc (Nat.le_refl _) _) 1)
        have htn : (Lib.byteCells (toldL x)).length = (toldL x).length * 1 := by simp [Lib.byteCells]
        have hone : Hid (∀ u ∈ Lib.byteCells (toldL x), u.oneCell' = true) := fun u hu => by
          simp [Lib.byteCells] at hu; obtain ⟨y, _, rfl⟩ := hu; rfl
        have hCs : Hid (W2.heap.size ≤ (W4.alloc (.cells C 5 (C.size, C.size + 1))).drew.heap.size) := by show _ ≤ _; simp; omega
        replace hC := Lib.hid hC
        replace htn := Lib.hid htn
        clear ho4 hbel4 hr4
        go_wp2_with (at_builtin; refine wpList_append_own _ rfl _ _ 27 rfl W2.heap.size 5 i0 (.int .u8 0) 1 1 Tryd.underlying27 hi hz0 hz1 hz2 rfl (by decide) _ _ _ rfl ho5 ⟨W4.heap.size, 0, none⟩ (toldL x).length cp (Lib.byteCells (toldL x)) rfl htn.out hcell.out hone.out ?c3 ?c4 ?c5 ?_)
        case c3 => unfold maxLen; simp [joinedL]; omega
        case c4 => simp [joinedL]; omega
        case c5 => exact hCs.out
        intro v' w6 hown' hgrow _
        have hown6 : w6.ownsRow W2.heap.size 5 1 v' (joinedL (l.take (0 + 1))).length (Lib.byteCells (joinedL (l.take (0 + 1)))) := by
          rw [hjt.out]
          simpa [Lib.byteCells, List.append_assoc, Nat.add_assoc, Nat.add_comm, Nat.add_left_comm] using hown'
        have hr6 : Hid (ReadsW w6 (.slice (some ⟨g, 0, none⟩) l.length cv) l) := hr5.out.kept (fun j hj hjl => hgrow.block j hjl (fun e => by
          simp [Value.ownBlock] at hj; subst hj
          have := (ho5.lt _ e.symm).1; omega)) hgrow.size
        have hb6 := Lib.hid (hbel5.out.grown hgrow (by have := hbel5.out.size; omega) (fun k hk => by have := (ho5.lt k hk).1; omega))
        have hz6 : W2.heap.size ≤ w6.heap.size := Nat.le_trans hCs.out hgrow.size
        have hjz : (joinedL (l.take (0 + 1))).length = 0 + (toldL x).length := by
          rw [hjt.out]; simp [joinedL]
        obtain ⟨av6, cv6, rfl⟩ := own_shape hown6
        replace hown6 := Lib.hid hown6
        clear hown' hgrow ho5 hr5 hbel5 hone htn hcell hC hcv
        by_cases hover : 65536 < (joinedL (l.take (0 + 1))).length
        · go_wp2
          all_goals go_ret
          all_goals exact ⟨rfl, hb6.out⟩
        · go_wp2
          go_roundw
          case rel => exact ⟨0 + 1, by omega, by go_num, hown6.out, hr6.out, hb6.out, hz6, by omega⟩
          case measure => simp [intOf]; omega
      | succ k =>
        go_wp2_with (at_builtin; refine wpList_append_own _ rfl _ _ 27 rfl W2.heap.size 5 i0 (.int .u8 0) 1 1 Tryd.underlying27 hi hz0 hz1 hz2 rfl (by decide) _ _ _ rfl (ho.alloc _) ⟨wr.heap.size, 0, none⟩ 1 1 [.int .u8 32] rfl rfl ?c1 ?c2 ?c3 ?c4 ?c5 ?_)
        case c1 =>
          intro j u hj
          match j, hj with
          | 0, hj => simp at hj; subst hj; simp [Addr.add]
        case c2 => intro u hu; simp at hu; subst hu; rfl
        case c3 => unfold maxLen; omega
        case c4 => omega
        case c5 => simp; omega
        intro v3 W3 hown' hgrow _
        have hoW : Hid (W3.ownsRow W2.heap.size 5 1 v3 ((joinedL (l.take (k + 1))).length + 1) (Lib.byteCells (joinedL (l.take (k + 1)) ++ [32]))) := by
          show W3.ownsRow _ _ _ _ _ _
          simpa [Lib.byteCells] using hown'
        have hrW : Hid (ReadsW W3 (.slice (some ⟨g, 0, none⟩) l.length cv) l) := hnk.out W3 _ (Lib.grownBy_trans (World.grownBy_alloc wr _ _) hgrow) (fun j hj => (ho.lt j hj).1)
        have hbW := Lib.hid ((hb.alloc (by omega) _).grown hgrow (by simp; omega) (fun k hk => by have := (ho.lt k hk).1; omega))
        have hzV : W2.heap.size ≤ W3.heap.size := by have := hgrow.size; simp at this; omega
        obtain ⟨q0, q1, q2, q3⟩ := reads_cells hrW.out k (by omega)
        have hri := hrise.out k hlt
        obtain ⟨av3, cv3, rfl⟩ := own_shape hoW.out
        clear hown' hgrow ho hb hr hnk q0 q1 q2
        generalize hy : l[k]'(by omega) = y at *
        clear hy
        obtain ⟨d0, d1, d2, d3⟩ := reads_cells hrW.out (k + 1) hlt
        have cT : Hid (∀ V, Calls Tryd.prog 8 #[.agg #[.int .u8 ((l[(k + 1)]'hlt).1 : Nat), .string (bs (l[(k + 1)]'hlt).2.1), .int .i64 (l[(k + 1)]'hlt).2.2.1, .int .i64 ((l[(k + 1)]'hlt).2.2.2 : Nat)]] V fun e w' => e = .returned (.string (bs (toldL (l[(k + 1)]'hlt)))) ∧ Below V.heap.size V w') := fun V => told_any _ hgx.out V
        generalize l[(k + 1)]'hlt = x at *
        have hnl : decide ((x.2.2.2 : Int) < (y.2.2.2 : Int)) = false := by simp; omega
        go_wp2
        go_quiet (fail)
        go_wp2_with (go_at_call 8; refine (cT.out _).mono ?_)
        (first | rintro e W4 rfl hb4 | rintro e W4 ⟨rfl, hb4⟩)
        have ho4 := Lib.hid ((show World.ownsRow (W3.drewN nq) _ _ _ _ _ _ from hoW.out).kept (World.Below.grown0 hb4) (Classical.em _))
        have hbel4 := Lib.hid ((show Below w.heap.size w (W3.drewN nq) from below_drewN hbW.out nq).trans (hb4.mono hbW.out.size))
        have hr4 := Lib.hid ((show ReadsW (W3.drewN nq) _ _ from hrW.out).below hb4)
        have hz4 : W2.heap.size ≤ W4.heap.size := Nat.le_trans hzV hb4.size
        clear hoW hbW hrW hb4 cT d0 d1 d2 d3
        obtain ⟨cp, C, hcv, hC⟩ := bytes_of W4 (toldL x)
        have hcell := Lib.hid (cells_new W4 C (toldL x) 5 (C.size, C.size + 1) hC)
        have ho5 : (W4.alloc (.cells C 5 (C.size, C.size + 1))).drew.ownsRow W2.heap.size 5 1 (.slice av3 ((joinedL (l.take (k + 1))).length + 1) cv3) ((joinedL (l.take (k + 1))).length + 1) (Lib.byteCells (joinedL (l.take (k + 1)) ++ [32])) :=
          show World.ownsRow (W4.alloc _) _ _ _ _ _ _ from ho4.out.alloc _
        have hbel5 : Hid (Below w.heap.size w (W4.alloc (.cells C 5 (C.size, C.size + 1))).drew) :=
          below_drewN (hbel4.out.alloc hbel4.out.size _) 1
        have hr5 : Hid (ReadsW (W4.alloc (.cells C 5 (C.size, C.size + 1))).drew (.slice (some ⟨g, 0, none⟩) l.length cv) l) :=
          hr4.out.below (below_drewN ((Below.refl _ W4).alloc (Nat.le_refl _) _) 1)
        have htn : (Lib.byteCells (toldL x)).length = (toldL x).length * 1 := by simp [Lib.byteCells]
        have hone : Hid (∀ u ∈ Lib.byteCells (toldL x), u.oneCell' = true) := fun u hu => by
          simp [Lib.byteCells] at hu; obtain ⟨y, _, rfl⟩ := hu; rfl
        have hCs : Hid (W2.heap.size ≤ (W4.alloc (.cells C 5 (C.size, C.size + 1))).drew.heap.size) := by show _ ≤ _; simp; omega
        replace hC := Lib.hid hC
        replace htn := Lib.hid htn
        clear ho4 hbel4 hr4
        go_wp2_with (at_builtin; refine wpList_append_own _ rfl _ _ 27 rfl W2.heap.size 5 i0 (.int .u8 0) 1 1 Tryd.underlying27 hi hz0 hz1 hz2 rfl (by decide) _ _ _ rfl ho5 ⟨W4.heap.size, 0, none⟩ (toldL x).length cp (Lib.byteCells (toldL x)) rfl htn.out hcell.out hone.out ?c3 ?c4 ?c5 ?_)
        case c3 => unfold maxLen; simp; omega
        case c4 => simp; omega
        case c5 => exact hCs.out
        intro v' w6 hown' hgrow _
        have hown6 : w6.ownsRow W2.heap.size 5 1 v' (joinedL (l.take ((k + 1) + 1))).length (Lib.byteCells (joinedL (l.take ((k + 1) + 1)))) := by
          rw [hjt.out]
          simpa [Lib.byteCells, List.append_assoc, Nat.add_assoc, Nat.add_comm, Nat.add_left_comm] using hown'
        have hr6 : Hid (ReadsW w6 (.slice (some ⟨g, 0, none⟩) l.length cv) l) := hr5.out.kept (fun j hj hjl => hgrow.block j hjl (fun e => by
          simp [Value.ownBlock] at hj; subst hj
          have := (ho5.lt _ e.symm).1; omega)) hgrow.size
        have hb6 := Lib.hid (hbel5.out.grown hgrow (by have := hbel5.out.size; omega) (fun k hk => by have := (ho5.lt k hk).1; omega))
        have hz6 : W2.heap.size ≤ w6.heap.size := Nat.le_trans hCs.out hgrow.size
        have hjz : (joinedL (l.take ((k + 1) + 1))).length = (joinedL (l.take (k + 1))).length + 1 + (toldL x).length := by
          rw [hjt.out]; simp; omega
        obtain ⟨av6, cv6, rfl⟩ := own_shape hown6
        replace hown6 := Lib.hid hown6
        clear hown' hgrow ho5 hr5 hbel5 hone htn hcell hC hcv
        by_cases hover : 65536 < (joinedL (l.take ((k + 1) + 1))).length
        · go_wp2
          all_goals go_ret
          all_goals exact ⟨rfl, hb6.out⟩
        · go_wp2
          go_roundw
          case rel => exact ⟨(k + 1) + 1, by omega, by go_num, hown6.out, hr6.out, hb6.out, hz6, by omega⟩
          case measure => simp [intOf]; omega
    · obtain rfl : k = l.length := by omega
      rw [List.take_length] at ho hjl
      have hcv := bytes_to wr u6 _ ho
      have hE1 := Lib.hid (hE0.out.kept hb)
      have cW2 := words_all (joinedL l) wr (by omega) hE1.out
      rw [words_again l hgood.out hjl] at cW2
      have hbW := Lib.hid hb
      have hrW := Lib.hid hr
      have hml : (l.map zeroW).length = l.length := by simp
      clear ho hb hr hE1
      go_wp2_with (go_at_call 6; refine cW2.mono ?_)
      rintro e W5 ⟨hb5, v5, rfl, ho5⟩
      have hr5 := ReadsW.own ho5 rfl
      rw [hml] at ho5
      obtain ⟨av5, cv5, rfl⟩ := own_shape ho5
      have hrm := Lib.hid hr5
      have hrl := Lib.hid (hrW.out.below hb5)
      have hbe := Lib.hid (hbW.out.trans (hb5.mono hbW.out.size))
      clear cW2 hb5 ho5 hr5 hrW hbW hcv
      obtain ⟨W0, rfl⟩ : ∃ W0 : World, W0 = wr := ⟨_, rfl⟩
      go_wp2
      go_loopw [11] (fun i wr => ∃ k : Nat, k ≤ l.length ∧ i = .int .i64 k ∧ ReadsW wr (.slice av5 (l.map zeroW).length cv5) (l.map zeroW) ∧ ReadsW wr (.slice av l.length cv) l ∧ Below w.heap.size w wr) (fun i _ => l.length - (intOf i).toNat)
      case atStart => exact ⟨0, Nat.zero_le _, rfl, by rw [hml]; exact hrm.out, hrl.out, hbe.out⟩
      case round =>
        obtain ⟨k, hk, rfl, hm, hl2, hb⟩ := hrel
        clear hrm hrl hbe
        by_cases hlt : k < l.length
        · obtain ⟨g, rfl⟩ := reads_some hl2 (by omega)
          obtain ⟨g5, rfl⟩ := reads_some hm (by omega)
          obtain ⟨d0, d1, d2, d3⟩ := reads_cells hl2 k hlt
          obtain ⟨e0, e1, e2, e3⟩ := reads_cells hm k (by omega)
          simp only [List.getElem_map, zeroW] at e0 e1 e2 e3
          generalize l[k]'hlt = x at *
          have hg5 := reads_lt hm (by omega)
          have hgl := reads_lt hl2 (by omega)
          have hrest : Hid (∀ (o : Obj) (n : Nat), ReadsW ((wr.alloc o).drewN n) (.slice (some ⟨g5, 0, none⟩) (l.map zeroW).length cv5) (l.map zeroW) ∧ ReadsW ((wr.alloc o).drewN n) (.slice (some ⟨g, 0, none⟩) l.length cv) l ∧ Below w.heap.size w ((wr.alloc o).drewN n)) := fun o n =>
            have hbb := below_drewN ((Below.refl _ wr).alloc (Nat.le_refl _) o) n
            ⟨hm.below hbb, hl2.below hbb, hb.trans (hbb.mono hb.size)⟩
          clear hm hl2 hb
          go_wp2
          go_quiet (fail)
          go_wp2
          go_roundw
          case rel => exact ⟨k + 1, by omega, by go_num, (hrest.out _ _).1, (hrest.out _ _).2.1, (hrest.out _ _).2.2⟩
          case measure => simp [intOf]; omega
        · obtain rfl : k = l.length := by omega
          go_wp2
          go_ret
          exact ⟨rfl, hb⟩
end Go.Proofs.YtimdkdengdhglaaDoor
