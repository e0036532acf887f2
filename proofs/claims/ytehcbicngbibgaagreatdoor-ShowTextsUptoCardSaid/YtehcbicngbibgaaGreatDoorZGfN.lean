/- The Book's fillValue: every list of the kind is filled with its marks. (By XGf.gen.py.) -/
import Derived.Test.YtehcbicngbibgaaGreatDoorZGb
namespace Go.Proofs.YtehcbicngbibgaaGreatDoor
open Go Go.RowKit
set_option maxHeartbeats 8000000 in
set_option maxRecDepth 100000 in
theorem fillValue_any (base B : Nat) (hv : Value) (L : List Ent) (w : World) (hE : Env w) (hEB : EnvUnder base) (hc : w.cell? ⟨B, 3, none⟩ = some hv) (hB : B < w.heap.size) (hbB : base ≤ B) (hL : L.length ≤ 1073741824) (hh : w.ownsRow base 102 3 hv L.length (hcells L))
    (hr : ∀ x ∈ L, (∃ xs, w.ownsRow base 59 8 x.v x.n xs) ∧ x.i ≤ 1073741824 ∧ x.n ≤ 1152921504606846976 ∧ x.u = .slice none 0 0 ∧ x.v.ownBlock ≠ some B ∧ ∀ q, hv.ownBlock = some q → x.v.ownBlock ≠ some q) (hap : EApart L) :
    Calls Tryz.prog 31 #[.pointer (some ⟨B, 0, none⟩)] w fun e w' => e = .returned (.tuple #[]) ∧ (∀ x ∈ L, w'.ownsRow base 59 8 x.v x.n (marks mkValue x.i x.n)) ∧ Frm (fun b => ∃ x ∈ L, x.v.ownBlock = some b) w w' := by
  obtain ⟨ah, ch, rfl⟩ := row_shape hh
  obtain ⟨N, hN⟩ : ∃ N, N = L.length := ⟨_, rfl⟩
  rw [← hN] at hh hL hc hr
  have hbw : base ≤ w.heap.size := by omega
  replace hE := Lib.hid hE
  replace hEB := Lib.hid hEB
  replace hh := Lib.hid hh
  replace hr := Lib.hid hr
  replace hap := Lib.hid hap
  replace hN := Lib.hid hN
  go_enter Tryz.func31, Tryz.ntmps31
  go_wp2_with fail
  go_loopw [2] (fun i wr => ∃ k : Nat, k ≤ N ∧ i = .int .i64 (k : Nat) ∧ (∀ q x, L[q]? = some x → q < k → wr.ownsRow base 59 8 x.v x.n (marks mkValue x.i x.n)) ∧ Frm (fun b => ∃ q x, q < k ∧ L[q]? = some x ∧ x.v.ownBlock = some b) w wr) (fun i _ => N - (intOf i).toNat)
  case atStart => exact ⟨0, Nat.zero_le _, rfl, fun q x _ h => absurd h (Nat.not_lt_zero q), Frm.refl _ _⟩
  case round =>
    obtain ⟨k, hk, rfl, hm, hF⟩ := hrel
    obtain ⟨wq, hwq⟩ : ∃ wq : World, wq = wr := ⟨_, rfl⟩
    subst hwq
    have hcq : wq.cell? ⟨B, 3, none⟩ = some (.slice ah N ch) := (hF.cell (p := ⟨B, 3, none⟩) hB (fun ⟨q, x, _, hx, hb⟩ => (hr.out x (List.mem_of_getElem? hx)).2.2.2.2.1 hb)).trans hc
    have hzq := hF.size
    by_cases hlt : k < N
    · have hlt9 : Hid (k + 1 ≤ N) := hlt
      have hkL : k < L.length := by rw [← hN.out]; exact hlt
      obtain ⟨x, hx⟩ : ∃ x, L[k]? = some x := ⟨_, List.getElem?_eq_getElem hkL⟩
      have hhq : wq.ownsRow base 102 3 (.slice ah N ch) N (hcells L) := hF.own hh.out (fun b hb ⟨q, y, _, hy, hyb⟩ => (hr.out y (List.mem_of_getElem? hy)).2.2.2.2.2 b hb hyb)
      obtain ⟨H0, c0, e0, _, _⟩ := hhq.form (by omega)
      obtain ⟨rfl, rfl⟩ : ah = some ⟨H0, 0, none⟩ ∧ ch = c0 := by simp at e0; exact ⟨e0.1, e0.2⟩
      obtain ⟨y0, y1, y2⟩ := hcells_at hx
      have z0 : wq.cell? ⟨H0, k * 3, none⟩ = some x.v := (hhq.cellAt (k * 3) (by omega)).trans y0
      have z1 : wq.cell? ⟨H0, k * 3 + 1, none⟩ = some x.u := (hhq.cellAt (k * 3 + 1) (by omega)).trans y1
      have z2 : wq.cell? ⟨H0, k * 3 + 2, none⟩ = some (.int .i64 (x.i : Nat)) := (hhq.cellAt (k * 3 + 2) (by omega)).trans y2
      obtain ⟨⟨xs, hraw⟩, hxi, hxn, hxu, hxB, hxH⟩ := hr.out x (List.mem_of_getElem? hx)
      have hrq : wq.ownsRow base 59 8 x.v x.n xs := hF.own hraw (fun b hb ⟨q, y, hq, hy, hyb⟩ => hap.out.ne hy hx (by omega) b hyb hb)
      obtain ⟨xv, xn, xi, xu⟩ := x
      obtain rfl : xu = .slice none 0 0 := hxu
      obtain ⟨av, cv, hv9⟩ : ∃ av cv, xv = .slice av xn cv := row_shape hrq
      subst hv9
      have hrq' : wq.ownsRow base 59 8 (.slice av xn cv) xn xs := hrq
      have hxl : Hid (xs.length = xn * 8) := hrq'.1
      replace z0 : wq.cell? ⟨H0, k * 3, none⟩ = some (.slice av xn cv) := z0
      replace z1 : wq.cell? ⟨H0, k * 3 + 1, none⟩ = some (.slice none 0 0) := z1
      replace z2 : wq.cell? ⟨H0, k * 3 + 2, none⟩ = some (.int .i64 (xi : Nat)) := z2
      replace hxi : xi ≤ 1073741824 := hxi
      replace hxn : xn ≤ 1152921504606846976 := hxn
      have hvlt : Hid (∀ b, (Value.slice av xn cv).ownBlock = some b → base ≤ b ∧ b < wq.heap.size) := hrq'.lt
      obtain ⟨S, hS⟩ : ∃ S, S = wq.alloc (.cells #[.slice av xn cv, .slice none 0 0, .int .i64 (xi : Nat)] 102) := ⟨_, rfl⟩
      have hbS : Below wq.heap.size wq S := by rw [hS]; exact (Below.refl _ _).alloc (Nat.le_refl _) _
      have hzS : S.heap.size = wq.heap.size + 1 := by rw [hS]; simp
      have hrS : Hid (S.heap[wq.heap.size]? = some (.cells #[.slice av xn cv, .slice none 0 0, .int .i64 (xi : Nat)] 102 (0, 0))) := by show _ = _; rw [hS]; exact heap_alloc_new wq _
      have hoS : Hid (S.ownsRow base 59 8 (.slice av xn cv) xn (marks mkValue xi 0 ++ xs.drop (0 * 8))) := by
        show World.ownsRow _ _ _ _ _ _ _
        rw [Nat.zero_mul, List.drop_zero]
        have e : marks mkValue xi 0 = [] := rfl
        rw [e, List.nil_append, hS]
        exact hrq'.alloc _
      have hmS : Hid (∀ q x, L[q]? = some x → q < k → S.ownsRow base 59 8 x.v x.n (marks mkValue x.i x.n)) := fun q x h1 h2 => own_same (hm q x h1 h2) (fun b hb => hbS.block b ((hm q x h1 h2).lt b hb).2)
      have hES : Hid (Env S) := hE.out.below (hF.low hbw (fun b ⟨q, y, _, hy, hyb⟩ => by obtain ⟨⟨ys, hy1⟩, _⟩ := hr.out y (List.mem_of_getElem? hy); exact (hy1.lt b hyb).1) |>.trans (hbS.mono (by omega))) hEB.out
      replace hx := Lib.hid hx
      replace hF := Lib.hid hF
      replace hbS := Lib.hid hbS
      replace hS := Lib.hid hS
      replace hhq := Lib.hid hhq
      clear hm hraw hrq hrq' y0 y1 y2 e0 hxB hxH
      go_wp2_with (first | (rw [← hS.out]))
      go_loopw [4] (fun i wy => ∃ m : Nat, m ≤ xn ∧ i = .int .i64 (m : Nat) ∧ wy.ownsRow base 59 8 (.slice av xn cv) xn (marks mkValue xi m ++ xs.drop (m * 8)) ∧ S.grownBy wy (Value.slice av xn cv).ownBlock) (fun i _ => xn - (intOf i).toNat)
      case atStart => exact ⟨0, Nat.zero_le _, rfl, hoS.out, ⟨rfl, rfl, rfl, Nat.le_refl _, fun _ _ _ => rfl⟩⟩
      case round =>
        obtain ⟨m, hm9, rfl, ho, hgr⟩ := hrel
        obtain ⟨wy, hwy⟩ : ∃ wy : World, wy = wr := ⟨_, rfl⟩
        subst hwy
        have hzy := hgr.size
        have hry : wy.heap[wq.heap.size]? = some (.cells #[.slice av xn cv, .slice none 0 0, .int .i64 (xi : Nat)] 102 (0, 0)) := (hgr.block _ (by omega) (fun e => by have := hvlt.out _ e.symm; omega)).trans hrS.out
        have t0 : wy.cell? ⟨wq.heap.size, 0, none⟩ = some (.slice av xn cv) := by simp [World.cell?, hry]
        have t1 : wy.cell? ⟨wq.heap.size, 1, none⟩ = some (.slice none 0 0) := by simp [World.cell?, hry]
        have t2 : wy.cell? ⟨wq.heap.size, 2, none⟩ = some (.int .i64 (xi : Nat)) := by simp [World.cell?, hry]
        clear z0 z1 z2
        by_cases hmt : m < xn
        · have hmt9 : Hid (m + 1 ≤ xn) := hmt
          obtain ⟨g, cg, e1, hgb, hgl⟩ := ho.form (by omega)
          obtain ⟨rfl, rfl⟩ : av = some ⟨g, 0, none⟩ ∧ cv = cg := by simp at e1; exact ⟨e1.1, e1.2⟩
          have hlowS : Below base S wy := ⟨hgr.os, hgr.tape, hgr.output, hgr.size, fun b hb => hgr.block b (by omega) (fun e => by simp [Value.ownBlock] at e; omega)⟩
          have hEy : Env wy := hES.out.below hlowS hEB.out
          have cM : Hid (∀ d : LowW wy, Calls Tryz.prog 98 #[.int .i64 (xi : Nat)] d.w fun e w' => e = .returned (.agg #[.int .u8 0, .int .i64 0, .string (wordB xi), .slice none 0 0, .slice none 0 0, .int .u8 0, .string ⟨#[]⟩, .bool false]) ∧ ∃ d' : LowW wy, w' = d'.w) := fun d => (markValue_any xi hxi d.w (hEy.kept d.low)).mono fun e w' h => ⟨h.1, d.more h.2⟩
          have t0' : ∀ d : LowW wy, d.w.cell? ⟨wq.heap.size, 0, none⟩ = some (.slice (some ⟨g, 0, none⟩) xn cv) := fun d => (d.cell (by show wq.heap.size < _; omega)).trans t0
          have t2' : ∀ d : LowW wy, d.w.cell? ⟨wq.heap.size, 2, none⟩ = some (.int .i64 (xi : Nat)) := fun d => (d.cell (by show wq.heap.size < _; omega)).trans t2
          obtain ⟨old, post, hsp, hol⟩ : ∃ old post, xs.drop (m * 8) = old ++ post ∧ old.length = 8 ∧ post = xs.drop ((m + 1) * 8) := ⟨(xs.drop (m * 8)).take 8, (xs.drop (m * 8)).drop 8, (List.take_append_drop _ _).symm, by rw [List.length_take, List.length_drop, hxl.out]; omega, by rw [List.drop_drop]; congr 1; omega⟩
          rw [hsp, ← List.append_assoc] at ho
          have hod : ∀ d : LowW wy, d.w.ownsRow base 59 8 (.slice (some ⟨g, 0, none⟩) xn cv) xn (marks mkValue xi m ++ old ++ post) := fun d => own_same ho (fun b hb => d.low.block b (ho.lt b hb).2)
          replace hod := Lib.hid hod
          replace ho := Lib.hid ho
          replace hgr := Lib.hid hgr
          replace hsp := Lib.hid hsp
          replace hlowS := Lib.hid hlowS
          replace hEy := Lib.hid hEy
          replace hry := Lib.hid hry
          go_wp2_with fail
          clear t0 t1 t2
          refine wp_region_low_last 7 rfl rfl (by kernel_rfl) (by kernel_rfl) (by kernel_rfl) ?_
          simp only [List.take_succ_cons, List.take_zero]
          repeat (go_big_quiet_step (first | (go_at_call 98; exact cM.out _)))
          refine wpQuiet_nil ?_
          rintro _ ⟨d, rfl⟩ K hK
          clear t0' t2'
          have hd := hod.out d
          obtain ⟨q0, r0⟩ := cell_is hd (m * 8) (by omega)
          obtain ⟨q1, r1⟩ := cell_is hd (m * 8 + 1) (by omega)
          obtain ⟨q2, r2⟩ := cell_is hd (m * 8 + 2) (by omega)
          obtain ⟨q3, r3⟩ := cell_is hd (m * 8 + 3) (by omega)
          obtain ⟨q4, r4⟩ := cell_is hd (m * 8 + 4) (by omega)
          obtain ⟨q5, r5⟩ := cell_is hd (m * 8 + 5) (by omega)
          obtain ⟨q6, r6⟩ := cell_is hd (m * 8 + 6) (by omega)
          obtain ⟨q7, r7⟩ := cell_is hd (m * 8 + 7) (by omega)
          have f0 := hd.frozenAt (m * 8)
          have f1 := hd.frozenAt (m * 8 + 1)
          have f2 := hd.frozenAt (m * 8 + 2)
          have f3 := hd.frozenAt (m * 8 + 3)
          have f4 := hd.frozenAt (m * 8 + 4)
          have f5 := hd.frozenAt (m * 8 + 5)
          have f6 := hd.frozenAt (m * 8 + 6)
          have f7 := hd.frozenAt (m * 8 + 7)
          have ho5 : Hid ((((((((((d.w.setCell ⟨g, m * 8, none⟩ (.int .u8 0)).setCell ⟨g, m * 8 + 1, none⟩ (.int .i64 0)).setCell ⟨g, m * 8 + 2, none⟩ (.string (wordB xi))).setCell ⟨g, m * 8 + 3, none⟩ (.slice none 0 0)).setCell ⟨g, m * 8 + 4, none⟩ (.slice none 0 0)).setCell ⟨g, m * 8 + 5, none⟩ (.int .u8 0)).setCell ⟨g, m * 8 + 6, none⟩ (.string ⟨#[]⟩)).setCell ⟨g, m * 8 + 7, none⟩ (.bool false))).ownsRow base 59 8 (.slice (some ⟨g, 0, none⟩) xn cv) xn (marks mkValue xi (m + 1) ++ xs.drop ((m + 1) * 8))) := by
            have := bstored8 hd m (marks_len mklenValue xi m) hol.1 (.int .u8 0) (.int .i64 0) (.string (wordB xi)) (.slice none 0 0) (.slice none 0 0) (.int .u8 0) (.string ⟨#[]⟩) (.bool false)
            show World.ownsRow _ _ _ _ _ _ _
            rw [marks_succ, ← hol.2]
            exact this
          have hg5 : Hid (S.grownBy (((((((((d.w.setCell ⟨g, m * 8, none⟩ (.int .u8 0)).setCell ⟨g, m * 8 + 1, none⟩ (.int .i64 0)).setCell ⟨g, m * 8 + 2, none⟩ (.string (wordB xi))).setCell ⟨g, m * 8 + 3, none⟩ (.slice none 0 0)).setCell ⟨g, m * 8 + 4, none⟩ (.slice none 0 0)).setCell ⟨g, m * 8 + 5, none⟩ (.int .u8 0)).setCell ⟨g, m * 8 + 6, none⟩ (.string ⟨#[]⟩)).setCell ⟨g, m * 8 + 7, none⟩ (.bool false))) (Value.slice (some ⟨g, 0, none⟩) xn cv).ownBlock) :=
            grown_again (grown_again hgr.out ⟨d.low.os, d.low.tape, d.low.output, d.low.size, fun b hb _ => d.low.block b hb⟩) (grow8 d.w g (m * 8) (.int .u8 0) (.int .i64 0) (.string (wordB xi)) (.slice none 0 0) (.slice none 0 0) (.int .u8 0) (.string ⟨#[]⟩) (.bool false))
          replace hd := Lib.hid hd
          go_simp
          refine hK.out _ _ ?_
          clear hK K r0 r1 r2 r3 r4 r5 r6 r7 f0 f1 f2 f3 f4 f5 f6 f7
          go_wp2_with fail
          go_roundw
          case rel => exact ⟨m + 1, hmt9.out, by go_num, ho5.out, hg5.out⟩
          case measure => simp [intOf]; have := hmt9.out; omega
        · have hmx : xn = m := by omega
          subst hmx
          have hdr : xs.drop (xn * 8) = [] := List.drop_of_length_le (by rw [hxl.out]; exact Nat.le_refl _)
          rw [hdr, List.append_nil] at ho
          have hmk : Hid (∀ q x, L[q]? = some x → q < k + 1 → wy.ownsRow base 59 8 x.v x.n (marks mkValue x.i x.n)) := fun q x h1 h2 => by
            by_cases hqk : q = k
            · subst hqk
              rw [hx.out] at h1
              injection h1 with h1
              subst h1
              exact ho
            · have hq := hmS.out q x h1 (by omega)
              exact own_same hq (fun b hb => hgr.block b (hq.lt b hb).2 (fun e => hap.out.ne h1 hx.out hqk b hb e.symm))
          have hF2 : Hid (Frm (fun b => ∃ q x, q < k + 1 ∧ L[q]? = some x ∧ x.v.ownBlock = some b) w wy) := by
            refine ((hF.out.weak (fun b ⟨q, x, hq, h1, h2⟩ => ⟨q, x, by omega, h1, h2⟩)).trans (Frm.of_below hbS.out)).trans (Frm.of_grown hgr (fun b hb => ⟨k, _, by omega, hx.out, hb⟩))
          replace ho := Lib.hid ho
          replace hgr := Lib.hid hgr
          replace hry := Lib.hid hry
          clear hdr
          go_wp2_with fail
          go_roundw
          case rel => exact ⟨k + 1, hlt9.out, by go_num, hmk.out, hF2.out⟩
          case measure => simp [intOf]; have := hlt9.out; omega
    · have hkN : N = k := by omega
      subst hkN
      have hfin : Hid ((∀ x ∈ L, wq.ownsRow base 59 8 x.v x.n (marks mkValue x.i x.n)) ∧ Frm (fun b => ∃ x ∈ L, x.v.ownBlock = some b) w wq) := by
        refine ⟨fun x hx => ?_, hF.weak (fun b ⟨q, x, _, h1, h2⟩ => ⟨x, List.mem_of_getElem? h1, h2⟩)⟩
        obtain ⟨q, hq, e⟩ := List.getElem_of_mem hx
        exact hm q x (by rw [List.getElem?_eq_getElem hq, e]) (by rw [hN.out]; exact hq)
      replace hm := Lib.hid hm
      replace hF := Lib.hid hF
      go_wp2_with fail
      exact bodyPost_end (v := .tuple #[]) (results_none (by kernel_rfl) _ _ _) rfl ⟨rfl, hfin.out.1, hfin.out.2⟩
end Go.Proofs.YtehcbicngbibgaaGreatDoor

/- The Book's fillField: every list of the kind is filled with its marks. (By XGf.gen.py.) -/
namespace Go.Proofs.YtehcbicngbibgaaGreatDoor
open Go Go.RowKit
set_option maxHeartbeats 8000000 in
set_option maxRecDepth 100000 in
theorem fillField_any (base B : Nat) (hv : Value) (L : List Ent) (w : World) (hE : Env w) (hEB : EnvUnder base) (hc : w.cell? ⟨B, 4, none⟩ = some hv) (hB : B < w.heap.size) (hbB : base ≤ B) (hL : L.length ≤ 1073741824) (hh : w.ownsRow base 105 3 hv L.length (hcells L))
    (hr : ∀ x ∈ L, (∃ xs, w.ownsRow base 61 9 x.v x.n xs) ∧ x.i ≤ 1073741824 ∧ x.n ≤ 1152921504606846976 ∧ x.u = .slice none 0 0 ∧ x.v.ownBlock ≠ some B ∧ ∀ q, hv.ownBlock = some q → x.v.ownBlock ≠ some q) (hap : EApart L) :
    Calls Tryz.prog 32 #[.pointer (some ⟨B, 0, none⟩)] w fun e w' => e = .returned (.tuple #[]) ∧ (∀ x ∈ L, w'.ownsRow base 61 9 x.v x.n (marks mkField x.i x.n)) ∧ Frm (fun b => ∃ x ∈ L, x.v.ownBlock = some b) w w' := by
  obtain ⟨ah, ch, rfl⟩ := row_shape hh
  obtain ⟨N, hN⟩ : ∃ N, N = L.length := ⟨_, rfl⟩
  rw [← hN] at hh hL hc hr
  have hbw : base ≤ w.heap.size := by omega
  replace hE := Lib.hid hE
  replace hEB := Lib.hid hEB
  replace hh := Lib.hid hh
  replace hr := Lib.hid hr
  replace hap := Lib.hid hap
  replace hN := Lib.hid hN
  go_enter Tryz.func32, Tryz.ntmps32
  go_wp2_with fail
  go_loopw [2] (fun i wr => ∃ k : Nat, k ≤ N ∧ i = .int .i64 (k : Nat) ∧ (∀ q x, L[q]? = some x → q < k → wr.ownsRow base 61 9 x.v x.n (marks mkField x.i x.n)) ∧ Frm (fun b => ∃ q x, q < k ∧ L[q]? = some x ∧ x.v.ownBlock = some b) w wr) (fun i _ => N - (intOf i).toNat)
  case atStart => exact ⟨0, Nat.zero_le _, rfl, fun q x _ h => absurd h (Nat.not_lt_zero q), Frm.refl _ _⟩
  case round =>
    obtain ⟨k, hk, rfl, hm, hF⟩ := hrel
    obtain ⟨wq, hwq⟩ : ∃ wq : World, wq = wr := ⟨_, rfl⟩
    subst hwq
    have hcq : wq.cell? ⟨B, 4, none⟩ = some (.slice ah N ch) := (hF.cell (p := ⟨B, 4, none⟩) hB (fun ⟨q, x, _, hx, hb⟩ => (hr.out x (List.mem_of_getElem? hx)).2.2.2.2.1 hb)).trans hc
    have hzq := hF.size
    by_cases hlt : k < N
    · have hlt9 : Hid (k + 1 ≤ N) := hlt
      have hkL : k < L.length := by rw [← hN.out]; exact hlt
      obtain ⟨x, hx⟩ : ∃ x, L[k]? = some x := ⟨_, List.getElem?_eq_getElem hkL⟩
      have hhq : wq.ownsRow base 105 3 (.slice ah N ch) N (hcells L) := hF.own hh.out (fun b hb ⟨q, y, _, hy, hyb⟩ => (hr.out y (List.mem_of_getElem? hy)).2.2.2.2.2 b hb hyb)
      obtain ⟨H0, c0, e0, _, _⟩ := hhq.form (by omega)
      obtain ⟨rfl, rfl⟩ : ah = some ⟨H0, 0, none⟩ ∧ ch = c0 := by simp at e0; exact ⟨e0.1, e0.2⟩
      obtain ⟨y0, y1, y2⟩ := hcells_at hx
      have z0 : wq.cell? ⟨H0, k * 3, none⟩ = some x.v := (hhq.cellAt (k * 3) (by omega)).trans y0
      have z1 : wq.cell? ⟨H0, k * 3 + 1, none⟩ = some x.u := (hhq.cellAt (k * 3 + 1) (by omega)).trans y1
      have z2 : wq.cell? ⟨H0, k * 3 + 2, none⟩ = some (.int .i64 (x.i : Nat)) := (hhq.cellAt (k * 3 + 2) (by omega)).trans y2
      obtain ⟨⟨xs, hraw⟩, hxi, hxn, hxu, hxB, hxH⟩ := hr.out x (List.mem_of_getElem? hx)
      have hrq : wq.ownsRow base 61 9 x.v x.n xs := hF.own hraw (fun b hb ⟨q, y, hq, hy, hyb⟩ => hap.out.ne hy hx (by omega) b hyb hb)
      obtain ⟨xv, xn, xi, xu⟩ := x
      obtain rfl : xu = .slice none 0 0 := hxu
      obtain ⟨av, cv, hv9⟩ : ∃ av cv, xv = .slice av xn cv := row_shape hrq
      subst hv9
      have hrq' : wq.ownsRow base 61 9 (.slice av xn cv) xn xs := hrq
      have hxl : Hid (xs.length = xn * 9) := hrq'.1
      replace z0 : wq.cell? ⟨H0, k * 3, none⟩ = some (.slice av xn cv) := z0
      replace z1 : wq.cell? ⟨H0, k * 3 + 1, none⟩ = some (.slice none 0 0) := z1
      replace z2 : wq.cell? ⟨H0, k * 3 + 2, none⟩ = some (.int .i64 (xi : Nat)) := z2
      replace hxi : xi ≤ 1073741824 := hxi
      replace hxn : xn ≤ 1152921504606846976 := hxn
      have hvlt : Hid (∀ b, (Value.slice av xn cv).ownBlock = some b → base ≤ b ∧ b < wq.heap.size) := hrq'.lt
      obtain ⟨S, hS⟩ : ∃ S, S = wq.alloc (.cells #[.slice av xn cv, .slice none 0 0, .int .i64 (xi : Nat)] 105) := ⟨_, rfl⟩
      have hbS : Below wq.heap.size wq S := by rw [hS]; exact (Below.refl _ _).alloc (Nat.le_refl _) _
      have hzS : S.heap.size = wq.heap.size + 1 := by rw [hS]; simp
      have hrS : Hid (S.heap[wq.heap.size]? = some (.cells #[.slice av xn cv, .slice none 0 0, .int .i64 (xi : Nat)] 105 (0, 0))) := by show _ = _; rw [hS]; exact heap_alloc_new wq _
      have hoS : Hid (S.ownsRow base 61 9 (.slice av xn cv) xn (marks mkField xi 0 ++ xs.drop (0 * 9))) := by
        show World.ownsRow _ _ _ _ _ _ _
        rw [Nat.zero_mul, List.drop_zero]
        have e : marks mkField xi 0 = [] := rfl
        rw [e, List.nil_append, hS]
        exact hrq'.alloc _
      have hmS : Hid (∀ q x, L[q]? = some x → q < k → S.ownsRow base 61 9 x.v x.n (marks mkField x.i x.n)) := fun q x h1 h2 => own_same (hm q x h1 h2) (fun b hb => hbS.block b ((hm q x h1 h2).lt b hb).2)
      have hES : Hid (Env S) := hE.out.below (hF.low hbw (fun b ⟨q, y, _, hy, hyb⟩ => by obtain ⟨⟨ys, hy1⟩, _⟩ := hr.out y (List.mem_of_getElem? hy); exact (hy1.lt b hyb).1) |>.trans (hbS.mono (by omega))) hEB.out
      replace hx := Lib.hid hx
      replace hF := Lib.hid hF
      replace hbS := Lib.hid hbS
      replace hS := Lib.hid hS
      replace hhq := Lib.hid hhq
      clear hm hraw hrq hrq' y0 y1 y2 e0 hxB hxH
      go_wp2_with (first | (rw [← hS.out]))
      go_loopw [4] (fun i wy => ∃ m : Nat, m ≤ xn ∧ i = .int .i64 (m : Nat) ∧ wy.ownsRow base 61 9 (.slice av xn cv) xn (marks mkField xi m ++ xs.drop (m * 9)) ∧ S.grownBy wy (Value.slice av xn cv).ownBlock) (fun i _ => xn - (intOf i).toNat)
      case atStart => exact ⟨0, Nat.zero_le _, rfl, hoS.out, ⟨rfl, rfl, rfl, Nat.le_refl _, fun _ _ _ => rfl⟩⟩
      case round =>
        obtain ⟨m, hm9, rfl, ho, hgr⟩ := hrel
        obtain ⟨wy, hwy⟩ : ∃ wy : World, wy = wr := ⟨_, rfl⟩
        subst hwy
        have hzy := hgr.size
        have hry : wy.heap[wq.heap.size]? = some (.cells #[.slice av xn cv, .slice none 0 0, .int .i64 (xi : Nat)] 105 (0, 0)) := (hgr.block _ (by omega) (fun e => by have := hvlt.out _ e.symm; omega)).trans hrS.out
        have t0 : wy.cell? ⟨wq.heap.size, 0, none⟩ = some (.slice av xn cv) := by simp [World.cell?, hry]
        have t1 : wy.cell? ⟨wq.heap.size, 1, none⟩ = some (.slice none 0 0) := by simp [World.cell?, hry]
        have t2 : wy.cell? ⟨wq.heap.size, 2, none⟩ = some (.int .i64 (xi : Nat)) := by simp [World.cell?, hry]
        clear z0 z1 z2
        by_cases hmt : m < xn
        · have hmt9 : Hid (m + 1 ≤ xn) := hmt
          obtain ⟨g, cg, e1, hgb, hgl⟩ := ho.form (by omega)
          obtain ⟨rfl, rfl⟩ : av = some ⟨g, 0, none⟩ ∧ cv = cg := by simp at e1; exact ⟨e1.1, e1.2⟩
          have hlowS : Below base S wy := ⟨hgr.os, hgr.tape, hgr.output, hgr.size, fun b hb => hgr.block b (by omega) (fun e => by simp [Value.ownBlock] at e; omega)⟩
          have hEy : Env wy := hES.out.below hlowS hEB.out
          have cM : Hid (∀ d : LowW wy, Calls Tryz.prog 99 #[.int .i64 (xi : Nat)] d.w fun e w' => e = .returned (.agg #[.string (wordB xi), .int .u8 0, .int .i64 0, .string ⟨#[]⟩, .slice none 0 0, .slice none 0 0, .int .u8 0, .string ⟨#[]⟩, .bool false]) ∧ ∃ d' : LowW wy, w' = d'.w) := fun d => (markField_any xi hxi d.w (hEy.kept d.low)).mono fun e w' h => ⟨h.1, d.more h.2⟩
          have t0' : ∀ d : LowW wy, d.w.cell? ⟨wq.heap.size, 0, none⟩ = some (.slice (some ⟨g, 0, none⟩) xn cv) := fun d => (d.cell (by show wq.heap.size < _; omega)).trans t0
          have t2' : ∀ d : LowW wy, d.w.cell? ⟨wq.heap.size, 2, none⟩ = some (.int .i64 (xi : Nat)) := fun d => (d.cell (by show wq.heap.size < _; omega)).trans t2
          obtain ⟨old, post, hsp, hol⟩ : ∃ old post, xs.drop (m * 9) = old ++ post ∧ old.length = 9 ∧ post = xs.drop ((m + 1) * 9) := ⟨(xs.drop (m * 9)).take 9, (xs.drop (m * 9)).drop 9, (List.take_append_drop _ _).symm, by rw [List.length_take, List.length_drop, hxl.out]; omega, by rw [List.drop_drop]; congr 1; omega⟩
          rw [hsp, ← List.append_assoc] at ho
          have hod : ∀ d : LowW wy, d.w.ownsRow base 61 9 (.slice (some ⟨g, 0, none⟩) xn cv) xn (marks mkField xi m ++ old ++ post) := fun d => own_same ho (fun b hb => d.low.block b (ho.lt b hb).2)
          replace hod := Lib.hid hod
          replace ho := Lib.hid ho
          replace hgr := Lib.hid hgr
          replace hsp := Lib.hid hsp
          replace hlowS := Lib.hid hlowS
          replace hEy := Lib.hid hEy
          replace hry := Lib.hid hry
          go_wp2_with fail
          clear t0 t1 t2
          refine wp_region_low_last 7 rfl rfl (by kernel_rfl) (by kernel_rfl) (by kernel_rfl) ?_
          simp only [List.take_succ_cons, List.take_zero]
          repeat (go_big_quiet_step (first | (go_at_call 99; exact cM.out _)))
          refine wpQuiet_nil ?_
          rintro _ ⟨d, rfl⟩ K hK
          clear t0' t2'
          have hd := hod.out d
          obtain ⟨q0, r0⟩ := cell_is hd (m * 9) (by omega)
          obtain ⟨q1, r1⟩ := cell_is hd (m * 9 + 1) (by omega)
          obtain ⟨q2, r2⟩ := cell_is hd (m * 9 + 2) (by omega)
          obtain ⟨q3, r3⟩ := cell_is hd (m * 9 + 3) (by omega)
          obtain ⟨q4, r4⟩ := cell_is hd (m * 9 + 4) (by omega)
          obtain ⟨q5, r5⟩ := cell_is hd (m * 9 + 5) (by omega)
          obtain ⟨q6, r6⟩ := cell_is hd (m * 9 + 6) (by omega)
          obtain ⟨q7, r7⟩ := cell_is hd (m * 9 + 7) (by omega)
          obtain ⟨q8, r8⟩ := cell_is hd (m * 9 + 8) (by omega)
          have f0 := hd.frozenAt (m * 9)
          have f1 := hd.frozenAt (m * 9 + 1)
          have f2 := hd.frozenAt (m * 9 + 2)
          have f3 := hd.frozenAt (m * 9 + 3)
          have f4 := hd.frozenAt (m * 9 + 4)
          have f5 := hd.frozenAt (m * 9 + 5)
          have f6 := hd.frozenAt (m * 9 + 6)
          have f7 := hd.frozenAt (m * 9 + 7)
          have f8 := hd.frozenAt (m * 9 + 8)
          have ho5 : Hid (((((((((((d.w.setCell ⟨g, m * 9, none⟩ (.string (wordB xi))).setCell ⟨g, m * 9 + 1, none⟩ (.int .u8 0)).setCell ⟨g, m * 9 + 2, none⟩ (.int .i64 0)).setCell ⟨g, m * 9 + 3, none⟩ (.string ⟨#[]⟩)).setCell ⟨g, m * 9 + 4, none⟩ (.slice none 0 0)).setCell ⟨g, m * 9 + 5, none⟩ (.slice none 0 0)).setCell ⟨g, m * 9 + 6, none⟩ (.int .u8 0)).setCell ⟨g, m * 9 + 7, none⟩ (.string ⟨#[]⟩)).setCell ⟨g, m * 9 + 8, none⟩ (.bool false))).ownsRow base 61 9 (.slice (some ⟨g, 0, none⟩) xn cv) xn (marks mkField xi (m + 1) ++ xs.drop ((m + 1) * 9))) := by
            have := bstored9 hd m (marks_len mklenField xi m) hol.1 (.string (wordB xi)) (.int .u8 0) (.int .i64 0) (.string ⟨#[]⟩) (.slice none 0 0) (.slice none 0 0) (.int .u8 0) (.string ⟨#[]⟩) (.bool false)
            show World.ownsRow _ _ _ _ _ _ _
            rw [marks_succ, ← hol.2]
            exact this
          have hg5 : Hid (S.grownBy ((((((((((d.w.setCell ⟨g, m * 9, none⟩ (.string (wordB xi))).setCell ⟨g, m * 9 + 1, none⟩ (.int .u8 0)).setCell ⟨g, m * 9 + 2, none⟩ (.int .i64 0)).setCell ⟨g, m * 9 + 3, none⟩ (.string ⟨#[]⟩)).setCell ⟨g, m * 9 + 4, none⟩ (.slice none 0 0)).setCell ⟨g, m * 9 + 5, none⟩ (.slice none 0 0)).setCell ⟨g, m * 9 + 6, none⟩ (.int .u8 0)).setCell ⟨g, m * 9 + 7, none⟩ (.string ⟨#[]⟩)).setCell ⟨g, m * 9 + 8, none⟩ (.bool false))) (Value.slice (some ⟨g, 0, none⟩) xn cv).ownBlock) :=
            grown_again (grown_again hgr.out ⟨d.low.os, d.low.tape, d.low.output, d.low.size, fun b hb _ => d.low.block b hb⟩) (grow9 d.w g (m * 9) (.string (wordB xi)) (.int .u8 0) (.int .i64 0) (.string ⟨#[]⟩) (.slice none 0 0) (.slice none 0 0) (.int .u8 0) (.string ⟨#[]⟩) (.bool false))
          replace hd := Lib.hid hd
          go_simp
          refine hK.out _ _ ?_
          clear hK K r0 r1 r2 r3 r4 r5 r6 r7 r8 f0 f1 f2 f3 f4 f5 f6 f7 f8
          go_wp2_with fail
          go_roundw
          case rel => exact ⟨m + 1, hmt9.out, by go_num, ho5.out, hg5.out⟩
          case measure => simp [intOf]; have := hmt9.out; omega
        · have hmx : xn = m := by omega
          subst hmx
          have hdr : xs.drop (xn * 9) = [] := List.drop_of_length_le (by rw [hxl.out]; exact Nat.le_refl _)
          rw [hdr, List.append_nil] at ho
          have hmk : Hid (∀ q x, L[q]? = some x → q < k + 1 → wy.ownsRow base 61 9 x.v x.n (marks mkField x.i x.n)) := fun q x h1 h2 => by
            by_cases hqk : q = k
            · subst hqk
              rw [hx.out] at h1
              injection h1 with h1
              subst h1
              exact ho
            · have hq := hmS.out q x h1 (by omega)
              exact own_same hq (fun b hb => hgr.block b (hq.lt b hb).2 (fun e => hap.out.ne h1 hx.out hqk b hb e.symm))
          have hF2 : Hid (Frm (fun b => ∃ q x, q < k + 1 ∧ L[q]? = some x ∧ x.v.ownBlock = some b) w wy) := by
            refine ((hF.out.weak (fun b ⟨q, x, hq, h1, h2⟩ => ⟨q, x, by omega, h1, h2⟩)).trans (Frm.of_below hbS.out)).trans (Frm.of_grown hgr (fun b hb => ⟨k, _, by omega, hx.out, hb⟩))
          replace ho := Lib.hid ho
          replace hgr := Lib.hid hgr
          replace hry := Lib.hid hry
          clear hdr
          go_wp2_with fail
          go_roundw
          case rel => exact ⟨k + 1, hlt9.out, by go_num, hmk.out, hF2.out⟩
          case measure => simp [intOf]; have := hlt9.out; omega
    · have hkN : N = k := by omega
      subst hkN
      have hfin : Hid ((∀ x ∈ L, wq.ownsRow base 61 9 x.v x.n (marks mkField x.i x.n)) ∧ Frm (fun b => ∃ x ∈ L, x.v.ownBlock = some b) w wq) := by
        refine ⟨fun x hx => ?_, hF.weak (fun b ⟨q, x, _, h1, h2⟩ => ⟨x, List.mem_of_getElem? h1, h2⟩)⟩
        obtain ⟨q, hq, e⟩ := List.getElem_of_mem hx
        exact hm q x (by rw [List.getElem?_eq_getElem hq, e]) (by rw [hN.out]; exact hq)
      replace hm := Lib.hid hm
      replace hF := Lib.hid hF
      go_wp2_with fail
      exact bodyPost_end (v := .tuple #[]) (results_none (by kernel_rfl) _ _ _) rfl ⟨rfl, hfin.out.1, hfin.out.2⟩
end Go.Proofs.YtehcbicngbibgaaGreatDoor

/- The Book's fillNode: every list of the kind is filled with its marks. (By XGf.gen.py.) -/
namespace Go.Proofs.YtehcbicngbibgaaGreatDoor
open Go Go.RowKit
set_option maxHeartbeats 8000000 in
set_option maxRecDepth 100000 in
theorem fillNode_any (base B : Nat) (hv : Value) (L : List Ent) (w : World) (hE : Env w) (hEB : EnvUnder base) (hc : w.cell? ⟨B, 13, none⟩ = some hv) (hB : B < w.heap.size) (hbB : base ≤ B) (hL : L.length ≤ 1073741824) (hh : w.ownsRow base 93 3 hv L.length (hcells L))
    (hr : ∀ x ∈ L, (∃ xs, w.ownsRow base 53 5 x.v x.n xs) ∧ x.i ≤ 1073741824 ∧ x.n ≤ 1152921504606846976 ∧ x.u = .slice none 0 0 ∧ x.v.ownBlock ≠ some B ∧ ∀ q, hv.ownBlock = some q → x.v.ownBlock ≠ some q) (hap : EApart L) :
    Calls Tryz.prog 41 #[.pointer (some ⟨B, 0, none⟩)] w fun e w' => e = .returned (.tuple #[]) ∧ (∀ x ∈ L, w'.ownsRow base 53 5 x.v x.n (marks mkNode x.i x.n)) ∧ Frm (fun b => ∃ x ∈ L, x.v.ownBlock = some b) w w' := by
  obtain ⟨ah, ch, rfl⟩ := row_shape hh
  obtain ⟨N, hN⟩ : ∃ N, N = L.length := ⟨_, rfl⟩
  rw [← hN] at hh hL hc hr
  have hbw : base ≤ w.heap.size := by omega
  replace hE := Lib.hid hE
  replace hEB := Lib.hid hEB
  replace hh := Lib.hid hh
  replace hr := Lib.hid hr
  replace hap := Lib.hid hap
  replace hN := Lib.hid hN
  go_enter Tryz.func41, Tryz.ntmps41
  go_wp2_with fail
  go_loopw [2] (fun i wr => ∃ k : Nat, k ≤ N ∧ i = .int .i64 (k : Nat) ∧ (∀ q x, L[q]? = some x → q < k → wr.ownsRow base 53 5 x.v x.n (marks mkNode x.i x.n)) ∧ Frm (fun b => ∃ q x, q < k ∧ L[q]? = some x ∧ x.v.ownBlock = some b) w wr) (fun i _ => N - (intOf i).toNat)
  case atStart => exact ⟨0, Nat.zero_le _, rfl, fun q x _ h => absurd h (Nat.not_lt_zero q), Frm.refl _ _⟩
  case round =>
    obtain ⟨k, hk, rfl, hm, hF⟩ := hrel
    obtain ⟨wq, hwq⟩ : ∃ wq : World, wq = wr := ⟨_, rfl⟩
    subst hwq
    have hcq : wq.cell? ⟨B, 13, none⟩ = some (.slice ah N ch) := (hF.cell (p := ⟨B, 13, none⟩) hB (fun ⟨q, x, _, hx, hb⟩ => (hr.out x (List.mem_of_getElem? hx)).2.2.2.2.1 hb)).trans hc
    have hzq := hF.size
    by_cases hlt : k < N
    · have hlt9 : Hid (k + 1 ≤ N) := hlt
      have hkL : k < L.length := by rw [← hN.out]; exact hlt
      obtain ⟨x, hx⟩ : ∃ x, L[k]? = some x := ⟨_, List.getElem?_eq_getElem hkL⟩
      have hhq : wq.ownsRow base 93 3 (.slice ah N ch) N (hcells L) := hF.own hh.out (fun b hb ⟨q, y, _, hy, hyb⟩ => (hr.out y (List.mem_of_getElem? hy)).2.2.2.2.2 b hb hyb)
      obtain ⟨H0, c0, e0, _, _⟩ := hhq.form (by omega)
      obtain ⟨rfl, rfl⟩ : ah = some ⟨H0, 0, none⟩ ∧ ch = c0 := by simp at e0; exact ⟨e0.1, e0.2⟩
      obtain ⟨y0, y1, y2⟩ := hcells_at hx
      have z0 : wq.cell? ⟨H0, k * 3, none⟩ = some x.v := (hhq.cellAt (k * 3) (by omega)).trans y0
      have z1 : wq.cell? ⟨H0, k * 3 + 1, none⟩ = some x.u := (hhq.cellAt (k * 3 + 1) (by omega)).trans y1
      have z2 : wq.cell? ⟨H0, k * 3 + 2, none⟩ = some (.int .i64 (x.i : Nat)) := (hhq.cellAt (k * 3 + 2) (by omega)).trans y2
      obtain ⟨⟨xs, hraw⟩, hxi, hxn, hxu, hxB, hxH⟩ := hr.out x (List.mem_of_getElem? hx)
      have hrq : wq.ownsRow base 53 5 x.v x.n xs := hF.own hraw (fun b hb ⟨q, y, hq, hy, hyb⟩ => hap.out.ne hy hx (by omega) b hyb hb)
      obtain ⟨xv, xn, xi, xu⟩ := x
      obtain rfl : xu = .slice none 0 0 := hxu
      obtain ⟨av, cv, hv9⟩ : ∃ av cv, xv = .slice av xn cv := row_shape hrq
      subst hv9
      have hrq' : wq.ownsRow base 53 5 (.slice av xn cv) xn xs := hrq
      have hxl : Hid (xs.length = xn * 5) := hrq'.1
      replace z0 : wq.cell? ⟨H0, k * 3, none⟩ = some (.slice av xn cv) := z0
      replace z1 : wq.cell? ⟨H0, k * 3 + 1, none⟩ = some (.slice none 0 0) := z1
      replace z2 : wq.cell? ⟨H0, k * 3 + 2, none⟩ = some (.int .i64 (xi : Nat)) := z2
      replace hxi : xi ≤ 1073741824 := hxi
      replace hxn : xn ≤ 1152921504606846976 := hxn
      have hvlt : Hid (∀ b, (Value.slice av xn cv).ownBlock = some b → base ≤ b ∧ b < wq.heap.size) := hrq'.lt
      obtain ⟨S, hS⟩ : ∃ S, S = wq.alloc (.cells #[.slice av xn cv, .slice none 0 0, .int .i64 (xi : Nat)] 93) := ⟨_, rfl⟩
      have hbS : Below wq.heap.size wq S := by rw [hS]; exact (Below.refl _ _).alloc (Nat.le_refl _) _
      have hzS : S.heap.size = wq.heap.size + 1 := by rw [hS]; simp
      have hrS : Hid (S.heap[wq.heap.size]? = some (.cells #[.slice av xn cv, .slice none 0 0, .int .i64 (xi : Nat)] 93 (0, 0))) := by show _ = _; rw [hS]; exact heap_alloc_new wq _
      have hoS : Hid (S.ownsRow base 53 5 (.slice av xn cv) xn (marks mkNode xi 0 ++ xs.drop (0 * 5))) := by
        show World.ownsRow _ _ _ _ _ _ _
        rw [Nat.zero_mul, List.drop_zero]
        have e : marks mkNode xi 0 = [] := rfl
        rw [e, List.nil_append, hS]
        exact hrq'.alloc _
      have hmS : Hid (∀ q x, L[q]? = some x → q < k → S.ownsRow base 53 5 x.v x.n (marks mkNode x.i x.n)) := fun q x h1 h2 => own_same (hm q x h1 h2) (fun b hb => hbS.block b ((hm q x h1 h2).lt b hb).2)
      have hES : Hid (Env S) := hE.out.below (hF.low hbw (fun b ⟨q, y, _, hy, hyb⟩ => by obtain ⟨⟨ys, hy1⟩, _⟩ := hr.out y (List.mem_of_getElem? hy); exact (hy1.lt b hyb).1) |>.trans (hbS.mono (by omega))) hEB.out
      replace hx := Lib.hid hx
      replace hF := Lib.hid hF
      replace hbS := Lib.hid hbS
      replace hS := Lib.hid hS
      replace hhq := Lib.hid hhq
      clear hm hraw hrq hrq' y0 y1 y2 e0 hxB hxH
      go_wp2_with (first | (rw [← hS.out]))
      go_loopw [4] (fun i wy => ∃ m : Nat, m ≤ xn ∧ i = .int .i64 (m : Nat) ∧ wy.ownsRow base 53 5 (.slice av xn cv) xn (marks mkNode xi m ++ xs.drop (m * 5)) ∧ S.grownBy wy (Value.slice av xn cv).ownBlock) (fun i _ => xn - (intOf i).toNat)
      case atStart => exact ⟨0, Nat.zero_le _, rfl, hoS.out, ⟨rfl, rfl, rfl, Nat.le_refl _, fun _ _ _ => rfl⟩⟩
      case round =>
        obtain ⟨m, hm9, rfl, ho, hgr⟩ := hrel
        obtain ⟨wy, hwy⟩ : ∃ wy : World, wy = wr := ⟨_, rfl⟩
        subst hwy
        have hzy := hgr.size
        have hry : wy.heap[wq.heap.size]? = some (.cells #[.slice av xn cv, .slice none 0 0, .int .i64 (xi : Nat)] 93 (0, 0)) := (hgr.block _ (by omega) (fun e => by have := hvlt.out _ e.symm; omega)).trans hrS.out
        have t0 : wy.cell? ⟨wq.heap.size, 0, none⟩ = some (.slice av xn cv) := by simp [World.cell?, hry]
        have t1 : wy.cell? ⟨wq.heap.size, 1, none⟩ = some (.slice none 0 0) := by simp [World.cell?, hry]
        have t2 : wy.cell? ⟨wq.heap.size, 2, none⟩ = some (.int .i64 (xi : Nat)) := by simp [World.cell?, hry]
        clear z0 z1 z2
        by_cases hmt : m < xn
        · have hmt9 : Hid (m + 1 ≤ xn) := hmt
          obtain ⟨g, cg, e1, hgb, hgl⟩ := ho.form (by omega)
          obtain ⟨rfl, rfl⟩ : av = some ⟨g, 0, none⟩ ∧ cv = cg := by simp at e1; exact ⟨e1.1, e1.2⟩
          have hlowS : Below base S wy := ⟨hgr.os, hgr.tape, hgr.output, hgr.size, fun b hb => hgr.block b (by omega) (fun e => by simp [Value.ownBlock] at e; omega)⟩
          have hEy : Env wy := hES.out.below hlowS hEB.out
          have cM : Hid (∀ d : LowW wy, Calls Tryz.prog 108 #[.int .i64 (xi : Nat)] d.w fun e w' => e = .returned (.agg #[.int .i64 (-1000 - (xi : Int)), .string ⟨#[]⟩, .string ⟨#[]⟩, .slice none 0 0, .slice none 0 0]) ∧ ∃ d' : LowW wy, w' = d'.w) := fun d => (markNode_any xi hxi d.w (hEy.kept d.low)).mono fun e w' h => ⟨h.1, d.more h.2⟩
          have t0' : ∀ d : LowW wy, d.w.cell? ⟨wq.heap.size, 0, none⟩ = some (.slice (some ⟨g, 0, none⟩) xn cv) := fun d => (d.cell (by show wq.heap.size < _; omega)).trans t0
          have t2' : ∀ d : LowW wy, d.w.cell? ⟨wq.heap.size, 2, none⟩ = some (.int .i64 (xi : Nat)) := fun d => (d.cell (by show wq.heap.size < _; omega)).trans t2
          obtain ⟨old, post, hsp, hol⟩ : ∃ old post, xs.drop (m * 5) = old ++ post ∧ old.length = 5 ∧ post = xs.drop ((m + 1) * 5) := ⟨(xs.drop (m * 5)).take 5, (xs.drop (m * 5)).drop 5, (List.take_append_drop _ _).symm, by rw [List.length_take, List.length_drop, hxl.out]; omega, by rw [List.drop_drop]; congr 1; omega⟩
          rw [hsp, ← List.append_assoc] at ho
          have hod : ∀ d : LowW wy, d.w.ownsRow base 53 5 (.slice (some ⟨g, 0, none⟩) xn cv) xn (marks mkNode xi m ++ old ++ post) := fun d => own_same ho (fun b hb => d.low.block b (ho.lt b hb).2)
          replace hod := Lib.hid hod
          replace ho := Lib.hid ho
          replace hgr := Lib.hid hgr
          replace hsp := Lib.hid hsp
          replace hlowS := Lib.hid hlowS
          replace hEy := Lib.hid hEy
          replace hry := Lib.hid hry
          go_wp2_with fail
          clear t0 t1 t2
          refine wp_region_low_last 7 rfl rfl (by kernel_rfl) (by kernel_rfl) (by kernel_rfl) ?_
          simp only [List.take_succ_cons, List.take_zero]
          repeat (go_big_quiet_step (first | (go_at_call 108; exact cM.out _)))
          refine wpQuiet_nil ?_
          rintro _ ⟨d, rfl⟩ K hK
          clear t0' t2'
          have hd := hod.out d
          obtain ⟨q0, r0⟩ := cell_is hd (m * 5) (by omega)
          obtain ⟨q1, r1⟩ := cell_is hd (m * 5 + 1) (by omega)
          obtain ⟨q2, r2⟩ := cell_is hd (m * 5 + 2) (by omega)
          obtain ⟨q3, r3⟩ := cell_is hd (m * 5 + 3) (by omega)
          obtain ⟨q4, r4⟩ := cell_is hd (m * 5 + 4) (by omega)
          have f0 := hd.frozenAt (m * 5)
          have f1 := hd.frozenAt (m * 5 + 1)
          have f2 := hd.frozenAt (m * 5 + 2)
          have f3 := hd.frozenAt (m * 5 + 3)
          have f4 := hd.frozenAt (m * 5 + 4)
          have ho5 : Hid (((((((d.w.setCell ⟨g, m * 5, none⟩ (.int .i64 (-1000 - (xi : Int)))).setCell ⟨g, m * 5 + 1, none⟩ (.string ⟨#[]⟩)).setCell ⟨g, m * 5 + 2, none⟩ (.string ⟨#[]⟩)).setCell ⟨g, m * 5 + 3, none⟩ (.slice none 0 0)).setCell ⟨g, m * 5 + 4, none⟩ (.slice none 0 0))).ownsRow base 53 5 (.slice (some ⟨g, 0, none⟩) xn cv) xn (marks mkNode xi (m + 1) ++ xs.drop ((m + 1) * 5))) := by
            have := bstored5 hd m (marks_len mklenNode xi m) hol.1 (.int .i64 (-1000 - (xi : Int))) (.string ⟨#[]⟩) (.string ⟨#[]⟩) (.slice none 0 0) (.slice none 0 0)
            show World.ownsRow _ _ _ _ _ _ _
            rw [marks_succ, ← hol.2]
            exact this
          have hg5 : Hid (S.grownBy ((((((d.w.setCell ⟨g, m * 5, none⟩ (.int .i64 (-1000 - (xi : Int)))).setCell ⟨g, m * 5 + 1, none⟩ (.string ⟨#[]⟩)).setCell ⟨g, m * 5 + 2, none⟩ (.string ⟨#[]⟩)).setCell ⟨g, m * 5 + 3, none⟩ (.slice none 0 0)).setCell ⟨g, m * 5 + 4, none⟩ (.slice none 0 0))) (Value.slice (some ⟨g, 0, none⟩) xn cv).ownBlock) :=
            grown_again (grown_again hgr.out ⟨d.low.os, d.low.tape, d.low.output, d.low.size, fun b hb _ => d.low.block b hb⟩) (grow5 d.w g (m * 5) (.int .i64 (-1000 - (xi : Int))) (.string ⟨#[]⟩) (.string ⟨#[]⟩) (.slice none 0 0) (.slice none 0 0))
          replace hd := Lib.hid hd
          go_simp
          refine hK.out _ _ ?_
          clear hK K r0 r1 r2 r3 r4 f0 f1 f2 f3 f4
          go_wp2_with fail
          go_roundw
          case rel => exact ⟨m + 1, hmt9.out, by go_num, ho5.out, hg5.out⟩
          case measure => simp [intOf]; have := hmt9.out; omega
        · have hmx : xn = m := by omega
          subst hmx
          have hdr : xs.drop (xn * 5) = [] := List.drop_of_length_le (by rw [hxl.out]; exact Nat.le_refl _)
          rw [hdr, List.append_nil] at ho
          have hmk : Hid (∀ q x, L[q]? = some x → q < k + 1 → wy.ownsRow base 53 5 x.v x.n (marks mkNode x.i x.n)) := fun q x h1 h2 => by
            by_cases hqk : q = k
            · subst hqk
              rw [hx.out] at h1
              injection h1 with h1
              subst h1
              exact ho
            · have hq := hmS.out q x h1 (by omega)
              exact own_same hq (fun b hb => hgr.block b (hq.lt b hb).2 (fun e => hap.out.ne h1 hx.out hqk b hb e.symm))
          have hF2 : Hid (Frm (fun b => ∃ q x, q < k + 1 ∧ L[q]? = some x ∧ x.v.ownBlock = some b) w wy) := by
            refine ((hF.out.weak (fun b ⟨q, x, hq, h1, h2⟩ => ⟨q, x, by omega, h1, h2⟩)).trans (Frm.of_below hbS.out)).trans (Frm.of_grown hgr (fun b hb => ⟨k, _, by omega, hx.out, hb⟩))
          replace ho := Lib.hid ho
          replace hgr := Lib.hid hgr
          replace hry := Lib.hid hry
          clear hdr
          go_wp2_with fail
          go_roundw
          case rel => exact ⟨k + 1, hlt9.out, by go_num, hmk.out, hF2.out⟩
          case measure => simp [intOf]; have := hlt9.out; omega
    · have hkN : N = k := by omega
      subst hkN
      have hfin : Hid ((∀ x ∈ L, wq.ownsRow base 53 5 x.v x.n (marks mkNode x.i x.n)) ∧ Frm (fun b => ∃ x ∈ L, x.v.ownBlock = some b) w wq) := by
        refine ⟨fun x hx => ?_, hF.weak (fun b ⟨q, x, _, h1, h2⟩ => ⟨x, List.mem_of_getElem? h1, h2⟩)⟩
        obtain ⟨q, hq, e⟩ := List.getElem_of_mem hx
        exact hm q x (by rw [List.getElem?_eq_getElem hq, e]) (by rw [hN.out]; exact hq)
      replace hm := Lib.hid hm
      replace hF := Lib.hid hF
      go_wp2_with fail
      exact bodyPost_end (v := .tuple #[]) (results_none (by kernel_rfl) _ _ _) rfl ⟨rfl, hfin.out.1, hfin.out.2⟩
end Go.Proofs.YtehcbicngbibgaaGreatDoor
