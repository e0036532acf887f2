/- value.alone at kind 3. (Printed by XVa.gen.py.) -/
import Derived.Test.YtehcbicngbibgaaGreatDoorZVa
namespace Go.Proofs.YtehcbicngbibgaaGreatDoor
open Go Go.RowKit
set_option maxHeartbeats 1600000 in
set_option maxRecDepth 100000 in
theorem aloneK3_any (n : Int) (s : ByteArray) (la fa : Option Addr) (ln lc fn fc : Nat) (el : Int) (key : ByteArray) (hk : Bool) (F : List Fld) (w : World) (hln : ln ≤ 1152921504606846976) (hs : s.size ≤ 140737488355328) (hks : key.size ≤ 140737488355328) (h : FLs w w.heap.size F fa fn) :
    Calls Tryz.prog 135 #[.agg #[.int .u8 3, .int .i64 n, .string s, .slice la ln lc, .slice fa fn fc, .int .u8 el, .string key, .bool hk]] w fun e w' => e = .returned (.bool (plainP 3 n s ln fn el key hk)) ∧ Below w.heap.size w w' := by
  have hfn := h.2.1
  obtain ⟨V, hV⟩ : ∃ V, V = plainP 3 n s ln fn el key hk := ⟨_, rfl⟩
  rw [← hV]
  replace hV := Lib.hid hV
  obtain ⟨S, hS⟩ : ∃ S, S = w.alloc (.cells #[.int .u8 3, .int .i64 n, .string s, .slice la ln lc, .slice fa fn fc, .int .u8 el, .string key, .bool hk] 59) := ⟨_, rfl⟩
  have hbS : Below w.heap.size w S := by rw [hS]; exact (Below.refl _ _).alloc (Nat.le_refl _) _
  have hrS : S.heap[w.heap.size]? = some (.cells #[.int .u8 3, .int .i64 n, .string s, .slice la ln lc, .slice fa fn fc, .int .u8 el, .string key, .bool hk] 59 (0, 0)) := by rw [hS]; exact heap_alloc_new w _
  have hzS : S.heap.size = w.heap.size + 1 := by rw [hS]; simp
  have x0 : S.cell? ⟨w.heap.size, 0, none⟩ = some (.int .u8 3) := by simp [World.cell?, hrS]
  have x1 : S.cell? ⟨w.heap.size, 1, none⟩ = some (.int .i64 n) := by simp [World.cell?, hrS]
  have x2 : S.cell? ⟨w.heap.size, 2, none⟩ = some (.string s) := by simp [World.cell?, hrS]
  have x3 : S.cell? ⟨w.heap.size, 3, none⟩ = some (.slice la ln lc) := by simp [World.cell?, hrS]
  have x4 : S.cell? ⟨w.heap.size, 4, none⟩ = some (.slice fa fn fc) := by simp [World.cell?, hrS]
  have x5 : S.cell? ⟨w.heap.size, 5, none⟩ = some (.int .u8 el) := by simp [World.cell?, hrS]
  have x6 : S.cell? ⟨w.heap.size, 6, none⟩ = some (.string key) := by simp [World.cell?, hrS]
  have x7 : S.cell? ⟨w.heap.size, 7, none⟩ = some (.bool hk) := by simp [World.cell?, hrS]
  have hWS : Hid (S = _) := hS
  replace hrS := Lib.hid hrS
  clear hS
  have hX0 : Hid (Boxed S w.heap.size 3 n s la fa ln lc fn fc el key hk) := by show _ = _; exact hrS.out
  replace h := Lib.hid h
  replace hbS := Lib.hid hbS
  go_enter Tryz.func135, Tryz.ntmps135
  go_wp2_with (first | (rw [← hWS.out]))
  go_loopw [9] (fun i wr => ∃ k : Nat, k ≤ fn ∧ i = .int .i64 (k : Nat) ∧ Below S.heap.size S wr) (fun i _ => fn - (intOf i).toNat)
  case atStart => exact ⟨0, Nat.zero_le _, rfl, Below.refl _ _⟩
  case round =>
    obtain ⟨k, hk9, rfl, hbk⟩ := hrel
    have hX : Hid (Boxed wr w.heap.size 3 n s la fa ln lc fn fc el key hk) := hX0.out.kept hbk
    have hb := Lib.hid (hbS.out.trans (hbk.mono (by omega)))
    clear x0 x1 x2 x3 x4 x5 x6 x7
    by_cases hlt : k < fn
    · have hlt9 : Hid (k + 1 ≤ fn) := hlt
      have hV9 : Hid (V = false) := by
        have hf0 : ¬ fn = 0 := by omega
        show V = false
        rw [hV.out]; unfold plainP restB; simp [hf0]
      obtain ⟨b1, o1, f, q, rfl, hb1, hg1, hc1, hf1⟩ := FLs.elem (h.out.kept hb.out) k hlt
      have hbw : b1 < wr.heap.size := Nat.lt_of_lt_of_le hb1 hb.out.size
      have hY : wr.heap[w.heap.size]? = some (.cells #[.int .u8 3, .int .i64 n, .string s, .slice la ln lc, .slice (some ⟨b1, o1, none⟩) fn fc, .int .u8 el, .string key, .bool hk] 59 (0, 0)) := hX.out
      have x0 : wr.cell? ⟨w.heap.size, 0, none⟩ = some (.int .u8 3) := by simp [World.cell?, hY]
      have x1 : wr.cell? ⟨w.heap.size, 1, none⟩ = some (.int .i64 n) := by simp [World.cell?, hY]
      have x2 : wr.cell? ⟨w.heap.size, 2, none⟩ = some (.string s) := by simp [World.cell?, hY]
      have x3 : wr.cell? ⟨w.heap.size, 3, none⟩ = some (.slice la ln lc) := by simp [World.cell?, hY]
      have x4 : wr.cell? ⟨w.heap.size, 4, none⟩ = some (.slice (some ⟨b1, o1, none⟩) fn fc) := by simp [World.cell?, hY]
      have x5 : wr.cell? ⟨w.heap.size, 5, none⟩ = some (.int .u8 el) := by simp [World.cell?, hY]
      have x6 : wr.cell? ⟨w.heap.size, 6, none⟩ = some (.string key) := by simp [World.cell?, hY]
      have x7 : wr.cell? ⟨w.heap.size, 7, none⟩ = some (.bool hk) := by simp [World.cell?, hY]
      clear hY
      have y0 : wr.cell? ⟨b1, o1 + k * 9, none⟩ = some (.string f.name) := hc1 0 (by omega)
      have y1 : wr.cell? ⟨b1, o1 + k * 9 + 1, none⟩ = some (.int .u8 f.value.kind) := by rw [Nat.add_assoc]; exact hc1 1 (by omega)
      have y2 : wr.cell? ⟨b1, o1 + k * 9 + 2, none⟩ = some (.int .i64 f.value.n) := by rw [Nat.add_assoc]; exact hc1 2 (by omega)
      have y3 : wr.cell? ⟨b1, o1 + k * 9 + 3, none⟩ = some (.string f.value.s) := by rw [Nat.add_assoc]; exact hc1 3 (by omega)
      have y4 : wr.cell? ⟨b1, o1 + k * 9 + 4, none⟩ = some (.slice q.la q.ln q.lc) := by rw [Nat.add_assoc]; exact hc1 4 (by omega)
      have y5 : wr.cell? ⟨b1, o1 + k * 9 + 5, none⟩ = some (.slice q.fa q.fn q.fc) := by rw [Nat.add_assoc]; exact hc1 5 (by omega)
      have y6 : wr.cell? ⟨b1, o1 + k * 9 + 6, none⟩ = some (.int .u8 f.value.elem) := by rw [Nat.add_assoc]; exact hc1 6 (by omega)
      have y7 : wr.cell? ⟨b1, o1 + k * 9 + 7, none⟩ = some (.string f.value.key) := by rw [Nat.add_assoc]; exact hc1 7 (by omega)
      have y8 : wr.cell? ⟨b1, o1 + k * 9 + 8, none⟩ = some (.bool f.value.hk) := by rw [Nat.add_assoc]; exact hc1 8 (by omega)
      obtain ⟨S9, hS9⟩ : ∃ S9, S9 = wr.alloc (.cells #[.string f.name, .int .u8 f.value.kind, .int .i64 f.value.n, .string f.value.s, .slice q.la q.ln q.lc, .slice q.fa q.fn q.fc, .int .u8 f.value.elem, .string f.value.key, .bool f.value.hk] 61) := ⟨_, rfl⟩
      have hbS9 : Below wr.heap.size wr S9 := by rw [hS9]; exact (Below.refl _ _).alloc (Nat.le_refl _) _
      have hrS9 : S9.heap[wr.heap.size]? = some (.cells #[.string f.name, .int .u8 f.value.kind, .int .i64 f.value.n, .string f.value.s, .slice q.la q.ln q.lc, .slice q.fa q.fn q.fc, .int .u8 f.value.elem, .string f.value.key, .bool f.value.hk] 61 (0, 0)) := by rw [hS9]; exact heap_alloc_new wr _
      have hzS9 : S9.heap.size = wr.heap.size + 1 := by rw [hS9]; simp
      have t0 : S9.cell? ⟨wr.heap.size, 0, none⟩ = some (.string f.name) := by simp [World.cell?, hrS9]
      have t1 : S9.cell? ⟨wr.heap.size, 1, none⟩ = some (.int .u8 f.value.kind) := by simp [World.cell?, hrS9]
      have t2 : S9.cell? ⟨wr.heap.size, 2, none⟩ = some (.int .i64 f.value.n) := by simp [World.cell?, hrS9]
      have t3 : S9.cell? ⟨wr.heap.size, 3, none⟩ = some (.string f.value.s) := by simp [World.cell?, hrS9]
      have t4 : S9.cell? ⟨wr.heap.size, 4, none⟩ = some (.slice q.la q.ln q.lc) := by simp [World.cell?, hrS9]
      have t5 : S9.cell? ⟨wr.heap.size, 5, none⟩ = some (.slice q.fa q.fn q.fc) := by simp [World.cell?, hrS9]
      have t6 : S9.cell? ⟨wr.heap.size, 6, none⟩ = some (.int .u8 f.value.elem) := by simp [World.cell?, hrS9]
      have t7 : S9.cell? ⟨wr.heap.size, 7, none⟩ = some (.string f.value.key) := by simp [World.cell?, hrS9]
      have t8 : S9.cell? ⟨wr.heap.size, 8, none⟩ = some (.bool f.value.hk) := by simp [World.cell?, hrS9]
      have hWS9 : Hid (S9 = _) := hS9
      replace hrS9 := Lib.hid hrS9
      clear hS9
      have hzw : w.heap.size < wr.heap.size := by have := hX.out; exact (Array.getElem?_eq_some_iff.1 this).1
      have hb9 := Lib.hid (hb.out.trans (hbS9.mono hb.out.size))
      have hb8 := Lib.hid (hbk.trans (hbS9.mono hbk.size))
      have x4' : ∀ d : LowW S9, d.w.cell? ⟨w.heap.size, 4, none⟩ = some (.slice (some ⟨b1, o1, none⟩) fn fc) := fun d => (d.cell (by show w.heap.size < _; omega)).trans ((hbS9.cell (p := ⟨w.heap.size, 4, none⟩) (by show w.heap.size < _; omega)).trans x4)
      have t0' : ∀ d : LowW S9, d.w.cell? ⟨wr.heap.size, 0, none⟩ = some (.string f.name) := fun d => (d.cell (by show wr.heap.size < _; omega)).trans t0
      have z4 := x4' ⟨S9, Below.refl _ _⟩
      have hks := hf1.k0
      have cN : ∀ d : LowW S9, Calls Tryz.prog 150 #[.string f.name] d.w fun e w' => e = .returned (.bool (nameB f.name)) ∧ ∃ d' : LowW S9, w' = d'.w := fun d => (valName_any f.name d.w hks).mono fun e w' h => ⟨h.1, d, h.2⟩
      obtain ⟨xN, hxN⟩ : ∃ y, y = nameB f.name := ⟨_, rfl⟩
      simp only [← hxN] at cN
      replace cN := Lib.hid cN
      replace hxN := Lib.hid hxN
      clear x0 x1 x2 x3 x5 x6 x7 t0 t1 t2 t3 t4 t5 t6 t7 t8 z4 hks hbk
      replace hbS9 := Lib.hid hbS9
      cases xN
      · go_wp2_with (first | (rw [← hWS9.out]))
        refine wp_region_low (by kernel_rfl) (by kernel_rfl) ?_
        repeat (go_big_quiet_step (first | (go_at_call 150; exact cN.out _)))
        refine wpQuiet_nil ?_
        rintro _ ⟨d, rfl⟩
        have hb' := Lib.hid (hb9.out.trans (d.low.mono hb9.out.size))
        have hb7 := Lib.hid (hb8.out.trans (d.low.mono hb8.out.size))
        go_wp2_with fail
        go_ret
        exact ⟨by rw [hV9.out]; rfl, hb'.out⟩
      · rcases Nat.eq_zero_or_pos k with rfl | h0
        · simp only [Nat.zero_mul, Nat.add_zero] at y0 y1 y2 y3 y4 y5 y6 y7 y8
          go_wp2_with (first | (rw [← hWS9.out]))
          refine wp_region_low (by kernel_rfl) (by kernel_rfl) ?_
          repeat (go_big_quiet_step (first | (go_at_call 150; exact cN.out _)))
          refine wpQuiet_nil ?_
          rintro _ ⟨d, rfl⟩
          have hb' := Lib.hid (hb9.out.trans (d.low.mono hb9.out.size))
          have hb7 := Lib.hid (hb8.out.trans (d.low.mono hb8.out.size))
          go_wp2_with fail
          go_roundw
          case rel => exact ⟨0 + 1, hlt9.out, by go_num, hb7.out⟩
          case measure => simp [intOf]; have := hlt9.out; omega
        · obtain ⟨j, rfl⟩ : ∃ j, k = j + 1 := ⟨k - 1, by omega⟩
          obtain ⟨b2, o2, f2, q2, e2, _, hg2, hc2, hf2⟩ := FLs.elem (h.out.kept hb.out) j (by omega)
          obtain ⟨rfl, rfl⟩ : b1 = b2 ∧ o1 = o2 := by injection e2 with e2; injection e2 with e3 e4; exact ⟨e3, e4⟩
          have u0 : ∀ d : LowW S9, d.w.cell? ⟨b1, o1 + j * 9, none⟩ = some (.string f2.name) := fun d => (d.cell (by show b1 < _; omega)).trans ((hbS9.out.cell (p := ⟨b1, o1 + j * 9, none⟩) hbw).trans (hc2 0 (by omega)))
          obtain ⟨xL, hxL⟩ : ∃ y, y = less f2.name f.name := ⟨_, rfl⟩
          have hxL' : Op.bytesLess f2.name.toList f.name.toList = xL := hxL.symm
          replace hxL := Lib.hid hxL
          clear e2 hc2 hf2 hg2
          cases xL
          · go_wp2_with (first | (rw [← hWS9.out]))
            refine wp_region_low (by kernel_rfl) (by kernel_rfl) ?_
            repeat (go_big_quiet_step (first | (go_at_call 150; exact cN.out _)))
            refine wpQuiet_nil ?_
            rintro _ ⟨d, rfl⟩
            have hb' := Lib.hid (hb9.out.trans (d.low.mono hb9.out.size))
            have hb7 := Lib.hid (hb8.out.trans (d.low.mono hb8.out.size))
            go_wp2_with fail
            go_ret
            exact ⟨by rw [hV9.out]; rfl, hb'.out⟩
          · go_wp2_with (first | (rw [← hWS9.out]))
            refine wp_region_low (by kernel_rfl) (by kernel_rfl) ?_
            repeat (go_big_quiet_step (first | (go_at_call 150; exact cN.out _)))
            refine wpQuiet_nil ?_
            rintro _ ⟨d, rfl⟩
            have hb' := Lib.hid (hb9.out.trans (d.low.mono hb9.out.size))
            have hb7 := Lib.hid (hb8.out.trans (d.low.mono hb8.out.size))
            go_wp2_with fail
            go_roundw
            case rel => exact ⟨j + 1 + 1, hlt9.out, by go_num, hb7.out⟩
            case measure => simp [intOf]; have := hlt9.out; omega
    · have hkf : fn = k := by omega
      subst hkf
      replace hbk := Lib.hid hbk
      have hY : wr.heap[w.heap.size]? = some (.cells #[.int .u8 3, .int .i64 n, .string s, .slice la ln lc, .slice fa fn fc, .int .u8 el, .string key, .bool hk] 59 (0, 0)) := hX.out
      have x0 : wr.cell? ⟨w.heap.size, 0, none⟩ = some (.int .u8 3) := by simp [World.cell?, hY]
      have x1 : wr.cell? ⟨w.heap.size, 1, none⟩ = some (.int .i64 n) := by simp [World.cell?, hY]
      have x2 : wr.cell? ⟨w.heap.size, 2, none⟩ = some (.string s) := by simp [World.cell?, hY]
      have x3 : wr.cell? ⟨w.heap.size, 3, none⟩ = some (.slice la ln lc) := by simp [World.cell?, hY]
      have x4 : wr.cell? ⟨w.heap.size, 4, none⟩ = some (.slice fa fn fc) := by simp [World.cell?, hY]
      have x5 : wr.cell? ⟨w.heap.size, 5, none⟩ = some (.int .u8 el) := by simp [World.cell?, hY]
      have x6 : wr.cell? ⟨w.heap.size, 6, none⟩ = some (.string key) := by simp [World.cell?, hY]
      have x7 : wr.cell? ⟨w.heap.size, 7, none⟩ = some (.bool hk) := by simp [World.cell?, hY]
      clear hY
      iterate 47 (first | go_values | go_skip | go_guarded | go_step | go_upon)
      simp only [List.append_eq, List.cons_append, List.nil_append]
      clear x0 x1 x2 x3 x4 x5 x6 x7
      by_cases h1 : el = 0
      case neg =>
        have hv9 : V = false := by rw [hV.out]; unfold plainP restB; simp [h1]
        replace hv9 := Lib.hid hv9
        have hY : wr.heap[w.heap.size]? = some (.cells #[.int .u8 3, .int .i64 n, .string s, .slice la ln lc, .slice fa fn fc, .int .u8 el, .string key, .bool hk] 59 (0, 0)) := hX.out
        have x0 : wr.cell? ⟨w.heap.size, 0, none⟩ = some (.int .u8 3) := by simp [World.cell?, hY]
        have x1 : wr.cell? ⟨w.heap.size, 1, none⟩ = some (.int .i64 n) := by simp [World.cell?, hY]
        have x2 : wr.cell? ⟨w.heap.size, 2, none⟩ = some (.string s) := by simp [World.cell?, hY]
        have x3 : wr.cell? ⟨w.heap.size, 3, none⟩ = some (.slice la ln lc) := by simp [World.cell?, hY]
        have x4 : wr.cell? ⟨w.heap.size, 4, none⟩ = some (.slice fa fn fc) := by simp [World.cell?, hY]
        have x5 : wr.cell? ⟨w.heap.size, 5, none⟩ = some (.int .u8 el) := by simp [World.cell?, hY]
        have x6 : wr.cell? ⟨w.heap.size, 6, none⟩ = some (.string key) := by simp [World.cell?, hY]
        have x7 : wr.cell? ⟨w.heap.size, 7, none⟩ = some (.bool hk) := by simp [World.cell?, hY]
        clear hY
        go_wp2_with fail
        go_ret
        exact ⟨by rw [hv9.out]; rfl, hb.out⟩
      subst h1
      by_cases h2 : 0 < key.size
      case pos =>
        have e2 := ne_empty h2
        have e2' := not_isEmpty h2
        have h2' : ¬ key.size = 0 := by omega
        have h2'' : ¬ key = ByteArray.empty := by rintro rfl; exact absurd h2 (by decide)
        have hv9 : V = false := by rw [hV.out]; unfold plainP restB; simp [h2'']
        replace hv9 := Lib.hid hv9
        have hY : wr.heap[w.heap.size]? = some (.cells #[.int .u8 3, .int .i64 n, .string s, .slice la ln lc, .slice fa fn fc, .int .u8 0, .string key, .bool hk] 59 (0, 0)) := hX.out
        have x0 : wr.cell? ⟨w.heap.size, 0, none⟩ = some (.int .u8 3) := by simp [World.cell?, hY]
        have x1 : wr.cell? ⟨w.heap.size, 1, none⟩ = some (.int .i64 n) := by simp [World.cell?, hY]
        have x2 : wr.cell? ⟨w.heap.size, 2, none⟩ = some (.string s) := by simp [World.cell?, hY]
        have x3 : wr.cell? ⟨w.heap.size, 3, none⟩ = some (.slice la ln lc) := by simp [World.cell?, hY]
        have x4 : wr.cell? ⟨w.heap.size, 4, none⟩ = some (.slice fa fn fc) := by simp [World.cell?, hY]
        have x5 : wr.cell? ⟨w.heap.size, 5, none⟩ = some (.int .u8 0) := by simp [World.cell?, hY]
        have x6 : wr.cell? ⟨w.heap.size, 6, none⟩ = some (.string key) := by simp [World.cell?, hY]
        have x7 : wr.cell? ⟨w.heap.size, 7, none⟩ = some (.bool hk) := by simp [World.cell?, hY]
        clear hY
        go_wp2_with fail
        go_ret
        exact ⟨by rw [hv9.out]; rfl, hb.out⟩
      obtain rfl := size_zero h2
      clear h2
      cases hk
      case true =>
        have hv9 : V = false := by rw [hV.out]; unfold plainP restB; simp []
        replace hv9 := Lib.hid hv9
        have hY : wr.heap[w.heap.size]? = some (.cells #[.int .u8 3, .int .i64 n, .string s, .slice la ln lc, .slice fa fn fc, .int .u8 0, .string ⟨#[]⟩, .bool true] 59 (0, 0)) := hX.out
        have x0 : wr.cell? ⟨w.heap.size, 0, none⟩ = some (.int .u8 3) := by simp [World.cell?, hY]
        have x1 : wr.cell? ⟨w.heap.size, 1, none⟩ = some (.int .i64 n) := by simp [World.cell?, hY]
        have x2 : wr.cell? ⟨w.heap.size, 2, none⟩ = some (.string s) := by simp [World.cell?, hY]
        have x3 : wr.cell? ⟨w.heap.size, 3, none⟩ = some (.slice la ln lc) := by simp [World.cell?, hY]
        have x4 : wr.cell? ⟨w.heap.size, 4, none⟩ = some (.slice fa fn fc) := by simp [World.cell?, hY]
        have x5 : wr.cell? ⟨w.heap.size, 5, none⟩ = some (.int .u8 0) := by simp [World.cell?, hY]
        have x6 : wr.cell? ⟨w.heap.size, 6, none⟩ = some (.string ⟨#[]⟩) := by simp [World.cell?, hY]
        have x7 : wr.cell? ⟨w.heap.size, 7, none⟩ = some (.bool true) := by simp [World.cell?, hY]
        clear hY
        go_wp2_with fail
        go_ret
        exact ⟨by rw [hv9.out]; rfl, hb.out⟩
      by_cases h4 : s.size ≤ 4096
      case neg =>
        have h4' : ¬ (s.size : Int) ≤ 4096 := by omega
        have h4'' : ¬ s = ByteArray.empty := by rintro rfl; exact absurd h4 (by decide)
        have hv9 : V = false := by rw [hV.out]; unfold plainP restB; simp [h4]
        replace hv9 := Lib.hid hv9
        have hY : wr.heap[w.heap.size]? = some (.cells #[.int .u8 3, .int .i64 n, .string s, .slice la ln lc, .slice fa fn fc, .int .u8 0, .string ⟨#[]⟩, .bool false] 59 (0, 0)) := hX.out
        have x0 : wr.cell? ⟨w.heap.size, 0, none⟩ = some (.int .u8 3) := by simp [World.cell?, hY]
        have x1 : wr.cell? ⟨w.heap.size, 1, none⟩ = some (.int .i64 n) := by simp [World.cell?, hY]
        have x2 : wr.cell? ⟨w.heap.size, 2, none⟩ = some (.string s) := by simp [World.cell?, hY]
        have x3 : wr.cell? ⟨w.heap.size, 3, none⟩ = some (.slice la ln lc) := by simp [World.cell?, hY]
        have x4 : wr.cell? ⟨w.heap.size, 4, none⟩ = some (.slice fa fn fc) := by simp [World.cell?, hY]
        have x5 : wr.cell? ⟨w.heap.size, 5, none⟩ = some (.int .u8 0) := by simp [World.cell?, hY]
        have x6 : wr.cell? ⟨w.heap.size, 6, none⟩ = some (.string ⟨#[]⟩) := by simp [World.cell?, hY]
        have x7 : wr.cell? ⟨w.heap.size, 7, none⟩ = some (.bool false) := by simp [World.cell?, hY]
        clear hY
        go_wp2_with fail
        go_ret
        exact ⟨by rw [hv9.out]; rfl, hb.out⟩
      have h4' : (s.size : Int) ≤ 4096 := by omega
      by_cases h5 : n = 0
      · subst h5
        by_cases h6 : 0 < s.size
        · skip
          have e6 := ne_empty h6
          have e6' := not_isEmpty h6
          have h6'' : ¬ s = ByteArray.empty := by rintro rfl; exact absurd h6 (by decide)
          by_cases h7 : ln = 0
          case neg =>
            have hv9 : V = false := by rw [hV.out]; unfold plainP restB; simp [h4, h7]
            replace hv9 := Lib.hid hv9
            have hY : wr.heap[w.heap.size]? = some (.cells #[.int .u8 3, .int .i64 0, .string s, .slice la ln lc, .slice fa fn fc, .int .u8 0, .string ⟨#[]⟩, .bool false] 59 (0, 0)) := hX.out
            have x0 : wr.cell? ⟨w.heap.size, 0, none⟩ = some (.int .u8 3) := by simp [World.cell?, hY]
            have x1 : wr.cell? ⟨w.heap.size, 1, none⟩ = some (.int .i64 0) := by simp [World.cell?, hY]
            have x2 : wr.cell? ⟨w.heap.size, 2, none⟩ = some (.string s) := by simp [World.cell?, hY]
            have x3 : wr.cell? ⟨w.heap.size, 3, none⟩ = some (.slice la ln lc) := by simp [World.cell?, hY]
            have x4 : wr.cell? ⟨w.heap.size, 4, none⟩ = some (.slice fa fn fc) := by simp [World.cell?, hY]
            have x5 : wr.cell? ⟨w.heap.size, 5, none⟩ = some (.int .u8 0) := by simp [World.cell?, hY]
            have x6 : wr.cell? ⟨w.heap.size, 6, none⟩ = some (.string ⟨#[]⟩) := by simp [World.cell?, hY]
            have x7 : wr.cell? ⟨w.heap.size, 7, none⟩ = some (.bool false) := by simp [World.cell?, hY]
            clear hY
            go_wp2_with (go_at_call 152; refine (alone1_any 3 w.heap.size _ _ [_, _] _ (kinds2 _ _ _ _) ((hX.out.alloc _).kind)).mono ?_)
            rintro e w2 ⟨rfl, hW9⟩
            have hXw2 : Hid (Boxed w2 w.heap.size 3 0 s la fa ln lc fn fc 0 ⟨#[]⟩ false) := by rw [hW9]; exact hX.out.alloc _
            have hBw2 : Hid (Below wr.heap.size wr w2) := by rw [hW9]; exact (Below.refl _ _).alloc (Nat.le_refl _) _
            clear hW9
            clear x0 x1 x2 x3 x4 x5 x6 x7
            have hbw2 := Lib.hid (hb.out.trans (hBw2.out.mono hb.out.size))
            have hY : w2.heap[w.heap.size]? = some (.cells #[.int .u8 3, .int .i64 0, .string s, .slice la ln lc, .slice fa fn fc, .int .u8 0, .string ⟨#[]⟩, .bool false] 59 (0, 0)) := hXw2.out
            have x0 : w2.cell? ⟨w.heap.size, 0, none⟩ = some (.int .u8 3) := by simp [World.cell?, hY]
            have x1 : w2.cell? ⟨w.heap.size, 1, none⟩ = some (.int .i64 0) := by simp [World.cell?, hY]
            have x2 : w2.cell? ⟨w.heap.size, 2, none⟩ = some (.string s) := by simp [World.cell?, hY]
            have x3 : w2.cell? ⟨w.heap.size, 3, none⟩ = some (.slice la ln lc) := by simp [World.cell?, hY]
            have x4 : w2.cell? ⟨w.heap.size, 4, none⟩ = some (.slice fa fn fc) := by simp [World.cell?, hY]
            have x5 : w2.cell? ⟨w.heap.size, 5, none⟩ = some (.int .u8 0) := by simp [World.cell?, hY]
            have x6 : w2.cell? ⟨w.heap.size, 6, none⟩ = some (.string ⟨#[]⟩) := by simp [World.cell?, hY]
            have x7 : w2.cell? ⟨w.heap.size, 7, none⟩ = some (.bool false) := by simp [World.cell?, hY]
            clear hY
            go_wp2_with (go_at_call 152; refine (alone1_any 3 w.heap.size _ _ [_] _ (kinds1 _ _ _) ((hXw2.out.alloc _).kind)).mono ?_)
            rintro e w3 ⟨rfl, hW9⟩
            have hXw3 : Hid (Boxed w3 w.heap.size 3 0 s la fa ln lc fn fc 0 ⟨#[]⟩ false) := by rw [hW9]; exact hXw2.out.alloc _
            have hBw3 : Hid (Below w2.heap.size w2 w3) := by rw [hW9]; exact (Below.refl _ _).alloc (Nat.le_refl _) _
            clear hW9
            clear x0 x1 x2 x3 x4 x5 x6 x7
            have hbw3 := Lib.hid (hbw2.out.trans (hBw3.out.mono hbw2.out.size))
            have hY : w3.heap[w.heap.size]? = some (.cells #[.int .u8 3, .int .i64 0, .string s, .slice la ln lc, .slice fa fn fc, .int .u8 0, .string ⟨#[]⟩, .bool false] 59 (0, 0)) := hXw3.out
            have x0 : w3.cell? ⟨w.heap.size, 0, none⟩ = some (.int .u8 3) := by simp [World.cell?, hY]
            have x1 : w3.cell? ⟨w.heap.size, 1, none⟩ = some (.int .i64 0) := by simp [World.cell?, hY]
            have x2 : w3.cell? ⟨w.heap.size, 2, none⟩ = some (.string s) := by simp [World.cell?, hY]
            have x3 : w3.cell? ⟨w.heap.size, 3, none⟩ = some (.slice la ln lc) := by simp [World.cell?, hY]
            have x4 : w3.cell? ⟨w.heap.size, 4, none⟩ = some (.slice fa fn fc) := by simp [World.cell?, hY]
            have x5 : w3.cell? ⟨w.heap.size, 5, none⟩ = some (.int .u8 0) := by simp [World.cell?, hY]
            have x6 : w3.cell? ⟨w.heap.size, 6, none⟩ = some (.string ⟨#[]⟩) := by simp [World.cell?, hY]
            have x7 : w3.cell? ⟨w.heap.size, 7, none⟩ = some (.bool false) := by simp [World.cell?, hY]
            clear hY
            go_wp2_with fail
            go_ret
            exact ⟨by rw [hv9.out]; rfl, hbw3.out⟩
          subst h7
          by_cases h8 : fn = 0
          case neg =>
            have h8i : ¬ (fn : Int) = 0 := by omega
            have h8b : ((fn : Int) == 0) = false := by simp [h8]
            have hv9 : V = false := by rw [hV.out]; unfold plainP restB; simp [h4, h8]
            replace hv9 := Lib.hid hv9
            have hY : wr.heap[w.heap.size]? = some (.cells #[.int .u8 3, .int .i64 0, .string s, .slice la 0 lc, .slice fa fn fc, .int .u8 0, .string ⟨#[]⟩, .bool false] 59 (0, 0)) := hX.out
            have x0 : wr.cell? ⟨w.heap.size, 0, none⟩ = some (.int .u8 3) := by simp [World.cell?, hY]
            have x1 : wr.cell? ⟨w.heap.size, 1, none⟩ = some (.int .i64 0) := by simp [World.cell?, hY]
            have x2 : wr.cell? ⟨w.heap.size, 2, none⟩ = some (.string s) := by simp [World.cell?, hY]
            have x3 : wr.cell? ⟨w.heap.size, 3, none⟩ = some (.slice la 0 lc) := by simp [World.cell?, hY]
            have x4 : wr.cell? ⟨w.heap.size, 4, none⟩ = some (.slice fa fn fc) := by simp [World.cell?, hY]
            have x5 : wr.cell? ⟨w.heap.size, 5, none⟩ = some (.int .u8 0) := by simp [World.cell?, hY]
            have x6 : wr.cell? ⟨w.heap.size, 6, none⟩ = some (.string ⟨#[]⟩) := by simp [World.cell?, hY]
            have x7 : wr.cell? ⟨w.heap.size, 7, none⟩ = some (.bool false) := by simp [World.cell?, hY]
            clear hY
            go_wp2_with (go_at_call 152; refine (alone1_any 3 w.heap.size _ _ [_, _] _ (kinds2 _ _ _ _) ((hX.out.alloc _).kind)).mono ?_)
            rintro e w2 ⟨rfl, hW9⟩
            have hXw2 : Hid (Boxed w2 w.heap.size 3 0 s la fa 0 lc fn fc 0 ⟨#[]⟩ false) := by rw [hW9]; exact hX.out.alloc _
            have hBw2 : Hid (Below wr.heap.size wr w2) := by rw [hW9]; exact (Below.refl _ _).alloc (Nat.le_refl _) _
            clear hW9
            clear x0 x1 x2 x3 x4 x5 x6 x7
            have hbw2 := Lib.hid (hb.out.trans (hBw2.out.mono hb.out.size))
            have hY : w2.heap[w.heap.size]? = some (.cells #[.int .u8 3, .int .i64 0, .string s, .slice la 0 lc, .slice fa fn fc, .int .u8 0, .string ⟨#[]⟩, .bool false] 59 (0, 0)) := hXw2.out
            have x0 : w2.cell? ⟨w.heap.size, 0, none⟩ = some (.int .u8 3) := by simp [World.cell?, hY]
            have x1 : w2.cell? ⟨w.heap.size, 1, none⟩ = some (.int .i64 0) := by simp [World.cell?, hY]
            have x2 : w2.cell? ⟨w.heap.size, 2, none⟩ = some (.string s) := by simp [World.cell?, hY]
            have x3 : w2.cell? ⟨w.heap.size, 3, none⟩ = some (.slice la 0 lc) := by simp [World.cell?, hY]
            have x4 : w2.cell? ⟨w.heap.size, 4, none⟩ = some (.slice fa fn fc) := by simp [World.cell?, hY]
            have x5 : w2.cell? ⟨w.heap.size, 5, none⟩ = some (.int .u8 0) := by simp [World.cell?, hY]
            have x6 : w2.cell? ⟨w.heap.size, 6, none⟩ = some (.string ⟨#[]⟩) := by simp [World.cell?, hY]
            have x7 : w2.cell? ⟨w.heap.size, 7, none⟩ = some (.bool false) := by simp [World.cell?, hY]
            clear hY
            go_wp2_with (go_at_call 152; refine (alone1_any 3 w.heap.size _ _ [_, _] _ (kinds2 _ _ _ _) ((hXw2.out.alloc _).kind)).mono ?_)
            rintro e w3 ⟨rfl, hW9⟩
            have hXw3 : Hid (Boxed w3 w.heap.size 3 0 s la fa 0 lc fn fc 0 ⟨#[]⟩ false) := by rw [hW9]; exact hXw2.out.alloc _
            have hBw3 : Hid (Below w2.heap.size w2 w3) := by rw [hW9]; exact (Below.refl _ _).alloc (Nat.le_refl _) _
            clear hW9
            clear x0 x1 x2 x3 x4 x5 x6 x7
            have hbw3 := Lib.hid (hbw2.out.trans (hBw3.out.mono hbw2.out.size))
            have hY : w3.heap[w.heap.size]? = some (.cells #[.int .u8 3, .int .i64 0, .string s, .slice la 0 lc, .slice fa fn fc, .int .u8 0, .string ⟨#[]⟩, .bool false] 59 (0, 0)) := hXw3.out
            have x0 : w3.cell? ⟨w.heap.size, 0, none⟩ = some (.int .u8 3) := by simp [World.cell?, hY]
            have x1 : w3.cell? ⟨w.heap.size, 1, none⟩ = some (.int .i64 0) := by simp [World.cell?, hY]
            have x2 : w3.cell? ⟨w.heap.size, 2, none⟩ = some (.string s) := by simp [World.cell?, hY]
            have x3 : w3.cell? ⟨w.heap.size, 3, none⟩ = some (.slice la 0 lc) := by simp [World.cell?, hY]
            have x4 : w3.cell? ⟨w.heap.size, 4, none⟩ = some (.slice fa fn fc) := by simp [World.cell?, hY]
            have x5 : w3.cell? ⟨w.heap.size, 5, none⟩ = some (.int .u8 0) := by simp [World.cell?, hY]
            have x6 : w3.cell? ⟨w.heap.size, 6, none⟩ = some (.string ⟨#[]⟩) := by simp [World.cell?, hY]
            have x7 : w3.cell? ⟨w.heap.size, 7, none⟩ = some (.bool false) := by simp [World.cell?, hY]
            clear hY
            go_wp2_with fail
            go_ret
            exact ⟨by rw [hv9.out]; rfl, hbw3.out⟩
          subst h8
          have hv9 : V = true := by rw [hV.out]; unfold plainP restB; simp [h4] <;> first | rfl | decide
          replace hv9 := Lib.hid hv9
          have hY : wr.heap[w.heap.size]? = some (.cells #[.int .u8 3, .int .i64 0, .string s, .slice la 0 lc, .slice fa 0 fc, .int .u8 0, .string ⟨#[]⟩, .bool false] 59 (0, 0)) := hX.out
          have x0 : wr.cell? ⟨w.heap.size, 0, none⟩ = some (.int .u8 3) := by simp [World.cell?, hY]
          have x1 : wr.cell? ⟨w.heap.size, 1, none⟩ = some (.int .i64 0) := by simp [World.cell?, hY]
          have x2 : wr.cell? ⟨w.heap.size, 2, none⟩ = some (.string s) := by simp [World.cell?, hY]
          have x3 : wr.cell? ⟨w.heap.size, 3, none⟩ = some (.slice la 0 lc) := by simp [World.cell?, hY]
          have x4 : wr.cell? ⟨w.heap.size, 4, none⟩ = some (.slice fa 0 fc) := by simp [World.cell?, hY]
          have x5 : wr.cell? ⟨w.heap.size, 5, none⟩ = some (.int .u8 0) := by simp [World.cell?, hY]
          have x6 : wr.cell? ⟨w.heap.size, 6, none⟩ = some (.string ⟨#[]⟩) := by simp [World.cell?, hY]
          have x7 : wr.cell? ⟨w.heap.size, 7, none⟩ = some (.bool false) := by simp [World.cell?, hY]
          clear hY
          go_wp2_with (go_at_call 152; refine (alone1_any 3 w.heap.size _ _ [_, _] _ (kinds2 _ _ _ _) ((hX.out.alloc _).kind)).mono ?_)
          rintro e w2 ⟨rfl, hW9⟩
          have hXw2 : Hid (Boxed w2 w.heap.size 3 0 s la fa 0 lc 0 fc 0 ⟨#[]⟩ false) := by rw [hW9]; exact hX.out.alloc _
          have hBw2 : Hid (Below wr.heap.size wr w2) := by rw [hW9]; exact (Below.refl _ _).alloc (Nat.le_refl _) _
          clear hW9
          clear x0 x1 x2 x3 x4 x5 x6 x7
          have hbw2 := Lib.hid (hb.out.trans (hBw2.out.mono hb.out.size))
          have hY : w2.heap[w.heap.size]? = some (.cells #[.int .u8 3, .int .i64 0, .string s, .slice la 0 lc, .slice fa 0 fc, .int .u8 0, .string ⟨#[]⟩, .bool false] 59 (0, 0)) := hXw2.out
          have x0 : w2.cell? ⟨w.heap.size, 0, none⟩ = some (.int .u8 3) := by simp [World.cell?, hY]
          have x1 : w2.cell? ⟨w.heap.size, 1, none⟩ = some (.int .i64 0) := by simp [World.cell?, hY]
          have x2 : w2.cell? ⟨w.heap.size, 2, none⟩ = some (.string s) := by simp [World.cell?, hY]
          have x3 : w2.cell? ⟨w.heap.size, 3, none⟩ = some (.slice la 0 lc) := by simp [World.cell?, hY]
          have x4 : w2.cell? ⟨w.heap.size, 4, none⟩ = some (.slice fa 0 fc) := by simp [World.cell?, hY]
          have x5 : w2.cell? ⟨w.heap.size, 5, none⟩ = some (.int .u8 0) := by simp [World.cell?, hY]
          have x6 : w2.cell? ⟨w.heap.size, 6, none⟩ = some (.string ⟨#[]⟩) := by simp [World.cell?, hY]
          have x7 : w2.cell? ⟨w.heap.size, 7, none⟩ = some (.bool false) := by simp [World.cell?, hY]
          clear hY
          go_wp2_with fail
          go_ret
          exact ⟨by rw [hv9.out]; rfl, hbw2.out⟩
        · obtain rfl := size_zero h6
          clear h6 h4 h4'
          by_cases h7 : ln = 0
          case neg =>
            have hv9 : V = false := by rw [hV.out]; unfold plainP restB; simp [h7]
            replace hv9 := Lib.hid hv9
            have hY : wr.heap[w.heap.size]? = some (.cells #[.int .u8 3, .int .i64 0, .string ⟨#[]⟩, .slice la ln lc, .slice fa fn fc, .int .u8 0, .string ⟨#[]⟩, .bool false] 59 (0, 0)) := hX.out
            have x0 : wr.cell? ⟨w.heap.size, 0, none⟩ = some (.int .u8 3) := by simp [World.cell?, hY]
            have x1 : wr.cell? ⟨w.heap.size, 1, none⟩ = some (.int .i64 0) := by simp [World.cell?, hY]
            have x2 : wr.cell? ⟨w.heap.size, 2, none⟩ = some (.string ⟨#[]⟩) := by simp [World.cell?, hY]
            have x3 : wr.cell? ⟨w.heap.size, 3, none⟩ = some (.slice la ln lc) := by simp [World.cell?, hY]
            have x4 : wr.cell? ⟨w.heap.size, 4, none⟩ = some (.slice fa fn fc) := by simp [World.cell?, hY]
            have x5 : wr.cell? ⟨w.heap.size, 5, none⟩ = some (.int .u8 0) := by simp [World.cell?, hY]
            have x6 : wr.cell? ⟨w.heap.size, 6, none⟩ = some (.string ⟨#[]⟩) := by simp [World.cell?, hY]
            have x7 : wr.cell? ⟨w.heap.size, 7, none⟩ = some (.bool false) := by simp [World.cell?, hY]
            clear hY
            go_wp2_with (go_at_call 152; refine (alone1_any 3 w.heap.size _ _ [_] _ (kinds1 _ _ _) ((hX.out.alloc _).kind)).mono ?_)
            rintro e w2 ⟨rfl, hW9⟩
            have hXw2 : Hid (Boxed w2 w.heap.size 3 0 ⟨#[]⟩ la fa ln lc fn fc 0 ⟨#[]⟩ false) := by rw [hW9]; exact hX.out.alloc _
            have hBw2 : Hid (Below wr.heap.size wr w2) := by rw [hW9]; exact (Below.refl _ _).alloc (Nat.le_refl _) _
            clear hW9
            clear x0 x1 x2 x3 x4 x5 x6 x7
            have hbw2 := Lib.hid (hb.out.trans (hBw2.out.mono hb.out.size))
            have hY : w2.heap[w.heap.size]? = some (.cells #[.int .u8 3, .int .i64 0, .string ⟨#[]⟩, .slice la ln lc, .slice fa fn fc, .int .u8 0, .string ⟨#[]⟩, .bool false] 59 (0, 0)) := hXw2.out
            have x0 : w2.cell? ⟨w.heap.size, 0, none⟩ = some (.int .u8 3) := by simp [World.cell?, hY]
            have x1 : w2.cell? ⟨w.heap.size, 1, none⟩ = some (.int .i64 0) := by simp [World.cell?, hY]
            have x2 : w2.cell? ⟨w.heap.size, 2, none⟩ = some (.string ⟨#[]⟩) := by simp [World.cell?, hY]
            have x3 : w2.cell? ⟨w.heap.size, 3, none⟩ = some (.slice la ln lc) := by simp [World.cell?, hY]
            have x4 : w2.cell? ⟨w.heap.size, 4, none⟩ = some (.slice fa fn fc) := by simp [World.cell?, hY]
            have x5 : w2.cell? ⟨w.heap.size, 5, none⟩ = some (.int .u8 0) := by simp [World.cell?, hY]
            have x6 : w2.cell? ⟨w.heap.size, 6, none⟩ = some (.string ⟨#[]⟩) := by simp [World.cell?, hY]
            have x7 : w2.cell? ⟨w.heap.size, 7, none⟩ = some (.bool false) := by simp [World.cell?, hY]
            clear hY
            go_wp2_with fail
            go_ret
            exact ⟨by rw [hv9.out]; rfl, hbw2.out⟩
          subst h7
          by_cases h8 : fn = 0
          case neg =>
            have h8i : ¬ (fn : Int) = 0 := by omega
            have h8b : ((fn : Int) == 0) = false := by simp [h8]
            have hv9 : V = false := by rw [hV.out]; unfold plainP restB; simp [h8]
            replace hv9 := Lib.hid hv9
            have hY : wr.heap[w.heap.size]? = some (.cells #[.int .u8 3, .int .i64 0, .string ⟨#[]⟩, .slice la 0 lc, .slice fa fn fc, .int .u8 0, .string ⟨#[]⟩, .bool false] 59 (0, 0)) := hX.out
            have x0 : wr.cell? ⟨w.heap.size, 0, none⟩ = some (.int .u8 3) := by simp [World.cell?, hY]
            have x1 : wr.cell? ⟨w.heap.size, 1, none⟩ = some (.int .i64 0) := by simp [World.cell?, hY]
            have x2 : wr.cell? ⟨w.heap.size, 2, none⟩ = some (.string ⟨#[]⟩) := by simp [World.cell?, hY]
            have x3 : wr.cell? ⟨w.heap.size, 3, none⟩ = some (.slice la 0 lc) := by simp [World.cell?, hY]
            have x4 : wr.cell? ⟨w.heap.size, 4, none⟩ = some (.slice fa fn fc) := by simp [World.cell?, hY]
            have x5 : wr.cell? ⟨w.heap.size, 5, none⟩ = some (.int .u8 0) := by simp [World.cell?, hY]
            have x6 : wr.cell? ⟨w.heap.size, 6, none⟩ = some (.string ⟨#[]⟩) := by simp [World.cell?, hY]
            have x7 : wr.cell? ⟨w.heap.size, 7, none⟩ = some (.bool false) := by simp [World.cell?, hY]
            clear hY
            go_wp2_with (go_at_call 152; refine (alone1_any 3 w.heap.size _ _ [_, _] _ (kinds2 _ _ _ _) ((hX.out.alloc _).kind)).mono ?_)
            rintro e w2 ⟨rfl, hW9⟩
            have hXw2 : Hid (Boxed w2 w.heap.size 3 0 ⟨#[]⟩ la fa 0 lc fn fc 0 ⟨#[]⟩ false) := by rw [hW9]; exact hX.out.alloc _
            have hBw2 : Hid (Below wr.heap.size wr w2) := by rw [hW9]; exact (Below.refl _ _).alloc (Nat.le_refl _) _
            clear hW9
            clear x0 x1 x2 x3 x4 x5 x6 x7
            have hbw2 := Lib.hid (hb.out.trans (hBw2.out.mono hb.out.size))
            have hY : w2.heap[w.heap.size]? = some (.cells #[.int .u8 3, .int .i64 0, .string ⟨#[]⟩, .slice la 0 lc, .slice fa fn fc, .int .u8 0, .string ⟨#[]⟩, .bool false] 59 (0, 0)) := hXw2.out
            have x0 : w2.cell? ⟨w.heap.size, 0, none⟩ = some (.int .u8 3) := by simp [World.cell?, hY]
            have x1 : w2.cell? ⟨w.heap.size, 1, none⟩ = some (.int .i64 0) := by simp [World.cell?, hY]
            have x2 : w2.cell? ⟨w.heap.size, 2, none⟩ = some (.string ⟨#[]⟩) := by simp [World.cell?, hY]
            have x3 : w2.cell? ⟨w.heap.size, 3, none⟩ = some (.slice la 0 lc) := by simp [World.cell?, hY]
            have x4 : w2.cell? ⟨w.heap.size, 4, none⟩ = some (.slice fa fn fc) := by simp [World.cell?, hY]
            have x5 : w2.cell? ⟨w.heap.size, 5, none⟩ = some (.int .u8 0) := by simp [World.cell?, hY]
            have x6 : w2.cell? ⟨w.heap.size, 6, none⟩ = some (.string ⟨#[]⟩) := by simp [World.cell?, hY]
            have x7 : w2.cell? ⟨w.heap.size, 7, none⟩ = some (.bool false) := by simp [World.cell?, hY]
            clear hY
            go_wp2_with fail
            go_ret
            exact ⟨by rw [hv9.out]; rfl, hbw2.out⟩
          subst h8
          have hv9 : V = true := by rw [hV.out]; unfold plainP restB; simp [] <;> first | rfl | decide
          replace hv9 := Lib.hid hv9
          have hY : wr.heap[w.heap.size]? = some (.cells #[.int .u8 3, .int .i64 0, .string ⟨#[]⟩, .slice la 0 lc, .slice fa 0 fc, .int .u8 0, .string ⟨#[]⟩, .bool false] 59 (0, 0)) := hX.out
          have x0 : wr.cell? ⟨w.heap.size, 0, none⟩ = some (.int .u8 3) := by simp [World.cell?, hY]
          have x1 : wr.cell? ⟨w.heap.size, 1, none⟩ = some (.int .i64 0) := by simp [World.cell?, hY]
          have x2 : wr.cell? ⟨w.heap.size, 2, none⟩ = some (.string ⟨#[]⟩) := by simp [World.cell?, hY]
          have x3 : wr.cell? ⟨w.heap.size, 3, none⟩ = some (.slice la 0 lc) := by simp [World.cell?, hY]
          have x4 : wr.cell? ⟨w.heap.size, 4, none⟩ = some (.slice fa 0 fc) := by simp [World.cell?, hY]
          have x5 : wr.cell? ⟨w.heap.size, 5, none⟩ = some (.int .u8 0) := by simp [World.cell?, hY]
          have x6 : wr.cell? ⟨w.heap.size, 6, none⟩ = some (.string ⟨#[]⟩) := by simp [World.cell?, hY]
          have x7 : wr.cell? ⟨w.heap.size, 7, none⟩ = some (.bool false) := by simp [World.cell?, hY]
          clear hY
          go_wp2_with fail
          go_ret
          exact ⟨by rw [hv9.out]; rfl, hb.out⟩
      · skip
        have hv9 : V = false := by rw [hV.out]; unfold plainP restB; simp [h5]
        replace hv9 := Lib.hid hv9
        have hY : wr.heap[w.heap.size]? = some (.cells #[.int .u8 3, .int .i64 n, .string s, .slice la ln lc, .slice fa fn fc, .int .u8 0, .string ⟨#[]⟩, .bool false] 59 (0, 0)) := hX.out
        have x0 : wr.cell? ⟨w.heap.size, 0, none⟩ = some (.int .u8 3) := by simp [World.cell?, hY]
        have x1 : wr.cell? ⟨w.heap.size, 1, none⟩ = some (.int .i64 n) := by simp [World.cell?, hY]
        have x2 : wr.cell? ⟨w.heap.size, 2, none⟩ = some (.string s) := by simp [World.cell?, hY]
        have x3 : wr.cell? ⟨w.heap.size, 3, none⟩ = some (.slice la ln lc) := by simp [World.cell?, hY]
        have x4 : wr.cell? ⟨w.heap.size, 4, none⟩ = some (.slice fa fn fc) := by simp [World.cell?, hY]
        have x5 : wr.cell? ⟨w.heap.size, 5, none⟩ = some (.int .u8 0) := by simp [World.cell?, hY]
        have x6 : wr.cell? ⟨w.heap.size, 6, none⟩ = some (.string ⟨#[]⟩) := by simp [World.cell?, hY]
        have x7 : wr.cell? ⟨w.heap.size, 7, none⟩ = some (.bool false) := by simp [World.cell?, hY]
        clear hY
        go_wp2_with (go_at_call 152; refine (alone1_any 3 w.heap.size _ _ [_, _] _ (kinds2 _ _ _ _) ((hX.out.alloc _).kind)).mono ?_)
        rintro e w2 ⟨rfl, hW9⟩
        have hXw2 : Hid (Boxed w2 w.heap.size 3 n s la fa ln lc fn fc 0 ⟨#[]⟩ false) := by rw [hW9]; exact hX.out.alloc _
        have hBw2 : Hid (Below wr.heap.size wr w2) := by rw [hW9]; exact (Below.refl _ _).alloc (Nat.le_refl _) _
        clear hW9
        clear x0 x1 x2 x3 x4 x5 x6 x7
        have hbw2 := Lib.hid (hb.out.trans (hBw2.out.mono hb.out.size))
        have hY : w2.heap[w.heap.size]? = some (.cells #[.int .u8 3, .int .i64 n, .string s, .slice la ln lc, .slice fa fn fc, .int .u8 0, .string ⟨#[]⟩, .bool false] 59 (0, 0)) := hXw2.out
        have x0 : w2.cell? ⟨w.heap.size, 0, none⟩ = some (.int .u8 3) := by simp [World.cell?, hY]
        have x1 : w2.cell? ⟨w.heap.size, 1, none⟩ = some (.int .i64 n) := by simp [World.cell?, hY]
        have x2 : w2.cell? ⟨w.heap.size, 2, none⟩ = some (.string s) := by simp [World.cell?, hY]
        have x3 : w2.cell? ⟨w.heap.size, 3, none⟩ = some (.slice la ln lc) := by simp [World.cell?, hY]
        have x4 : w2.cell? ⟨w.heap.size, 4, none⟩ = some (.slice fa fn fc) := by simp [World.cell?, hY]
        have x5 : w2.cell? ⟨w.heap.size, 5, none⟩ = some (.int .u8 0) := by simp [World.cell?, hY]
        have x6 : w2.cell? ⟨w.heap.size, 6, none⟩ = some (.string ⟨#[]⟩) := by simp [World.cell?, hY]
        have x7 : w2.cell? ⟨w.heap.size, 7, none⟩ = some (.bool false) := by simp [World.cell?, hY]
        clear hY
        go_wp2_with (go_at_call 152; refine (alone1_any 3 w.heap.size _ _ [_] _ (kinds1 _ _ _) ((hXw2.out.alloc _).kind)).mono ?_)
        rintro e w3 ⟨rfl, hW9⟩
        have hXw3 : Hid (Boxed w3 w.heap.size 3 n s la fa ln lc fn fc 0 ⟨#[]⟩ false) := by rw [hW9]; exact hXw2.out.alloc _
        have hBw3 : Hid (Below w2.heap.size w2 w3) := by rw [hW9]; exact (Below.refl _ _).alloc (Nat.le_refl _) _
        clear hW9
        clear x0 x1 x2 x3 x4 x5 x6 x7
        have hbw3 := Lib.hid (hbw2.out.trans (hBw3.out.mono hbw2.out.size))
        have hY : w3.heap[w.heap.size]? = some (.cells #[.int .u8 3, .int .i64 n, .string s, .slice la ln lc, .slice fa fn fc, .int .u8 0, .string ⟨#[]⟩, .bool false] 59 (0, 0)) := hXw3.out
        have x0 : w3.cell? ⟨w.heap.size, 0, none⟩ = some (.int .u8 3) := by simp [World.cell?, hY]
        have x1 : w3.cell? ⟨w.heap.size, 1, none⟩ = some (.int .i64 n) := by simp [World.cell?, hY]
        have x2 : w3.cell? ⟨w.heap.size, 2, none⟩ = some (.string s) := by simp [World.cell?, hY]
        have x3 : w3.cell? ⟨w.heap.size, 3, none⟩ = some (.slice la ln lc) := by simp [World.cell?, hY]
        have x4 : w3.cell? ⟨w.heap.size, 4, none⟩ = some (.slice fa fn fc) := by simp [World.cell?, hY]
        have x5 : w3.cell? ⟨w.heap.size, 5, none⟩ = some (.int .u8 0) := by simp [World.cell?, hY]
        have x6 : w3.cell? ⟨w.heap.size, 6, none⟩ = some (.string ⟨#[]⟩) := by simp [World.cell?, hY]
        have x7 : w3.cell? ⟨w.heap.size, 7, none⟩ = some (.bool false) := by simp [World.cell?, hY]
        clear hY
        go_wp2_with fail
        go_ret
        exact ⟨by rw [hv9.out]; rfl, hbw3.out⟩
end Go.Proofs.YtehcbicngbibgaaGreatDoor
