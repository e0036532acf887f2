/- The Book's lookValue: every list of the kind is what it is to be. (By XGl.gen.py.) -/
import Derived.Test.YtehcbicngbibgaaGreatDoorZGb
namespace Go.Proofs.YtehcbicngbibgaaGreatDoor
open Go Go.RowKit
set_option maxHeartbeats 8000000 in
set_option maxRecDepth 100000 in
theorem lookValue_any (base B : Nat) (hv : Value) (L : List Ent) (w : World) (hE : Env w) (hc : w.cell? ⟨B, 3, none⟩ = some hv) (hB : B < w.heap.size) (hL : L.length ≤ 1073741824) (hh : w.ownsRow base 102 3 hv L.length (hcells L))
    (hr : ∀ x ∈ L, w.ownsRow base 59 8 x.v x.n (marks mkValue x.i x.n) ∧ w.ownsRow base 59 8 x.u (x.n + 40) (marks mkValue x.i (x.n + 40)) ∧ x.i ≤ 1073741824 ∧ x.n ≤ 1073741824) :
    Calls Tryz.prog 63 #[.pointer (some ⟨B, 0, none⟩)] w fun e w' => e = .returned (.bool true) ∧ Below w.heap.size w w' := by
  obtain ⟨ah, ch, rfl⟩ := row_shape hh
  obtain ⟨N, hN⟩ : ∃ N, N = L.length := ⟨_, rfl⟩
  rw [← hN] at hh hL hc
  replace hE := Lib.hid hE
  replace hh := Lib.hid hh
  replace hr := Lib.hid hr
  replace hN := Lib.hid hN
  go_enter Tryz.func63, Tryz.ntmps63
  go_wp2_with fail
  go_loopw [3] (fun i wr => ∃ k : Nat, k ≤ N ∧ i = .int .i64 (k : Nat) ∧ Below w.heap.size w wr) (fun i _ => N - (intOf i).toNat)
  case atStart => exact ⟨0, Nat.zero_le _, rfl, Below.refl _ _⟩
  case round =>
    obtain ⟨k, hk, rfl, hbq⟩ := hrel
    obtain ⟨wq, hwq⟩ : ∃ wq : World, wq = wr := ⟨_, rfl⟩
    subst hwq
    have hcq : wq.cell? ⟨B, 3, none⟩ = some (.slice ah N ch) := (hbq.cell (p := ⟨B, 3, none⟩) hB).trans hc
    have hzq := hbq.size
    by_cases hlt : k < N
    · have hlt9 : Hid (k + 1 ≤ N) := hlt
      have hkL : k < L.length := by rw [← hN.out]; exact hlt
      obtain ⟨x, hx⟩ : ∃ x, L[k]? = some x := ⟨_, List.getElem?_eq_getElem hkL⟩
      have hhq : wq.ownsRow base 102 3 (.slice ah N ch) N (hcells L) := own_same hh.out (fun b hb => hbq.block b (hh.out.lt b hb).2)
      obtain ⟨H0, c0, e0, _, _⟩ := hhq.form (by omega)
      obtain ⟨rfl, rfl⟩ : ah = some ⟨H0, 0, none⟩ ∧ ch = c0 := by simp at e0; exact ⟨e0.1, e0.2⟩
      obtain ⟨y0, y1, y2⟩ := hcells_at hx
      have z0 : wq.cell? ⟨H0, k * 3, none⟩ = some x.v := (hhq.cellAt (k * 3) (by omega)).trans y0
      have z1 : wq.cell? ⟨H0, k * 3 + 1, none⟩ = some x.u := (hhq.cellAt (k * 3 + 1) (by omega)).trans y1
      have z2 : wq.cell? ⟨H0, k * 3 + 2, none⟩ = some (.int .i64 (x.i : Nat)) := (hhq.cellAt (k * 3 + 2) (by omega)).trans y2
      obtain ⟨hv1, hu1, hxi, hxn⟩ := hr.out x (List.mem_of_getElem? hx)
      have hvq := own_same (w' := wq) hv1 (fun b hb => hbq.block b (hv1.lt b hb).2)
      have huq := own_same (w' := wq) hu1 (fun b hb => hbq.block b (hu1.lt b hb).2)
      obtain ⟨xv, xn, xi, xu⟩ := x
      obtain ⟨av, cv, hv9⟩ : ∃ av cv, xv = .slice av xn cv := row_shape hvq
      subst hv9
      obtain ⟨au, cu, hu9⟩ : ∃ au cu, xu = .slice au (xn + 40) cu := row_shape huq
      subst hu9
      replace hvq : wq.ownsRow base 59 8 (.slice av xn cv) xn (marks mkValue xi xn) := hvq
      replace huq : wq.ownsRow base 59 8 (.slice au (xn + 40) cu) (xn + 40) (marks mkValue xi (xn + 40)) := huq
      obtain ⟨g, cg, e1, _, hgl⟩ := huq.form (by omega)
      obtain ⟨rfl, rfl⟩ : au = some ⟨g, 0, none⟩ ∧ cu = cg := by simp at e1; exact ⟨e1.1, e1.2⟩
      replace z0 : wq.cell? ⟨H0, k * 3, none⟩ = some (.slice av xn cv) := z0
      replace z1 : wq.cell? ⟨H0, k * 3 + 1, none⟩ = some (.slice (some ⟨g, 0, none⟩) (xn + 40) cu) := z1
      replace z2 : wq.cell? ⟨H0, k * 3 + 2, none⟩ = some (.int .i64 (xi : Nat)) := z2
      replace hxi : xi ≤ 1073741824 := hxi
      replace hxn : xn ≤ 1073741824 := hxn
      obtain ⟨S, hS⟩ : ∃ S, S = wq.alloc (.cells #[.slice av xn cv, .slice (some ⟨g, 0, none⟩) (xn + 40) cu, .int .i64 (xi : Nat)] 102) := ⟨_, rfl⟩
      have hbS : Below wq.heap.size wq S := by rw [hS]; exact (Below.refl _ _).alloc (Nat.le_refl _) _
      have hzS : S.heap.size = wq.heap.size + 1 := by rw [hS]; simp
      have hrS : S.heap[wq.heap.size]? = some (.cells #[.slice av xn cv, .slice (some ⟨g, 0, none⟩) (xn + 40) cu, .int .i64 (xi : Nat)] 102 (0, 0)) := by rw [hS]; exact heap_alloc_new wq _
      have t0 : S.cell? ⟨wq.heap.size, 0, none⟩ = some (.slice av xn cv) := by simp [World.cell?, hrS]
      have t1 : S.cell? ⟨wq.heap.size, 1, none⟩ = some (.slice (some ⟨g, 0, none⟩) (xn + 40) cu) := by simp [World.cell?, hrS]
      have t2 : S.cell? ⟨wq.heap.size, 2, none⟩ = some (.int .i64 (xi : Nat)) := by simp [World.cell?, hrS]
      have hvS := Lib.hid (own_same (w' := S) hvq (fun b hb => hbS.block b (hvq.lt b hb).2))
      have huS := Lib.hid (own_same (w' := S) huq (fun b hb => hbS.block b (huq.lt b hb).2))
      have hES : Hid (Env S) := hE.out.kept (hbq.trans (hbS.mono (by omega)))
      have hbS9 : Hid (Below w.heap.size w S) := hbq.trans (hbS.mono (by omega))
      have hlen : (((xn + 40 : Nat) : Int) == ((xn : Nat) : Int) + 40) = true := by simp
      have hlen2 : (((xn + 40 : Nat) : Int) != ((xn : Nat) : Int) + 40) = false := by simp
      replace hx := Lib.hid hx
      replace hbq := Lib.hid hbq
      replace hbS := Lib.hid hbS
      replace hS := Lib.hid hS
      replace hhq := Lib.hid hhq
      replace hrS := Lib.hid hrS
      clear hv1 hu1 hvq huq y0 y1 y2 e0 e1
      go_wp2_with (first | (rw [← hS.out]))
      go_loopw [5] (fun i wy => ∃ m : Nat, m ≤ xn + 40 ∧ i = .int .i64 (m : Nat) ∧ Below w.heap.size w wy ∧ Below S.heap.size S wy) (fun i _ => (xn + 40) - (intOf i).toNat)
      case atStart => exact ⟨0, Nat.zero_le _, rfl, hbS9.out, Below.refl _ _⟩
      case round =>
        obtain ⟨m, hm9, rfl, hby, hbSy⟩ := hrel
        obtain ⟨wy, hwy⟩ : ∃ wy : World, wy = wr := ⟨_, rfl⟩
        subst hwy
        have hzy := hbSy.size
        have u0 := (hbSy.cell (p := ⟨wq.heap.size, 0, none⟩) (by show wq.heap.size < _; omega)).trans t0
        have u1 := (hbSy.cell (p := ⟨wq.heap.size, 1, none⟩) (by show wq.heap.size < _; omega)).trans t1
        have u2 := (hbSy.cell (p := ⟨wq.heap.size, 2, none⟩) (by show wq.heap.size < _; omega)).trans t2
        clear z0 z1 z2 t0 t1 t2 hcq
        by_cases hmt : m < xn + 40
        · have hmt9 : Hid (m + 1 ≤ xn + 40) := hmt
          have huy := own_same (w' := wy) huS.out (fun b hb => hbSy.block b (huS.out.lt b hb).2)
          have hvy := own_same (w' := wy) hvS.out (fun b hb => hbSy.block b (hvS.out.lt b hb).2)
          have hEy : Env wy := hES.out.kept hbSy
          have cI : Hid (∀ d : LowW wy, Calls Tryz.prog 114 #[.agg #[.int .u8 0, .int .i64 0, .string (wordB xi), .slice none 0 0, .slice none 0 0, .int .u8 0, .string ⟨#[]⟩, .bool false], .int .i64 (xi : Nat)] d.w fun e w' => e = .returned (.bool true) ∧ ∃ d' : LowW wy, w' = d'.w) := fun d => (isValue_any xi hxi d.w (hEy.kept d.low)).mono fun e w' h => ⟨h.1, d.more h.2⟩
          have u0' : ∀ d : LowW wy, d.w.cell? ⟨wq.heap.size, 0, none⟩ = some (.slice av xn cv) := fun d => (d.cell (by show wq.heap.size < _; omega)).trans u0
          have u1' : ∀ d : LowW wy, d.w.cell? ⟨wq.heap.size, 1, none⟩ = some (.slice (some ⟨g, 0, none⟩) (xn + 40) cu) := fun d => (d.cell (by show wq.heap.size < _; omega)).trans u1
          have u2' : ∀ d : LowW wy, d.w.cell? ⟨wq.heap.size, 2, none⟩ = some (.int .i64 (xi : Nat)) := fun d => (d.cell (by show wq.heap.size < _; omega)).trans u2
          have hgy := (huy.lt g rfl).2
          have r0 : ∀ d : LowW wy, d.w.cell? ⟨g, m * 8, none⟩ = some (.int .u8 0) := fun d => (d.cell (p := ⟨g, m * 8, none⟩) hgy).trans ((huy.cellAt (m * 8) (by omega)).trans (marks_at mklenValue xi (xn + 40) m hmt 0 (by omega)))
          have r1 : ∀ d : LowW wy, d.w.cell? ⟨g, m * 8 + 1, none⟩ = some (.int .i64 0) := fun d => (d.cell (p := ⟨g, m * 8 + 1, none⟩) hgy).trans ((huy.cellAt (m * 8 + 1) (by omega)).trans (marks_at mklenValue xi (xn + 40) m hmt 1 (by omega)))
          have r2 : ∀ d : LowW wy, d.w.cell? ⟨g, m * 8 + 2, none⟩ = some (.string (wordB xi)) := fun d => (d.cell (p := ⟨g, m * 8 + 2, none⟩) hgy).trans ((huy.cellAt (m * 8 + 2) (by omega)).trans (marks_at mklenValue xi (xn + 40) m hmt 2 (by omega)))
          have r3 : ∀ d : LowW wy, d.w.cell? ⟨g, m * 8 + 3, none⟩ = some (.slice none 0 0) := fun d => (d.cell (p := ⟨g, m * 8 + 3, none⟩) hgy).trans ((huy.cellAt (m * 8 + 3) (by omega)).trans (marks_at mklenValue xi (xn + 40) m hmt 3 (by omega)))
          have r4 : ∀ d : LowW wy, d.w.cell? ⟨g, m * 8 + 4, none⟩ = some (.slice none 0 0) := fun d => (d.cell (p := ⟨g, m * 8 + 4, none⟩) hgy).trans ((huy.cellAt (m * 8 + 4) (by omega)).trans (marks_at mklenValue xi (xn + 40) m hmt 4 (by omega)))
          have r5 : ∀ d : LowW wy, d.w.cell? ⟨g, m * 8 + 5, none⟩ = some (.int .u8 0) := fun d => (d.cell (p := ⟨g, m * 8 + 5, none⟩) hgy).trans ((huy.cellAt (m * 8 + 5) (by omega)).trans (marks_at mklenValue xi (xn + 40) m hmt 5 (by omega)))
          have r6 : ∀ d : LowW wy, d.w.cell? ⟨g, m * 8 + 6, none⟩ = some (.string ⟨#[]⟩) := fun d => (d.cell (p := ⟨g, m * 8 + 6, none⟩) hgy).trans ((huy.cellAt (m * 8 + 6) (by omega)).trans (marks_at mklenValue xi (xn + 40) m hmt 6 (by omega)))
          have r7 : ∀ d : LowW wy, d.w.cell? ⟨g, m * 8 + 7, none⟩ = some (.bool false) := fun d => (d.cell (p := ⟨g, m * 8 + 7, none⟩) hgy).trans ((huy.cellAt (m * 8 + 7) (by omega)).trans (marks_at mklenValue xi (xn + 40) m hmt 7 (by omega)))
          replace hES := Lib.hid hES
          replace hEy := Lib.hid hEy
          replace hby := Lib.hid hby
          replace hbSy := Lib.hid hbSy
          replace huy := Lib.hid huy
          by_cases hmx : m < xn
          · obtain ⟨g2, cg2, e2, _, _⟩ := hvy.form (by omega)
            obtain ⟨rfl, rfl⟩ : av = some ⟨g2, 0, none⟩ ∧ cv = cg2 := by simp at e2; exact ⟨e2.1, e2.2⟩
            have hgy2 := (hvy.lt g2 rfl).2
            have s0 : ∀ d : LowW wy, d.w.cell? ⟨g2, m * 8, none⟩ = some (.int .u8 0) := fun d => (d.cell (p := ⟨g2, m * 8, none⟩) hgy2).trans ((hvy.cellAt (m * 8) (by omega)).trans (marks_at mklenValue xi xn m hmx 0 (by omega)))
            have s1 : ∀ d : LowW wy, d.w.cell? ⟨g2, m * 8 + 1, none⟩ = some (.int .i64 0) := fun d => (d.cell (p := ⟨g2, m * 8 + 1, none⟩) hgy2).trans ((hvy.cellAt (m * 8 + 1) (by omega)).trans (marks_at mklenValue xi xn m hmx 1 (by omega)))
            have s2 : ∀ d : LowW wy, d.w.cell? ⟨g2, m * 8 + 2, none⟩ = some (.string (wordB xi)) := fun d => (d.cell (p := ⟨g2, m * 8 + 2, none⟩) hgy2).trans ((hvy.cellAt (m * 8 + 2) (by omega)).trans (marks_at mklenValue xi xn m hmx 2 (by omega)))
            have s3 : ∀ d : LowW wy, d.w.cell? ⟨g2, m * 8 + 3, none⟩ = some (.slice none 0 0) := fun d => (d.cell (p := ⟨g2, m * 8 + 3, none⟩) hgy2).trans ((hvy.cellAt (m * 8 + 3) (by omega)).trans (marks_at mklenValue xi xn m hmx 3 (by omega)))
            have s4 : ∀ d : LowW wy, d.w.cell? ⟨g2, m * 8 + 4, none⟩ = some (.slice none 0 0) := fun d => (d.cell (p := ⟨g2, m * 8 + 4, none⟩) hgy2).trans ((hvy.cellAt (m * 8 + 4) (by omega)).trans (marks_at mklenValue xi xn m hmx 4 (by omega)))
            have s5 : ∀ d : LowW wy, d.w.cell? ⟨g2, m * 8 + 5, none⟩ = some (.int .u8 0) := fun d => (d.cell (p := ⟨g2, m * 8 + 5, none⟩) hgy2).trans ((hvy.cellAt (m * 8 + 5) (by omega)).trans (marks_at mklenValue xi xn m hmx 5 (by omega)))
            have s6 : ∀ d : LowW wy, d.w.cell? ⟨g2, m * 8 + 6, none⟩ = some (.string ⟨#[]⟩) := fun d => (d.cell (p := ⟨g2, m * 8 + 6, none⟩) hgy2).trans ((hvy.cellAt (m * 8 + 6) (by omega)).trans (marks_at mklenValue xi xn m hmx 6 (by omega)))
            have s7 : ∀ d : LowW wy, d.w.cell? ⟨g2, m * 8 + 7, none⟩ = some (.bool false) := fun d => (d.cell (p := ⟨g2, m * 8 + 7, none⟩) hgy2).trans ((hvy.cellAt (m * 8 + 7) (by omega)).trans (marks_at mklenValue xi xn m hmx 7 (by omega)))
            replace hvy := Lib.hid hvy
            clear e2
            go_wp2_with fail
            clear u0 u1 u2
            refine wp_region_low (by kernel_rfl) (by kernel_rfl) ?_
            repeat (go_big_quiet_step (first | (go_at_call 114; exact cI.out _)))
            refine wpQuiet_nil ?_
            rintro _ ⟨d, rfl⟩
            have hb9 := Lib.hid (hby.out.trans (d.low.mono (by omega)))
            have hb8 := Lib.hid (hbSy.out.trans (d.low.mono (by omega)))
            go_wp2_with fail
            go_roundw
            case rel => exact ⟨m + 1, hmt9.out, by go_num, hb9.out, hb8.out⟩
            case measure => simp [intOf]; have := hmt9.out; omega
          · replace hvy := Lib.hid hvy
            go_wp2_with fail
            clear u0 u1 u2
            refine wp_region_low (by kernel_rfl) (by kernel_rfl) ?_
            repeat (go_big_quiet_step (first | (go_at_call 114; exact cI.out _)))
            refine wpQuiet_nil ?_
            rintro _ ⟨d, rfl⟩
            have hb9 := Lib.hid (hby.out.trans (d.low.mono (by omega)))
            have hb8 := Lib.hid (hbSy.out.trans (d.low.mono (by omega)))
            go_wp2_with fail
            go_roundw
            case rel => exact ⟨m + 1, hmt9.out, by go_num, hb9.out, hb8.out⟩
            case measure => simp [intOf]; have := hmt9.out; omega
        · replace hby := Lib.hid hby
          replace hbSy := Lib.hid hbSy
          go_wp2_with fail
          go_roundw
          case rel => exact ⟨k + 1, hlt9.out, by go_num, hby.out⟩
          case measure => simp [intOf]; have := hlt9.out; omega
    · replace hbq := Lib.hid hbq
      go_wp2_with fail
      go_ret
      exact ⟨rfl, hbq.out⟩
end Go.Proofs.YtehcbicngbibgaaGreatDoor

/- The Book's lookField: every list of the kind is what it is to be. (By XGl.gen.py.) -/
namespace Go.Proofs.YtehcbicngbibgaaGreatDoor
open Go Go.RowKit
set_option maxHeartbeats 8000000 in
set_option maxRecDepth 100000 in
theorem lookField_any (base B : Nat) (hv : Value) (L : List Ent) (w : World) (hE : Env w) (hc : w.cell? ⟨B, 4, none⟩ = some hv) (hB : B < w.heap.size) (hL : L.length ≤ 1073741824) (hh : w.ownsRow base 105 3 hv L.length (hcells L))
    (hr : ∀ x ∈ L, w.ownsRow base 61 9 x.v x.n (marks mkField x.i x.n) ∧ w.ownsRow base 61 9 x.u (x.n + 40) (marks mkField x.i (x.n + 40)) ∧ x.i ≤ 1073741824 ∧ x.n ≤ 1073741824) :
    Calls Tryz.prog 64 #[.pointer (some ⟨B, 0, none⟩)] w fun e w' => e = .returned (.bool true) ∧ Below w.heap.size w w' := by
  obtain ⟨ah, ch, rfl⟩ := row_shape hh
  obtain ⟨N, hN⟩ : ∃ N, N = L.length := ⟨_, rfl⟩
  rw [← hN] at hh hL hc
  replace hE := Lib.hid hE
  replace hh := Lib.hid hh
  replace hr := Lib.hid hr
  replace hN := Lib.hid hN
  go_enter Tryz.func64, Tryz.ntmps64
  go_wp2_with fail
  go_loopw [3] (fun i wr => ∃ k : Nat, k ≤ N ∧ i = .int .i64 (k : Nat) ∧ Below w.heap.size w wr) (fun i _ => N - (intOf i).toNat)
  case atStart => exact ⟨0, Nat.zero_le _, rfl, Below.refl _ _⟩
  case round =>
    obtain ⟨k, hk, rfl, hbq⟩ := hrel
    obtain ⟨wq, hwq⟩ : ∃ wq : World, wq = wr := ⟨_, rfl⟩
    subst hwq
    have hcq : wq.cell? ⟨B, 4, none⟩ = some (.slice ah N ch) := (hbq.cell (p := ⟨B, 4, none⟩) hB).trans hc
    have hzq := hbq.size
    by_cases hlt : k < N
    · have hlt9 : Hid (k + 1 ≤ N) := hlt
      have hkL : k < L.length := by rw [← hN.out]; exact hlt
      obtain ⟨x, hx⟩ : ∃ x, L[k]? = some x := ⟨_, List.getElem?_eq_getElem hkL⟩
      have hhq : wq.ownsRow base 105 3 (.slice ah N ch) N (hcells L) := own_same hh.out (fun b hb => hbq.block b (hh.out.lt b hb).2)
      obtain ⟨H0, c0, e0, _, _⟩ := hhq.form (by omega)
      obtain ⟨rfl, rfl⟩ : ah = some ⟨H0, 0, none⟩ ∧ ch = c0 := by simp at e0; exact ⟨e0.1, e0.2⟩
      obtain ⟨y0, y1, y2⟩ := hcells_at hx
      have z0 : wq.cell? ⟨H0, k * 3, none⟩ = some x.v := (hhq.cellAt (k * 3) (by omega)).trans y0
      have z1 : wq.cell? ⟨H0, k * 3 + 1, none⟩ = some x.u := (hhq.cellAt (k * 3 + 1) (by omega)).trans y1
      have z2 : wq.cell? ⟨H0, k * 3 + 2, none⟩ = some (.int .i64 (x.i : Nat)) := (hhq.cellAt (k * 3 + 2) (by omega)).trans y2
      obtain ⟨hv1, hu1, hxi, hxn⟩ := hr.out x (List.mem_of_getElem? hx)
      have hvq := own_same (w' := wq) hv1 (fun b hb => hbq.block b (hv1.lt b hb).2)
      have huq := own_same (w' := wq) hu1 (fun b hb => hbq.block b (hu1.lt b hb).2)
      obtain ⟨xv, xn, xi, xu⟩ := x
      obtain ⟨av, cv, hv9⟩ : ∃ av cv, xv = .slice av xn cv := row_shape hvq
      subst hv9
      obtain ⟨au, cu, hu9⟩ : ∃ au cu, xu = .slice au (xn + 40) cu := row_shape huq
      subst hu9
      replace hvq : wq.ownsRow base 61 9 (.slice av xn cv) xn (marks mkField xi xn) := hvq
      replace huq : wq.ownsRow base 61 9 (.slice au (xn + 40) cu) (xn + 40) (marks mkField xi (xn + 40)) := huq
      obtain ⟨g, cg, e1, _, hgl⟩ := huq.form (by omega)
      obtain ⟨rfl, rfl⟩ : au = some ⟨g, 0, none⟩ ∧ cu = cg := by simp at e1; exact ⟨e1.1, e1.2⟩
      replace z0 : wq.cell? ⟨H0, k * 3, none⟩ = some (.slice av xn cv) := z0
      replace z1 : wq.cell? ⟨H0, k * 3 + 1, none⟩ = some (.slice (some ⟨g, 0, none⟩) (xn + 40) cu) := z1
      replace z2 : wq.cell? ⟨H0, k * 3 + 2, none⟩ = some (.int .i64 (xi : Nat)) := z2
      replace hxi : xi ≤ 1073741824 := hxi
      replace hxn : xn ≤ 1073741824 := hxn
      obtain ⟨S, hS⟩ : ∃ S, S = wq.alloc (.cells #[.slice av xn cv, .slice (some ⟨g, 0, none⟩) (xn + 40) cu, .int .i64 (xi : Nat)] 105) := ⟨_, rfl⟩
      have hbS : Below wq.heap.size wq S := by rw [hS]; exact (Below.refl _ _).alloc (Nat.le_refl _) _
      have hzS : S.heap.size = wq.heap.size + 1 := by rw [hS]; simp
      have hrS : S.heap[wq.heap.size]? = some (.cells #[.slice av xn cv, .slice (some ⟨g, 0, none⟩) (xn + 40) cu, .int .i64 (xi : Nat)] 105 (0, 0)) := by rw [hS]; exact heap_alloc_new wq _
      have t0 : S.cell? ⟨wq.heap.size, 0, none⟩ = some (.slice av xn cv) := by simp [World.cell?, hrS]
      have t1 : S.cell? ⟨wq.heap.size, 1, none⟩ = some (.slice (some ⟨g, 0, none⟩) (xn + 40) cu) := by simp [World.cell?, hrS]
      have t2 : S.cell? ⟨wq.heap.size, 2, none⟩ = some (.int .i64 (xi : Nat)) := by simp [World.cell?, hrS]
      have hvS := Lib.hid (own_same (w' := S) hvq (fun b hb => hbS.block b (hvq.lt b hb).2))
      have huS := Lib.hid (own_same (w' := S) huq (fun b hb => hbS.block b (huq.lt b hb).2))
      have hES : Hid (Env S) := hE.out.kept (hbq.trans (hbS.mono (by omega)))
      have hbS9 : Hid (Below w.heap.size w S) := hbq.trans (hbS.mono (by omega))
      have hlen : (((xn + 40 : Nat) : Int) == ((xn : Nat) : Int) + 40) = true := by simp
      have hlen2 : (((xn + 40 : Nat) : Int) != ((xn : Nat) : Int) + 40) = false := by simp
      replace hx := Lib.hid hx
      replace hbq := Lib.hid hbq
      replace hbS := Lib.hid hbS
      replace hS := Lib.hid hS
      replace hhq := Lib.hid hhq
      replace hrS := Lib.hid hrS
      clear hv1 hu1 hvq huq y0 y1 y2 e0 e1
      go_wp2_with (first | (rw [← hS.out]))
      go_loopw [5] (fun i wy => ∃ m : Nat, m ≤ xn + 40 ∧ i = .int .i64 (m : Nat) ∧ Below w.heap.size w wy ∧ Below S.heap.size S wy) (fun i _ => (xn + 40) - (intOf i).toNat)
      case atStart => exact ⟨0, Nat.zero_le _, rfl, hbS9.out, Below.refl _ _⟩
      case round =>
        obtain ⟨m, hm9, rfl, hby, hbSy⟩ := hrel
        obtain ⟨wy, hwy⟩ : ∃ wy : World, wy = wr := ⟨_, rfl⟩
        subst hwy
        have hzy := hbSy.size
        have u0 := (hbSy.cell (p := ⟨wq.heap.size, 0, none⟩) (by show wq.heap.size < _; omega)).trans t0
        have u1 := (hbSy.cell (p := ⟨wq.heap.size, 1, none⟩) (by show wq.heap.size < _; omega)).trans t1
        have u2 := (hbSy.cell (p := ⟨wq.heap.size, 2, none⟩) (by show wq.heap.size < _; omega)).trans t2
        clear z0 z1 z2 t0 t1 t2 hcq
        by_cases hmt : m < xn + 40
        · have hmt9 : Hid (m + 1 ≤ xn + 40) := hmt
          have huy := own_same (w' := wy) huS.out (fun b hb => hbSy.block b (huS.out.lt b hb).2)
          have hvy := own_same (w' := wy) hvS.out (fun b hb => hbSy.block b (hvS.out.lt b hb).2)
          have hEy : Env wy := hES.out.kept hbSy
          have cI : Hid (∀ d : LowW wy, Calls Tryz.prog 115 #[.agg #[.string (wordB xi), .int .u8 0, .int .i64 0, .string ⟨#[]⟩, .slice none 0 0, .slice none 0 0, .int .u8 0, .string ⟨#[]⟩, .bool false], .int .i64 (xi : Nat)] d.w fun e w' => e = .returned (.bool true) ∧ ∃ d' : LowW wy, w' = d'.w) := fun d => (isField_any xi hxi d.w (hEy.kept d.low)).mono fun e w' h => ⟨h.1, d.more h.2⟩
          have u0' : ∀ d : LowW wy, d.w.cell? ⟨wq.heap.size, 0, none⟩ = some (.slice av xn cv) := fun d => (d.cell (by show wq.heap.size < _; omega)).trans u0
          have u1' : ∀ d : LowW wy, d.w.cell? ⟨wq.heap.size, 1, none⟩ = some (.slice (some ⟨g, 0, none⟩) (xn + 40) cu) := fun d => (d.cell (by show wq.heap.size < _; omega)).trans u1
          have u2' : ∀ d : LowW wy, d.w.cell? ⟨wq.heap.size, 2, none⟩ = some (.int .i64 (xi : Nat)) := fun d => (d.cell (by show wq.heap.size < _; omega)).trans u2
          have hgy := (huy.lt g rfl).2
          have r0 : ∀ d : LowW wy, d.w.cell? ⟨g, m * 9, none⟩ = some (.string (wordB xi)) := fun d => (d.cell (p := ⟨g, m * 9, none⟩) hgy).trans ((huy.cellAt (m * 9) (by omega)).trans (marks_at mklenField xi (xn + 40) m hmt 0 (by omega)))
          have r1 : ∀ d : LowW wy, d.w.cell? ⟨g, m * 9 + 1, none⟩ = some (.int .u8 0) := fun d => (d.cell (p := ⟨g, m * 9 + 1, none⟩) hgy).trans ((huy.cellAt (m * 9 + 1) (by omega)).trans (marks_at mklenField xi (xn + 40) m hmt 1 (by omega)))
          have r2 : ∀ d : LowW wy, d.w.cell? ⟨g, m * 9 + 2, none⟩ = some (.int .i64 0) := fun d => (d.cell (p := ⟨g, m * 9 + 2, none⟩) hgy).trans ((huy.cellAt (m * 9 + 2) (by omega)).trans (marks_at mklenField xi (xn + 40) m hmt 2 (by omega)))
          have r3 : ∀ d : LowW wy, d.w.cell? ⟨g, m * 9 + 3, none⟩ = some (.string ⟨#[]⟩) := fun d => (d.cell (p := ⟨g, m * 9 + 3, none⟩) hgy).trans ((huy.cellAt (m * 9 + 3) (by omega)).trans (marks_at mklenField xi (xn + 40) m hmt 3 (by omega)))
          have r4 : ∀ d : LowW wy, d.w.cell? ⟨g, m * 9 + 4, none⟩ = some (.slice none 0 0) := fun d => (d.cell (p := ⟨g, m * 9 + 4, none⟩) hgy).trans ((huy.cellAt (m * 9 + 4) (by omega)).trans (marks_at mklenField xi (xn + 40) m hmt 4 (by omega)))
          have r5 : ∀ d : LowW wy, d.w.cell? ⟨g, m * 9 + 5, none⟩ = some (.slice none 0 0) := fun d => (d.cell (p := ⟨g, m * 9 + 5, none⟩) hgy).trans ((huy.cellAt (m * 9 + 5) (by omega)).trans (marks_at mklenField xi (xn + 40) m hmt 5 (by omega)))
          have r6 : ∀ d : LowW wy, d.w.cell? ⟨g, m * 9 + 6, none⟩ = some (.int .u8 0) := fun d => (d.cell (p := ⟨g, m * 9 + 6, none⟩) hgy).trans ((huy.cellAt (m * 9 + 6) (by omega)).trans (marks_at mklenField xi (xn + 40) m hmt 6 (by omega)))
          have r7 : ∀ d : LowW wy, d.w.cell? ⟨g, m * 9 + 7, none⟩ = some (.string ⟨#[]⟩) := fun d => (d.cell (p := ⟨g, m * 9 + 7, none⟩) hgy).trans ((huy.cellAt (m * 9 + 7) (by omega)).trans (marks_at mklenField xi (xn + 40) m hmt 7 (by omega)))
          have r8 : ∀ d : LowW wy, d.w.cell? ⟨g, m * 9 + 8, none⟩ = some (.bool false) := fun d => (d.cell (p := ⟨g, m * 9 + 8, none⟩) hgy).trans ((huy.cellAt (m * 9 + 8) (by omega)).trans (marks_at mklenField xi (xn + 40) m hmt 8 (by omega)))
          replace hES := Lib.hid hES
          replace hEy := Lib.hid hEy
          replace hby := Lib.hid hby
          replace hbSy := Lib.hid hbSy
          replace huy := Lib.hid huy
          by_cases hmx : m < xn
          · obtain ⟨g2, cg2, e2, _, _⟩ := hvy.form (by omega)
            obtain ⟨rfl, rfl⟩ : av = some ⟨g2, 0, none⟩ ∧ cv = cg2 := by simp at e2; exact ⟨e2.1, e2.2⟩
            have hgy2 := (hvy.lt g2 rfl).2
            have s0 : ∀ d : LowW wy, d.w.cell? ⟨g2, m * 9, none⟩ = some (.string (wordB xi)) := fun d => (d.cell (p := ⟨g2, m * 9, none⟩) hgy2).trans ((hvy.cellAt (m * 9) (by omega)).trans (marks_at mklenField xi xn m hmx 0 (by omega)))
            have s1 : ∀ d : LowW wy, d.w.cell? ⟨g2, m * 9 + 1, none⟩ = some (.int .u8 0) := fun d => (d.cell (p := ⟨g2, m * 9 + 1, none⟩) hgy2).trans ((hvy.cellAt (m * 9 + 1) (by omega)).trans (marks_at mklenField xi xn m hmx 1 (by omega)))
            have s2 : ∀ d : LowW wy, d.w.cell? ⟨g2, m * 9 + 2, none⟩ = some (.int .i64 0) := fun d => (d.cell (p := ⟨g2, m * 9 + 2, none⟩) hgy2).trans ((hvy.cellAt (m * 9 + 2) (by omega)).trans (marks_at mklenField xi xn m hmx 2 (by omega)))
            have s3 : ∀ d : LowW wy, d.w.cell? ⟨g2, m * 9 + 3, none⟩ = some (.string ⟨#[]⟩) := fun d => (d.cell (p := ⟨g2, m * 9 + 3, none⟩) hgy2).trans ((hvy.cellAt (m * 9 + 3) (by omega)).trans (marks_at mklenField xi xn m hmx 3 (by omega)))
            have s4 : ∀ d : LowW wy, d.w.cell? ⟨g2, m * 9 + 4, none⟩ = some (.slice none 0 0) := fun d => (d.cell (p := ⟨g2, m * 9 + 4, none⟩) hgy2).trans ((hvy.cellAt (m * 9 + 4) (by omega)).trans (marks_at mklenField xi xn m hmx 4 (by omega)))
            have s5 : ∀ d : LowW wy, d.w.cell? ⟨g2, m * 9 + 5, none⟩ = some (.slice none 0 0) := fun d => (d.cell (p := ⟨g2, m * 9 + 5, none⟩) hgy2).trans ((hvy.cellAt (m * 9 + 5) (by omega)).trans (marks_at mklenField xi xn m hmx 5 (by omega)))
            have s6 : ∀ d : LowW wy, d.w.cell? ⟨g2, m * 9 + 6, none⟩ = some (.int .u8 0) := fun d => (d.cell (p := ⟨g2, m * 9 + 6, none⟩) hgy2).trans ((hvy.cellAt (m * 9 + 6) (by omega)).trans (marks_at mklenField xi xn m hmx 6 (by omega)))
            have s7 : ∀ d : LowW wy, d.w.cell? ⟨g2, m * 9 + 7, none⟩ = some (.string ⟨#[]⟩) := fun d => (d.cell (p := ⟨g2, m * 9 + 7, none⟩) hgy2).trans ((hvy.cellAt (m * 9 + 7) (by omega)).trans (marks_at mklenField xi xn m hmx 7 (by omega)))
            have s8 : ∀ d : LowW wy, d.w.cell? ⟨g2, m * 9 + 8, none⟩ = some (.bool false) := fun d => (d.cell (p := ⟨g2, m * 9 + 8, none⟩) hgy2).trans ((hvy.cellAt (m * 9 + 8) (by omega)).trans (marks_at mklenField xi xn m hmx 8 (by omega)))
            replace hvy := Lib.hid hvy
            clear e2
            go_wp2_with fail
            clear u0 u1 u2
            refine wp_region_low (by kernel_rfl) (by kernel_rfl) ?_
            repeat (go_big_quiet_step (first | (go_at_call 115; exact cI.out _)))
            refine wpQuiet_nil ?_
            rintro _ ⟨d, rfl⟩
            have hb9 := Lib.hid (hby.out.trans (d.low.mono (by omega)))
            have hb8 := Lib.hid (hbSy.out.trans (d.low.mono (by omega)))
            go_wp2_with fail
            go_roundw
            case rel => exact ⟨m + 1, hmt9.out, by go_num, hb9.out, hb8.out⟩
            case measure => simp [intOf]; have := hmt9.out; omega
          · replace hvy := Lib.hid hvy
            go_wp2_with fail
            clear u0 u1 u2
            refine wp_region_low (by kernel_rfl) (by kernel_rfl) ?_
            repeat (go_big_quiet_step (first | (go_at_call 115; exact cI.out _)))
            refine wpQuiet_nil ?_
            rintro _ ⟨d, rfl⟩
            have hb9 := Lib.hid (hby.out.trans (d.low.mono (by omega)))
            have hb8 := Lib.hid (hbSy.out.trans (d.low.mono (by omega)))
            go_wp2_with fail
            go_roundw
            case rel => exact ⟨m + 1, hmt9.out, by go_num, hb9.out, hb8.out⟩
            case measure => simp [intOf]; have := hmt9.out; omega
        · replace hby := Lib.hid hby
          replace hbSy := Lib.hid hbSy
          go_wp2_with fail
          go_roundw
          case rel => exact ⟨k + 1, hlt9.out, by go_num, hby.out⟩
          case measure => simp [intOf]; have := hlt9.out; omega
    · replace hbq := Lib.hid hbq
      go_wp2_with fail
      go_ret
      exact ⟨rfl, hbq.out⟩
end Go.Proofs.YtehcbicngbibgaaGreatDoor

/- The Book's lookNode: every list of the kind is what it is to be. (By XGl.gen.py.) -/
namespace Go.Proofs.YtehcbicngbibgaaGreatDoor
open Go Go.RowKit
set_option maxHeartbeats 8000000 in
set_option maxRecDepth 100000 in
theorem lookNode_any (base B : Nat) (hv : Value) (L : List Ent) (w : World) (hE : Env w) (hc : w.cell? ⟨B, 13, none⟩ = some hv) (hB : B < w.heap.size) (hL : L.length ≤ 1073741824) (hh : w.ownsRow base 93 3 hv L.length (hcells L))
    (hr : ∀ x ∈ L, w.ownsRow base 53 5 x.v x.n (marks mkNode x.i x.n) ∧ w.ownsRow base 53 5 x.u (x.n + 40) (marks mkNode x.i (x.n + 40)) ∧ x.i ≤ 1073741824 ∧ x.n ≤ 1073741824) :
    Calls Tryz.prog 73 #[.pointer (some ⟨B, 0, none⟩)] w fun e w' => e = .returned (.bool true) ∧ Below w.heap.size w w' := by
  obtain ⟨ah, ch, rfl⟩ := row_shape hh
  obtain ⟨N, hN⟩ : ∃ N, N = L.length := ⟨_, rfl⟩
  rw [← hN] at hh hL hc
  replace hE := Lib.hid hE
  replace hh := Lib.hid hh
  replace hr := Lib.hid hr
  replace hN := Lib.hid hN
  go_enter Tryz.func73, Tryz.ntmps73
  go_wp2_with fail
  go_loopw [3] (fun i wr => ∃ k : Nat, k ≤ N ∧ i = .int .i64 (k : Nat) ∧ Below w.heap.size w wr) (fun i _ => N - (intOf i).toNat)
  case atStart => exact ⟨0, Nat.zero_le _, rfl, Below.refl _ _⟩
  case round =>
    obtain ⟨k, hk, rfl, hbq⟩ := hrel
    obtain ⟨wq, hwq⟩ : ∃ wq : World, wq = wr := ⟨_, rfl⟩
    subst hwq
    have hcq : wq.cell? ⟨B, 13, none⟩ = some (.slice ah N ch) := (hbq.cell (p := ⟨B, 13, none⟩) hB).trans hc
    have hzq := hbq.size
    by_cases hlt : k < N
    · have hlt9 : Hid (k + 1 ≤ N) := hlt
      have hkL : k < L.length := by rw [← hN.out]; exact hlt
      obtain ⟨x, hx⟩ : ∃ x, L[k]? = some x := ⟨_, List.getElem?_eq_getElem hkL⟩
      have hhq : wq.ownsRow base 93 3 (.slice ah N ch) N (hcells L) := own_same hh.out (fun b hb => hbq.block b (hh.out.lt b hb).2)
      obtain ⟨H0, c0, e0, _, _⟩ := hhq.form (by omega)
      obtain ⟨rfl, rfl⟩ : ah = some ⟨H0, 0, none⟩ ∧ ch = c0 := by simp at e0; exact ⟨e0.1, e0.2⟩
      obtain ⟨y0, y1, y2⟩ := hcells_at hx
      have z0 : wq.cell? ⟨H0, k * 3, none⟩ = some x.v := (hhq.cellAt (k * 3) (by omega)).trans y0
      have z1 : wq.cell? ⟨H0, k * 3 + 1, none⟩ = some x.u := (hhq.cellAt (k * 3 + 1) (by omega)).trans y1
      have z2 : wq.cell? ⟨H0, k * 3 + 2, none⟩ = some (.int .i64 (x.i : Nat)) := (hhq.cellAt (k * 3 + 2) (by omega)).trans y2
      obtain ⟨hv1, hu1, hxi, hxn⟩ := hr.out x (List.mem_of_getElem? hx)
      have hvq := own_same (w' := wq) hv1 (fun b hb => hbq.block b (hv1.lt b hb).2)
      have huq := own_same (w' := wq) hu1 (fun b hb => hbq.block b (hu1.lt b hb).2)
      obtain ⟨xv, xn, xi, xu⟩ := x
      obtain ⟨av, cv, hv9⟩ : ∃ av cv, xv = .slice av xn cv := row_shape hvq
      subst hv9
      obtain ⟨au, cu, hu9⟩ : ∃ au cu, xu = .slice au (xn + 40) cu := row_shape huq
      subst hu9
      replace hvq : wq.ownsRow base 53 5 (.slice av xn cv) xn (marks mkNode xi xn) := hvq
      replace huq : wq.ownsRow base 53 5 (.slice au (xn + 40) cu) (xn + 40) (marks mkNode xi (xn + 40)) := huq
      obtain ⟨g, cg, e1, _, hgl⟩ := huq.form (by omega)
      obtain ⟨rfl, rfl⟩ : au = some ⟨g, 0, none⟩ ∧ cu = cg := by simp at e1; exact ⟨e1.1, e1.2⟩
      replace z0 : wq.cell? ⟨H0, k * 3, none⟩ = some (.slice av xn cv) := z0
      replace z1 : wq.cell? ⟨H0, k * 3 + 1, none⟩ = some (.slice (some ⟨g, 0, none⟩) (xn + 40) cu) := z1
      replace z2 : wq.cell? ⟨H0, k * 3 + 2, none⟩ = some (.int .i64 (xi : Nat)) := z2
      replace hxi : xi ≤ 1073741824 := hxi
      replace hxn : xn ≤ 1073741824 := hxn
      obtain ⟨S, hS⟩ : ∃ S, S = wq.alloc (.cells #[.slice av xn cv, .slice (some ⟨g, 0, none⟩) (xn + 40) cu, .int .i64 (xi : Nat)] 93) := ⟨_, rfl⟩
      have hbS : Below wq.heap.size wq S := by rw [hS]; exact (Below.refl _ _).alloc (Nat.le_refl _) _
      have hzS : S.heap.size = wq.heap.size + 1 := by rw [hS]; simp
      have hrS : S.heap[wq.heap.size]? = some (.cells #[.slice av xn cv, .slice (some ⟨g, 0, none⟩) (xn + 40) cu, .int .i64 (xi : Nat)] 93 (0, 0)) := by rw [hS]; exact heap_alloc_new wq _
      have t0 : S.cell? ⟨wq.heap.size, 0, none⟩ = some (.slice av xn cv) := by simp [World.cell?, hrS]
      have t1 : S.cell? ⟨wq.heap.size, 1, none⟩ = some (.slice (some ⟨g, 0, none⟩) (xn + 40) cu) := by simp [World.cell?, hrS]
      have t2 : S.cell? ⟨wq.heap.size, 2, none⟩ = some (.int .i64 (xi : Nat)) := by simp [World.cell?, hrS]
      have hvS := Lib.hid (own_same (w' := S) hvq (fun b hb => hbS.block b (hvq.lt b hb).2))
      have huS := Lib.hid (own_same (w' := S) huq (fun b hb => hbS.block b (huq.lt b hb).2))
      have hES : Hid (Env S) := hE.out.kept (hbq.trans (hbS.mono (by omega)))
      have hbS9 : Hid (Below w.heap.size w S) := hbq.trans (hbS.mono (by omega))
      have hlen : (((xn + 40 : Nat) : Int) == ((xn : Nat) : Int) + 40) = true := by simp
      have hlen2 : (((xn + 40 : Nat) : Int) != ((xn : Nat) : Int) + 40) = false := by simp
      replace hx := Lib.hid hx
      replace hbq := Lib.hid hbq
      replace hbS := Lib.hid hbS
      replace hS := Lib.hid hS
      replace hhq := Lib.hid hhq
      replace hrS := Lib.hid hrS
      clear hv1 hu1 hvq huq y0 y1 y2 e0 e1
      go_wp2_with (first | (rw [← hS.out]))
      go_loopw [5] (fun i wy => ∃ m : Nat, m ≤ xn + 40 ∧ i = .int .i64 (m : Nat) ∧ Below w.heap.size w wy ∧ Below S.heap.size S wy) (fun i _ => (xn + 40) - (intOf i).toNat)
      case atStart => exact ⟨0, Nat.zero_le _, rfl, hbS9.out, Below.refl _ _⟩
      case round =>
        obtain ⟨m, hm9, rfl, hby, hbSy⟩ := hrel
        obtain ⟨wy, hwy⟩ : ∃ wy : World, wy = wr := ⟨_, rfl⟩
        subst hwy
        have hzy := hbSy.size
        have u0 := (hbSy.cell (p := ⟨wq.heap.size, 0, none⟩) (by show wq.heap.size < _; omega)).trans t0
        have u1 := (hbSy.cell (p := ⟨wq.heap.size, 1, none⟩) (by show wq.heap.size < _; omega)).trans t1
        have u2 := (hbSy.cell (p := ⟨wq.heap.size, 2, none⟩) (by show wq.heap.size < _; omega)).trans t2
        clear z0 z1 z2 t0 t1 t2 hcq
        by_cases hmt : m < xn + 40
        · have hmt9 : Hid (m + 1 ≤ xn + 40) := hmt
          have huy := own_same (w' := wy) huS.out (fun b hb => hbSy.block b (huS.out.lt b hb).2)
          have hvy := own_same (w' := wy) hvS.out (fun b hb => hbSy.block b (hvS.out.lt b hb).2)
          have hEy : Env wy := hES.out.kept hbSy
          have cI : Hid (∀ d : LowW wy, Calls Tryz.prog 124 #[.agg #[.int .i64 (-1000 - (xi : Int)), .string ⟨#[]⟩, .string ⟨#[]⟩, .slice none 0 0, .slice none 0 0], .int .i64 (xi : Nat)] d.w fun e w' => e = .returned (.bool true) ∧ ∃ d' : LowW wy, w' = d'.w) := fun d => (isNode_any xi hxi d.w (hEy.kept d.low)).mono fun e w' h => ⟨h.1, d.more h.2⟩
          have u0' : ∀ d : LowW wy, d.w.cell? ⟨wq.heap.size, 0, none⟩ = some (.slice av xn cv) := fun d => (d.cell (by show wq.heap.size < _; omega)).trans u0
          have u1' : ∀ d : LowW wy, d.w.cell? ⟨wq.heap.size, 1, none⟩ = some (.slice (some ⟨g, 0, none⟩) (xn + 40) cu) := fun d => (d.cell (by show wq.heap.size < _; omega)).trans u1
          have u2' : ∀ d : LowW wy, d.w.cell? ⟨wq.heap.size, 2, none⟩ = some (.int .i64 (xi : Nat)) := fun d => (d.cell (by show wq.heap.size < _; omega)).trans u2
          have hgy := (huy.lt g rfl).2
          have r0 : ∀ d : LowW wy, d.w.cell? ⟨g, m * 5, none⟩ = some (.int .i64 (-1000 - (xi : Int))) := fun d => (d.cell (p := ⟨g, m * 5, none⟩) hgy).trans ((huy.cellAt (m * 5) (by omega)).trans (marks_at mklenNode xi (xn + 40) m hmt 0 (by omega)))
          have r1 : ∀ d : LowW wy, d.w.cell? ⟨g, m * 5 + 1, none⟩ = some (.string ⟨#[]⟩) := fun d => (d.cell (p := ⟨g, m * 5 + 1, none⟩) hgy).trans ((huy.cellAt (m * 5 + 1) (by omega)).trans (marks_at mklenNode xi (xn + 40) m hmt 1 (by omega)))
          have r2 : ∀ d : LowW wy, d.w.cell? ⟨g, m * 5 + 2, none⟩ = some (.string ⟨#[]⟩) := fun d => (d.cell (p := ⟨g, m * 5 + 2, none⟩) hgy).trans ((huy.cellAt (m * 5 + 2) (by omega)).trans (marks_at mklenNode xi (xn + 40) m hmt 2 (by omega)))
          have r3 : ∀ d : LowW wy, d.w.cell? ⟨g, m * 5 + 3, none⟩ = some (.slice none 0 0) := fun d => (d.cell (p := ⟨g, m * 5 + 3, none⟩) hgy).trans ((huy.cellAt (m * 5 + 3) (by omega)).trans (marks_at mklenNode xi (xn + 40) m hmt 3 (by omega)))
          have r4 : ∀ d : LowW wy, d.w.cell? ⟨g, m * 5 + 4, none⟩ = some (.slice none 0 0) := fun d => (d.cell (p := ⟨g, m * 5 + 4, none⟩) hgy).trans ((huy.cellAt (m * 5 + 4) (by omega)).trans (marks_at mklenNode xi (xn + 40) m hmt 4 (by omega)))
          replace hES := Lib.hid hES
          replace hEy := Lib.hid hEy
          replace hby := Lib.hid hby
          replace hbSy := Lib.hid hbSy
          replace huy := Lib.hid huy
          by_cases hmx : m < xn
          · obtain ⟨g2, cg2, e2, _, _⟩ := hvy.form (by omega)
            obtain ⟨rfl, rfl⟩ : av = some ⟨g2, 0, none⟩ ∧ cv = cg2 := by simp at e2; exact ⟨e2.1, e2.2⟩
            have hgy2 := (hvy.lt g2 rfl).2
            have s0 : ∀ d : LowW wy, d.w.cell? ⟨g2, m * 5, none⟩ = some (.int .i64 (-1000 - (xi : Int))) := fun d => (d.cell (p := ⟨g2, m * 5, none⟩) hgy2).trans ((hvy.cellAt (m * 5) (by omega)).trans (marks_at mklenNode xi xn m hmx 0 (by omega)))
            have s1 : ∀ d : LowW wy, d.w.cell? ⟨g2, m * 5 + 1, none⟩ = some (.string ⟨#[]⟩) := fun d => (d.cell (p := ⟨g2, m * 5 + 1, none⟩) hgy2).trans ((hvy.cellAt (m * 5 + 1) (by omega)).trans (marks_at mklenNode xi xn m hmx 1 (by omega)))
            have s2 : ∀ d : LowW wy, d.w.cell? ⟨g2, m * 5 + 2, none⟩ = some (.string ⟨#[]⟩) := fun d => (d.cell (p := ⟨g2, m * 5 + 2, none⟩) hgy2).trans ((hvy.cellAt (m * 5 + 2) (by omega)).trans (marks_at mklenNode xi xn m hmx 2 (by omega)))
            have s3 : ∀ d : LowW wy, d.w.cell? ⟨g2, m * 5 + 3, none⟩ = some (.slice none 0 0) := fun d => (d.cell (p := ⟨g2, m * 5 + 3, none⟩) hgy2).trans ((hvy.cellAt (m * 5 + 3) (by omega)).trans (marks_at mklenNode xi xn m hmx 3 (by omega)))
            have s4 : ∀ d : LowW wy, d.w.cell? ⟨g2, m * 5 + 4, none⟩ = some (.slice none 0 0) := fun d => (d.cell (p := ⟨g2, m * 5 + 4, none⟩) hgy2).trans ((hvy.cellAt (m * 5 + 4) (by omega)).trans (marks_at mklenNode xi xn m hmx 4 (by omega)))
            replace hvy := Lib.hid hvy
            clear e2
            go_wp2_with fail
            clear u0 u1 u2
            refine wp_region_low (by kernel_rfl) (by kernel_rfl) ?_
            repeat (go_big_quiet_step (first | (go_at_call 124; exact cI.out _)))
            refine wpQuiet_nil ?_
            rintro _ ⟨d, rfl⟩
            have hb9 := Lib.hid (hby.out.trans (d.low.mono (by omega)))
            have hb8 := Lib.hid (hbSy.out.trans (d.low.mono (by omega)))
            go_wp2_with fail
            go_roundw
            case rel => exact ⟨m + 1, hmt9.out, by go_num, hb9.out, hb8.out⟩
            case measure => simp [intOf]; have := hmt9.out; omega
          · replace hvy := Lib.hid hvy
            go_wp2_with fail
            clear u0 u1 u2
            refine wp_region_low (by kernel_rfl) (by kernel_rfl) ?_
            repeat (go_big_quiet_step (first | (go_at_call 124; exact cI.out _)))
            refine wpQuiet_nil ?_
            rintro _ ⟨d, rfl⟩
            have hb9 := Lib.hid (hby.out.trans (d.low.mono (by omega)))
            have hb8 := Lib.hid (hbSy.out.trans (d.low.mono (by omega)))
            go_wp2_with fail
            go_roundw
            case rel => exact ⟨m + 1, hmt9.out, by go_num, hb9.out, hb8.out⟩
            case measure => simp [intOf]; have := hmt9.out; omega
        · replace hby := Lib.hid hby
          replace hbSy := Lib.hid hbSy
          go_wp2_with fail
          go_roundw
          case rel => exact ⟨k + 1, hlt9.out, by go_num, hby.out⟩
          case measure => simp [intOf]; have := hlt9.out; omega
    · replace hbq := Lib.hid hbq
      go_wp2_with fail
      go_ret
      exact ⟨rfl, hbq.out⟩
end Go.Proofs.YtehcbicngbibgaaGreatDoor
