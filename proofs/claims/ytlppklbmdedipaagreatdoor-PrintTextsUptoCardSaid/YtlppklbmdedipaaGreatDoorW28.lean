/- PrintTexts, part 28. -/
import Derived.Test.YtlppklbmdedipaaGreatDoorW02
import Derived.Test.YtlppklbmdedipaaGreatDoorW15
import Derived.WalkMore
import Derived.Deep.CutBlock
import Derived.Test.YtlppklbmdedipaaGreatDoorW25
import Derived.Test.YtlppklbmdedipaaGreatDoorW27
namespace Go.Proofs.YtlppklbmdedipaaGreatDoor
open Go Go.RowKit
set_option maxHeartbeats 8000000
set_option maxRecDepth 100000
theorem ld_quiet {W : World} {K : Act → Prop} {op : Oper} {a : Act} {T : TypeId} {p : Option Addr} {v : Value} (hl : ∀ d : LowW W, (Instr.loadAt T (.pointer p)).run Tryz.prog d.w = .ok v d.w)
  (x : Operand) (ho : op.op = .load T x) (hx : a.eval x = .pointer p) (h : K (a.put op.dst v)) : op.quiet Tryz.prog a (fun w' => ∃ d : LowW W, w' = d.w) K := by
 refine ⟨v, ?_, h⟩
 rintro _ ⟨d, rfl⟩
 unfold Oper.quietAt execOp
 simp only [ho, hx, Sem.run_bind, hl d, Result.andThen_ok, Sem.run_pure]
 exact ⟨rfl, rfl⟩
theorem ld_armg {ops : Array Oper} {rest : List Oper} {op : Oper} {a : Act} {w : World} {Q : Exit → Act → World → Prop} {T : TypeId} {p : Option Addr} {v : Value} (hl : (Instr.loadAt T (.pointer p)).run Tryz.prog w = .ok v w)
  (x : Operand) (ho : op.op = .load T x) (hx : a.eval x = .pointer p) (hw : Region.wanted op (yielded ops a.tmps) = true) (h : wpList Tryz.prog ops Q rest (a.put op.dst v) w) : wpList Tryz.prog ops Q (op :: rest) a w := by
 unfold wpList
 rw [if_pos hw]
 refine .inl ?_
 unfold Oper.wp execOp
 simp only [ho, hx, Sem.run_bind, hl, Result.andThen_ok, Sem.run_pure]
 exact h
theorem mid_load {W : World} {g o : Nat} {T t : TypeId} {cs : List Value} {old : Array Value} {d : TypeDesc} {fr : Nat × Nat} (hg : W.heap[g]? = some (.cells old t fr)) (hc : ∀ j x, cs[j]? = some x → old[o + j]? = some x) (hu : Tryz.prog.underlying T = some d) (hd : d.isRow = true) (hi : (Tryz.prog.info? T).map (·.size) = some cs.length) :
  (Instr.loadAt T (.pointer (some ⟨g, o, none⟩))).run Tryz.prog W = .ok (.agg cs.toArray) W :=
 run_loadAt_mid W g o T cs d (fun j x hx => by simpa [World.cell?, hg] using hc j x hx) hu hd hi
theorem leftTexts_any (L : List ByteArray) (a1 a2 : Option Addr) (n1 n2 c1 c2 base : Nat) (R : List Row) (w : World) (h1 : Own w base twinM mkS (.lst 9 1 (L.map T.txt)) [.slice a1 n1 c1] R) (h2 : TLs w w.heap.size L a2 n2) :
  Calls Tryz.prog 101 #[.slice a1 n1 c1, .slice a2 n2 c2] w fun e w' => e = .returned (.bool true) ∧ Below w.heap.size w w' := by
 have hn := h2.len.2
 have hL2 := h2.len.1
 rw [List.length_map] at hL2
 obtain ⟨i1, _, xs, cc, RR, ho, hcc, hel, hsp, _⟩ := h1.lst_inv
 obtain rfl : n1 = n2 := i1.trans h2.len.1.symm
 obtain ⟨g, cap, hv, hcap, _, hmk⟩ := hsp rfl
 injection hv with hv1 _ hv3
 subst hv1 hv3
 have hcm := (ownsRow_cap ho).2
 have hgl := (ho.lt g rfl).2
 have hcap' : (n1 : Int) < (c1 : Int) := by omega
 have hmk' : w.cell? ⟨g, n1, none⟩ = some (.string ⟨#[115, 112, 97, 114, 101]⟩) := by have h9 := hmk 0 (by omega); simp only [Nat.mul_one, Nat.add_zero] at h9; exact h9.trans rfl
 have hel' : Hid (∀ k (hk : k < n1), ∃ s : ByteArray, L[k]? = some s ∧ w.cell? ⟨g, k, none⟩ = some (.string s)) := fun k hk => by
  have hlt : k < L.length := by omega
  have h3 := hel k (by rw [List.length_map]; exact hlt)
  rw [List.getElem_map] at h3
  refine ⟨L[k], List.getElem?_eq_getElem hlt, ?_⟩
  have h4 := ho.cellAt k (by omega)
  rw [h4]
  have h5 := (hcc k hk).2 0 (by omega)
  simp only [Nat.mul_one, Nat.add_zero] at h5
  rw [h5]
  have h6 : cc k = [.string L[k]] := h3.at.txt_inv.1
  rw [h6]; rfl
 have hin : Hid (∀ k (hk : k < n1) s, L[k]? = some s → ∃ b2 o2, a2 = some ⟨b2, o2, none⟩ ∧ b2 < w.heap.size ∧ w.cell? ⟨b2, o2 + k, none⟩ = some (.string s)) := fun k hk s hs => by
  obtain ⟨b2, o2, s', e, hb2, hs', hc, _⟩ := TLs.elem h2 k hk
  obtain rfl : s = s' := Option.some.inj (hs.symm.trans hs')
  exact ⟨b2, o2, e, hb2, hc⟩
 replace hmk' := hi_ hmk'
 unfold maxLen at hcm
 clear i1 ho hsp hmk hel hcc hL2
 replace h1 := hi_ h1
 replace h2 := hi_ h2
 go_enter Tryz.func101, Tryz.ntmps101
 go_wp2_with fail
 go_loopw [5] (fun i wr => ∃ k : Nat, k ≤ n1 ∧ i = .int .i64 (k : Nat) ∧ Below w.heap.size w wr) (fun i _ => n1 - (intOf i).toNat)
 case atStart => exact ⟨0, Nat.zero_le _, rfl, Below.refl _ _⟩
 case round =>
  obtain ⟨k, hk, rfl, hb⟩ := hrel
  by_cases hlt : k < n1
  ·have hlt9 : Hid (k + 1 ≤ n1) := hlt
   obtain ⟨s, hs1, x0⟩ := hel'.out k hlt
   obtain ⟨b2, o2, rfl, hb2, y0⟩ := hin.out k hlt s hs1
   have x1 : ∀ d : LowW wr, d.w.cell? ⟨g, k, none⟩ = some (.string s) := fun d => (d.cell (p := ⟨g, k, none⟩) (by show g < _; have := hb.size; omega)).trans ((hb.cell (p := ⟨g, k, none⟩) hgl).trans x0)
   have y1 : ∀ d : LowW wr, d.w.cell? ⟨b2, o2 + k, none⟩ = some (.string s) := fun d => (d.cell (p := ⟨b2, o2 + k, none⟩) (by show b2 < _; have := hb.size; omega)).trans ((hb.cell (p := ⟨b2, o2 + k, none⟩) hb2).trans y0)
   have hz2 : (s.toList != s.toList) = false := by simp
   have hz1 : (s.toList == s.toList) = true := by simp
   replace hb := hi_ hb
   clear x0 y0 hs1
   go_wp2_with fail
   refine wp_region_low (by kernel_rfl) (by kernel_rfl) ?_
   repeat (go_big_quiet_step (fail))
   refine wpQuiet_nil ?_
   rintro _ ⟨d, rfl⟩
   have hb3' := hi_ (hb.out.trans (d.low.mono hb.out.size))
   go_wp2_with fail
   go_roundw
   case rel => exact ⟨k + 1, hlt9.out, by go_num, hb3'.out⟩
   case measure => simp [intOf]; have := hlt9.out; omega
  ·obtain rfl : k = n1 := by omega
   have x0 : wr.cell? ⟨g, k, none⟩ = some (.string ⟨#[115, 112, 97, 114, 101]⟩) := (hb.cell (p := ⟨g, k, none⟩) hgl).trans hmk'.out
   have hal := hi_ hb
   replace hb := hi_ hb
   have hc8 : (k : Int) + 1 ≤ (c1 : Int) := by omega
   go_wp2_with fail
   go_ret
   exact ⟨rfl, hal.out⟩
theorem leftExprs_any (L : List Ex) (hS : ∀ v ∈ L, LeftEx v) (a1 a2 : Option Addr) (n1 n2 c1 c2 base : Nat) (R : List Row) (w : World) (h1 : Own w base twinM mkS (.lst 50 10 (L.map Ex.tr)) [.slice a1 n1 c1] R) (h2 : ExLs w w.heap.size L a2 n2) :
  Calls Tryz.prog 100 #[.slice a1 n1 c1, .slice a2 n2 c2] w fun e w' => e = .returned (.bool true) ∧ Below w.heap.size w w' := by
 have hn := h2.len.2
 obtain ⟨i1, _, xs, cc, RR, ho, _, _, hsp, _⟩ := h1.lst_inv
 obtain rfl : n1 = n2 := i1.trans h2.len.1.symm
 obtain ⟨g, cap, hv, hcap, _, hmk⟩ := hsp rfl
 injection hv with hv1 _ hv3
 subst hv1 hv3
 have hcm := (ownsRow_cap ho).2
 have hgl := (ho.lt g rfl).2
 have hcap' : (n1 : Int) < (c1 : Int) := by omega
 have hmk' : Hid (∀ j, j < 10 → w.cell? ⟨g, n1 * 10 + j, none⟩ = ([.int .u8 0, .int .i64 0, .string ⟨#[115, 112, 97, 114, 101]⟩, .slice none 0 0, .slice none 0 0, .slice none 0 0, .int .u8 0, .slice none 0 0, .slice none 0 0, .string ⟨#[]⟩] : List Value)[j]?) := hmk
 unfold maxLen at hcm
 clear i1 ho hsp hmk
 replace h1 := hi_ h1
 replace h2 := hi_ h2
 replace hS := hi_ hS
 go_enter Tryz.func100, Tryz.ntmps100
 go_wp2_with fail
 go_loopw [5] (fun i wr => ∃ k : Nat, k ≤ n1 ∧ i = .int .i64 (k : Nat) ∧ Below w.heap.size w wr) (fun i _ => n1 - (intOf i).toNat)
 case atStart => exact ⟨0, Nat.zero_le _, rfl, Below.refl _ _⟩
 case round =>
  obtain ⟨k, hk, rfl, hb⟩ := hrel
  by_cases hlt : k < n1
  ·have hlt9 : Hid (k + 1 ≤ n1) := hlt
   obtain ⟨v, q1, R', hg1, hc1, hv1⟩ := ownEx_elem (h1.out.later hb) k hlt
   obtain ⟨b2, o2, v', q2, rfl, hb2, hg2, hc2, hv2⟩ := ExLs.elem (h2.out.kept hb) k hlt
   obtain rfl : v = v' := Option.some.inj (hg1.symm.trans hg2)
   have hzb := hb.size
   obtain ⟨Z1, Z2, hl1, hl2, cS⟩ : ∃ Z1 Z2 : Array Value, (∀ d : LowW wr, (Instr.loadAt 50 (.pointer (some ⟨g, k * 10, none⟩))).run Tryz.prog d.w = .ok (.agg Z1) d.w) ∧ (∀ d : LowW wr, (Instr.loadAt 50 (.pointer (some ⟨b2, o2 + k * 10, none⟩))).run Tryz.prog d.w = .ok (.agg Z2) d.w) ∧
     ∀ d : LowW wr, Calls Tryz.prog 71 #[.agg Z1, .agg Z2] d.w fun e w' => e = .returned (.bool true) ∧ ∃ d' : LowW wr, w' = d'.w :=
    ⟨q1.arr v, q2.arr v, fun d => Ex_load fun j hj => (d.cell (p := ⟨g, k * 10 + j, none⟩) (by show g < _; omega)).trans (hc1 j hj),
     fun d => Ex_load fun j hj => by rw [Nat.add_assoc]; exact (d.cell (p := ⟨b2, o2 + (k * 10 + j), none⟩) (by show b2 < _; omega)).trans (hc2 j hj),
     fun d => (hS.out v (List.mem_of_getElem? hg1) q1 q2 base R' d.w (hv1.later d.low) (((hv2.kept (d.low.mono hb.size)).mono hb.size).mono d.low.size)).mono fun e w' h => ⟨h.1, d.more h.2⟩⟩
   replace cS := hi_ cS
   replace hl1 := hi_ hl1
   replace hl2 := hi_ hl2
   replace hb := hi_ hb
   clear hc1 hc2 hv1 hv2 hg1 hg2
   go_wp2_with fail
   refine wp_region_low (by kernel_rfl) (by kernel_rfl) ?_
   repeat (first | (go_big_quiet_want; first | (refine ld_quiet hl1.out _ rfl rfl ?_; go_simp; go_big_quiet_on) | (refine ld_quiet hl2.out _ rfl rfl ?_; go_simp; go_big_quiet_on)) | go_big_quiet_step (first | (go_at_call 71; exact cS.out _)))
   refine wpQuiet_nil ?_
   rintro _ ⟨d, rfl⟩
   have hb3' := hi_ (hb.out.trans (d.low.mono hb.out.size))
   go_wp2_with fail
   go_roundw
   case rel => exact ⟨k + 1, hlt9.out, by go_num, hb3'.out⟩
   case measure => simp [intOf]; have := hlt9.out; omega
  ·obtain rfl : k = n1 := by omega
   have hc9 : ∀ j, j < 10 → wr.cell? ⟨g, k * 10 + j, none⟩ = ([.int .u8 0, .int .i64 0, .string ⟨#[115, 112, 97, 114, 101]⟩, .slice none 0 0, .slice none 0 0, .slice none 0 0, .int .u8 0, .slice none 0 0, .slice none 0 0, .string ⟨#[]⟩] : List Value)[j]? := fun j hj => (hb.cell (p := ⟨g, k * 10 + j, none⟩) hgl).trans (hmk'.out j hj)
   have x0 : wr.cell? ⟨g, k * 10, none⟩ = some (.int .u8 0) := hc9 0 (by omega)
   have x1 : wr.cell? ⟨g, k * 10 + 1, none⟩ = some (.int .i64 0) := hc9 1 (by omega)
   have x2 : wr.cell? ⟨g, k * 10 + 2, none⟩ = some (.string ⟨#[115, 112, 97, 114, 101]⟩) := hc9 2 (by omega)
   have x3 : wr.cell? ⟨g, k * 10 + 3, none⟩ = some (.slice none 0 0) := hc9 3 (by omega)
   have x4 : wr.cell? ⟨g, k * 10 + 4, none⟩ = some (.slice none 0 0) := hc9 4 (by omega)
   have x5 : wr.cell? ⟨g, k * 10 + 5, none⟩ = some (.slice none 0 0) := hc9 5 (by omega)
   have x6 : wr.cell? ⟨g, k * 10 + 6, none⟩ = some (.int .u8 0) := hc9 6 (by omega)
   have x7 : wr.cell? ⟨g, k * 10 + 7, none⟩ = some (.slice none 0 0) := hc9 7 (by omega)
   have x8 : wr.cell? ⟨g, k * 10 + 8, none⟩ = some (.slice none 0 0) := hc9 8 (by omega)
   have x9 : wr.cell? ⟨g, k * 10 + 9, none⟩ = some (.string ⟨#[]⟩) := hc9 9 (by omega)
   have hal := hi_ (hb.alloc hb.size (.cells A62_ 50))
   replace hb := hi_ hb
   have hc8 : (k : Int) + 1 ≤ (c1 : Int) := by omega
   clear hc9
   go_wp2_with fail
   go_ret
   exact ⟨rfl, hal.out⟩
theorem leftActs_any (L : List Ac) (hS : ∀ v ∈ L, LeftAc v) (a1 a2 : Option Addr) (n1 n2 c1 c2 base : Nat) (R : List Row) (w : World) (h1 : Own w base twinM mkS (.lst 101 12 (L.map Ac.tr)) [.slice a1 n1 c1] R) (h2 : AcLs w w.heap.size L a2 n2) :
  Calls Tryz.prog 102 #[.slice a1 n1 c1, .slice a2 n2 c2] w fun e w' => e = .returned (.bool true) ∧ Below w.heap.size w w' := by
 have hn := h2.len.2
 obtain ⟨i1, _, xs, cc, RR, ho, _, _, hsp, _⟩ := h1.lst_inv
 obtain rfl : n1 = n2 := i1.trans h2.len.1.symm
 obtain ⟨g, cap, hv, hcap, _, hmk⟩ := hsp rfl
 injection hv with hv1 _ hv3
 subst hv1 hv3
 have hcm := (ownsRow_cap ho).2
 have hgl := (ho.lt g rfl).2
 have hcap' : (n1 : Int) < (c1 : Int) := by omega
 have hmk' : Hid (∀ j, j < 12 → w.cell? ⟨g, n1 * 12 + j, none⟩ = ([.int .u8 0, .string ⟨#[115, 112, 97, 114, 101]⟩, .int .u8 0, .int .i64 0, .string ⟨#[]⟩, .slice none 0 0, .slice none 0 0, .slice none 0 0, .int .u8 0, .slice none 0 0, .slice none 0 0, .string ⟨#[]⟩] : List Value)[j]?) := hmk
 unfold maxLen at hcm
 clear i1 ho hsp hmk
 replace h1 := hi_ h1
 replace h2 := hi_ h2
 replace hS := hi_ hS
 go_enter Tryz.func102, Tryz.ntmps102
 go_wp2_with fail
 go_loopw [5] (fun i wr => ∃ k : Nat, k ≤ n1 ∧ i = .int .i64 (k : Nat) ∧ Below w.heap.size w wr) (fun i _ => n1 - (intOf i).toNat)
 case atStart => exact ⟨0, Nat.zero_le _, rfl, Below.refl _ _⟩
 case round =>
  obtain ⟨k, hk, rfl, hb⟩ := hrel
  by_cases hlt : k < n1
  ·have hlt9 : Hid (k + 1 ≤ n1) := hlt
   obtain ⟨v, q1, R', hg1, hc1, hv1⟩ := ownAc_elem (h1.out.later hb) k hlt
   obtain ⟨b2, o2, v', q2, rfl, hb2, hg2, hc2, hv2⟩ := AcLs.elem (h2.out.kept hb) k hlt
   obtain rfl : v = v' := Option.some.inj (hg1.symm.trans hg2)
   have hzb := hb.size
   obtain ⟨Z1, Z2, hl1, hl2, cS⟩ : ∃ Z1 Z2 : Array Value, (∀ d : LowW wr, (Instr.loadAt 101 (.pointer (some ⟨g, k * 12, none⟩))).run Tryz.prog d.w = .ok (.agg Z1) d.w) ∧ (∀ d : LowW wr, (Instr.loadAt 101 (.pointer (some ⟨b2, o2 + k * 12, none⟩))).run Tryz.prog d.w = .ok (.agg Z2) d.w) ∧
     ∀ d : LowW wr, Calls Tryz.prog 131 #[.agg Z1, .agg Z2] d.w fun e w' => e = .returned (.bool true) ∧ ∃ d' : LowW wr, w' = d'.w :=
    ⟨q1.arr v, q2.arr v, fun d => Ac_load fun j hj => (d.cell (p := ⟨g, k * 12 + j, none⟩) (by show g < _; omega)).trans (hc1 j hj),
     fun d => Ac_load fun j hj => by rw [Nat.add_assoc]; exact (d.cell (p := ⟨b2, o2 + (k * 12 + j), none⟩) (by show b2 < _; omega)).trans (hc2 j hj),
     fun d => (hS.out v (List.mem_of_getElem? hg1) q1 q2 base R' d.w (hv1.later d.low) (((hv2.kept (d.low.mono hb.size)).mono hb.size).mono d.low.size)).mono fun e w' h => ⟨h.1, d.more h.2⟩⟩
   replace cS := hi_ cS
   replace hl1 := hi_ hl1
   replace hl2 := hi_ hl2
   replace hb := hi_ hb
   clear hc1 hc2 hv1 hv2 hg1 hg2
   go_wp2_with fail
   refine wp_region_low (by kernel_rfl) (by kernel_rfl) ?_
   repeat (first | (go_big_quiet_want; first | (refine ld_quiet hl1.out _ rfl rfl ?_; go_simp; go_big_quiet_on) | (refine ld_quiet hl2.out _ rfl rfl ?_; go_simp; go_big_quiet_on)) | go_big_quiet_step (first | (go_at_call 131; exact cS.out _)))
   refine wpQuiet_nil ?_
   rintro _ ⟨d, rfl⟩
   have hb3' := hi_ (hb.out.trans (d.low.mono hb.out.size))
   go_wp2_with fail
   go_roundw
   case rel => exact ⟨k + 1, hlt9.out, by go_num, hb3'.out⟩
   case measure => simp [intOf]; have := hlt9.out; omega
  ·obtain rfl : k = n1 := by omega
   have hc9 : ∀ j, j < 12 → wr.cell? ⟨g, k * 12 + j, none⟩ = ([.int .u8 0, .string ⟨#[115, 112, 97, 114, 101]⟩, .int .u8 0, .int .i64 0, .string ⟨#[]⟩, .slice none 0 0, .slice none 0 0, .slice none 0 0, .int .u8 0, .slice none 0 0, .slice none 0 0, .string ⟨#[]⟩] : List Value)[j]? := fun j hj => (hb.cell (p := ⟨g, k * 12 + j, none⟩) hgl).trans (hmk'.out j hj)
   have x0 : wr.cell? ⟨g, k * 12, none⟩ = some (.int .u8 0) := hc9 0 (by omega)
   have x1 : wr.cell? ⟨g, k * 12 + 1, none⟩ = some (.string ⟨#[115, 112, 97, 114, 101]⟩) := hc9 1 (by omega)
   have x2 : wr.cell? ⟨g, k * 12 + 2, none⟩ = some (.int .u8 0) := hc9 2 (by omega)
   have x3 : wr.cell? ⟨g, k * 12 + 3, none⟩ = some (.int .i64 0) := hc9 3 (by omega)
   have x4 : wr.cell? ⟨g, k * 12 + 4, none⟩ = some (.string ⟨#[]⟩) := hc9 4 (by omega)
   have x5 : wr.cell? ⟨g, k * 12 + 5, none⟩ = some (.slice none 0 0) := hc9 5 (by omega)
   have x6 : wr.cell? ⟨g, k * 12 + 6, none⟩ = some (.slice none 0 0) := hc9 6 (by omega)
   have x7 : wr.cell? ⟨g, k * 12 + 7, none⟩ = some (.slice none 0 0) := hc9 7 (by omega)
   have x8 : wr.cell? ⟨g, k * 12 + 8, none⟩ = some (.int .u8 0) := hc9 8 (by omega)
   have x9 : wr.cell? ⟨g, k * 12 + 9, none⟩ = some (.slice none 0 0) := hc9 9 (by omega)
   have x10 : wr.cell? ⟨g, k * 12 + 10, none⟩ = some (.slice none 0 0) := hc9 10 (by omega)
   have x11 : wr.cell? ⟨g, k * 12 + 11, none⟩ = some (.string ⟨#[]⟩) := hc9 11 (by omega)
   have hal := hi_ (hb.alloc hb.size (.cells A63_ 101))
   replace hb := hi_ hb
   have hc8 : (k : Int) + 1 ≤ (c1 : Int) := by omega
   clear hc9
   go_wp2_with fail
   go_ret
   exact ⟨rfl, hal.out⟩
theorem leftStmts_any (L : List St) (hS : ∀ v ∈ L, LeftSt v) (a1 a2 : Option Addr) (n1 n2 c1 c2 base : Nat) (R : List Row) (w : World) (h1 : Own w base twinM mkS (.lst 63 17 (L.map St.tr)) [.slice a1 n1 c1] R) (h2 : StLs w w.heap.size L a2 n2) :
  Calls Tryz.prog 70 #[.slice a1 n1 c1, .slice a2 n2 c2] w fun e w' => e = .returned (.bool true) ∧ Below w.heap.size w w' := by
 have hn := h2.len.2
 obtain ⟨i1, _, xs, cc, RR, ho, _, _, hsp, _⟩ := h1.lst_inv
 obtain rfl : n1 = n2 := i1.trans h2.len.1.symm
 obtain ⟨g, cap, hv, hcap, _, hmk⟩ := hsp rfl
 injection hv with hv1 _ hv3
 subst hv1 hv3
 have hcm := (ownsRow_cap ho).2
 have hgl := (ho.lt g rfl).2
 have hcap' : (n1 : Int) < (c1 : Int) := by omega
 have hmk' : Hid (∀ j, j < 17 → w.cell? ⟨g, n1 * 17 + j, none⟩ = ([.int .u8 0, .string ⟨#[115, 112, 97, 114, 101]⟩, .string ⟨#[]⟩, .int .u8 0, .int .i64 0, .string ⟨#[]⟩, .slice none 0 0, .slice none 0 0, .slice none 0 0, .int .u8 0, .slice none 0 0, .slice none 0 0, .string ⟨#[]⟩, .slice none 0 0, .slice none 0 0, .slice none 0 0, .slice none 0 0] : List Value)[j]?) := hmk
 unfold maxLen at hcm
 clear i1 ho hsp hmk
 replace h1 := hi_ h1
 replace h2 := hi_ h2
 replace hS := hi_ hS
 go_enter Tryz.func70, Tryz.ntmps70
 go_wp2_with fail
 go_loopw [5] (fun i wr => ∃ k : Nat, k ≤ n1 ∧ i = .int .i64 (k : Nat) ∧ Below w.heap.size w wr) (fun i _ => n1 - (intOf i).toNat)
 case atStart => exact ⟨0, Nat.zero_le _, rfl, Below.refl _ _⟩
 case round =>
  obtain ⟨k, hk, rfl, hb⟩ := hrel
  by_cases hlt : k < n1
  ·have hlt9 : Hid (k + 1 ≤ n1) := hlt
   obtain ⟨v, q1, R', hg1, hc1, hv1⟩ := ownSt_elem (h1.out.later hb) k hlt
   obtain ⟨b2, o2, v', q2, rfl, hb2, hg2, hc2, hv2⟩ := StLs.elem (h2.out.kept hb) k hlt
   obtain rfl : v = v' := Option.some.inj (hg1.symm.trans hg2)
   have hzb := hb.size
   obtain ⟨Z1, Z2, hl1, hl2, cS⟩ : ∃ Z1 Z2 : Array Value, (∀ d : LowW wr, (Instr.loadAt 63 (.pointer (some ⟨g, k * 17, none⟩))).run Tryz.prog d.w = .ok (.agg Z1) d.w) ∧ (∀ d : LowW wr, (Instr.loadAt 63 (.pointer (some ⟨b2, o2 + k * 17, none⟩))).run Tryz.prog d.w = .ok (.agg Z2) d.w) ∧
     ∀ d : LowW wr, Calls Tryz.prog 99 #[.agg Z1, .agg Z2] d.w fun e w' => e = .returned (.bool true) ∧ ∃ d' : LowW wr, w' = d'.w :=
    ⟨q1.arr v, q2.arr v, fun d => St_load fun j hj => (d.cell (p := ⟨g, k * 17 + j, none⟩) (by show g < _; omega)).trans (hc1 j hj),
     fun d => St_load fun j hj => by rw [Nat.add_assoc]; exact (d.cell (p := ⟨b2, o2 + (k * 17 + j), none⟩) (by show b2 < _; omega)).trans (hc2 j hj),
     fun d => (hS.out v (List.mem_of_getElem? hg1) q1 q2 base R' d.w (hv1.later d.low) (((hv2.kept (d.low.mono hb.size)).mono hb.size).mono d.low.size)).mono fun e w' h => ⟨h.1, d.more h.2⟩⟩
   replace cS := hi_ cS
   replace hl1 := hi_ hl1
   replace hl2 := hi_ hl2
   replace hb := hi_ hb
   clear hc1 hc2 hv1 hv2 hg1 hg2
   go_wp2_with fail
   refine wp_region_low (by kernel_rfl) (by kernel_rfl) ?_
   repeat (first | (go_big_quiet_want; first | (refine ld_quiet hl1.out _ rfl rfl ?_; go_simp; go_big_quiet_on) | (refine ld_quiet hl2.out _ rfl rfl ?_; go_simp; go_big_quiet_on)) | go_big_quiet_step (first | (go_at_call 99; exact cS.out _)))
   refine wpQuiet_nil ?_
   rintro _ ⟨d, rfl⟩
   have hb3' := hi_ (hb.out.trans (d.low.mono hb.out.size))
   go_wp2_with fail
   go_roundw
   case rel => exact ⟨k + 1, hlt9.out, by go_num, hb3'.out⟩
   case measure => simp [intOf]; have := hlt9.out; omega
  ·obtain rfl : k = n1 := by omega
   have hc9 : ∀ j, j < 17 → wr.cell? ⟨g, k * 17 + j, none⟩ = ([.int .u8 0, .string ⟨#[115, 112, 97, 114, 101]⟩, .string ⟨#[]⟩, .int .u8 0, .int .i64 0, .string ⟨#[]⟩, .slice none 0 0, .slice none 0 0, .slice none 0 0, .int .u8 0, .slice none 0 0, .slice none 0 0, .string ⟨#[]⟩, .slice none 0 0, .slice none 0 0, .slice none 0 0, .slice none 0 0] : List Value)[j]? := fun j hj => (hb.cell (p := ⟨g, k * 17 + j, none⟩) hgl).trans (hmk'.out j hj)
   have x0 : wr.cell? ⟨g, k * 17, none⟩ = some (.int .u8 0) := hc9 0 (by omega)
   have x1 : wr.cell? ⟨g, k * 17 + 1, none⟩ = some (.string ⟨#[115, 112, 97, 114, 101]⟩) := hc9 1 (by omega)
   have x2 : wr.cell? ⟨g, k * 17 + 2, none⟩ = some (.string ⟨#[]⟩) := hc9 2 (by omega)
   have x3 : wr.cell? ⟨g, k * 17 + 3, none⟩ = some (.int .u8 0) := hc9 3 (by omega)
   have x4 : wr.cell? ⟨g, k * 17 + 4, none⟩ = some (.int .i64 0) := hc9 4 (by omega)
   have x5 : wr.cell? ⟨g, k * 17 + 5, none⟩ = some (.string ⟨#[]⟩) := hc9 5 (by omega)
   have x6 : wr.cell? ⟨g, k * 17 + 6, none⟩ = some (.slice none 0 0) := hc9 6 (by omega)
   have x7 : wr.cell? ⟨g, k * 17 + 7, none⟩ = some (.slice none 0 0) := hc9 7 (by omega)
   have x8 : wr.cell? ⟨g, k * 17 + 8, none⟩ = some (.slice none 0 0) := hc9 8 (by omega)
   have x9 : wr.cell? ⟨g, k * 17 + 9, none⟩ = some (.int .u8 0) := hc9 9 (by omega)
   have x10 : wr.cell? ⟨g, k * 17 + 10, none⟩ = some (.slice none 0 0) := hc9 10 (by omega)
   have x11 : wr.cell? ⟨g, k * 17 + 11, none⟩ = some (.slice none 0 0) := hc9 11 (by omega)
   have x12 : wr.cell? ⟨g, k * 17 + 12, none⟩ = some (.string ⟨#[]⟩) := hc9 12 (by omega)
   have x13 : wr.cell? ⟨g, k * 17 + 13, none⟩ = some (.slice none 0 0) := hc9 13 (by omega)
   have x14 : wr.cell? ⟨g, k * 17 + 14, none⟩ = some (.slice none 0 0) := hc9 14 (by omega)
   have x15 : wr.cell? ⟨g, k * 17 + 15, none⟩ = some (.slice none 0 0) := hc9 15 (by omega)
   have x16 : wr.cell? ⟨g, k * 17 + 16, none⟩ = some (.slice none 0 0) := hc9 16 (by omega)
   have hal := hi_ (hb.alloc hb.size (.cells A64_ 63))
   replace hb := hi_ hb
   have hc8 : (k : Int) + 1 ≤ (c1 : Int) := by omega
   clear hc9
   go_wp2_with fail
   go_ret
   exact ⟨rfl, hal.out⟩
theorem leftComponents_any (L : List Co) (hS : ∀ v ∈ L, LeftCo v) (a1 a2 : Option Addr) (n1 n2 c1 c2 base : Nat) (R : List Row) (w : World) (h1 : Own w base twinM mkS (.lst 52 13 (L.map Co.tr)) [.slice a1 n1 c1] R) (h2 : CoLs w w.heap.size L a2 n2) :
  Calls Tryz.prog 22 #[.slice a1 n1 c1, .slice a2 n2 c2] w fun e w' => e = .returned (.bool true) ∧ Below w.heap.size w w' := by
 have hn := h2.len.2
 obtain ⟨i1, _, xs, cc, RR, ho, _, _, hsp, _⟩ := h1.lst_inv
 obtain rfl : n1 = n2 := i1.trans h2.len.1.symm
 obtain ⟨g, cap, hv, hcap, _, hmk⟩ := hsp rfl
 injection hv with hv1 _ hv3
 subst hv1 hv3
 have hcm := (ownsRow_cap ho).2
 have hgl := (ho.lt g rfl).2
 have hcap' : (n1 : Int) < (c1 : Int) := by omega
 have hmk' : Hid (∀ j, j < 13 → w.cell? ⟨g, n1 * 13 + j, none⟩ = ([.string ⟨#[115, 112, 97, 114, 101]⟩, .string ⟨#[]⟩, .slice none 0 0, .int .u8 0, .int .i64 0, .string ⟨#[]⟩, .slice none 0 0, .slice none 0 0, .slice none 0 0, .int .u8 0, .slice none 0 0, .slice none 0 0, .string ⟨#[]⟩] : List Value)[j]?) := hmk
 unfold maxLen at hcm
 clear i1 ho hsp hmk
 replace h1 := hi_ h1
 replace h2 := hi_ h2
 replace hS := hi_ hS
 go_enter Tryz.func22, Tryz.ntmps22
 go_wp2_with fail
 go_loopw [5] (fun i wr => ∃ k : Nat, k ≤ n1 ∧ i = .int .i64 (k : Nat) ∧ Below w.heap.size w wr) (fun i _ => n1 - (intOf i).toNat)
 case atStart => exact ⟨0, Nat.zero_le _, rfl, Below.refl _ _⟩
 case round =>
  obtain ⟨k, hk, rfl, hb⟩ := hrel
  by_cases hlt : k < n1
  ·have hlt9 : Hid (k + 1 ≤ n1) := hlt
   obtain ⟨v, q1, R', hg1, hc1, hv1⟩ := ownCo_elem (h1.out.later hb) k hlt
   obtain ⟨b2, o2, v', q2, rfl, hb2, hg2, hc2, hv2⟩ := CoLs.elem (h2.out.kept hb) k hlt
   obtain rfl : v = v' := Option.some.inj (hg1.symm.trans hg2)
   have hzb := hb.size
   obtain ⟨Z1, Z2, hl1, hl2, cS⟩ : ∃ Z1 Z2 : Array Value, (∀ d : LowW wr, (Instr.loadAt 52 (.pointer (some ⟨g, k * 13, none⟩))).run Tryz.prog d.w = .ok (.agg Z1) d.w) ∧ (∀ d : LowW wr, (Instr.loadAt 52 (.pointer (some ⟨b2, o2 + k * 13, none⟩))).run Tryz.prog d.w = .ok (.agg Z2) d.w) ∧
     ∀ d : LowW wr, Calls Tryz.prog 44 #[.agg Z1, .agg Z2] d.w fun e w' => e = .returned (.bool true) ∧ ∃ d' : LowW wr, w' = d'.w :=
    ⟨q1.arr v, q2.arr v, fun d => Co_load fun j hj => (d.cell (p := ⟨g, k * 13 + j, none⟩) (by show g < _; omega)).trans (hc1 j hj),
     fun d => Co_load fun j hj => by rw [Nat.add_assoc]; exact (d.cell (p := ⟨b2, o2 + (k * 13 + j), none⟩) (by show b2 < _; omega)).trans (hc2 j hj),
     fun d => (hS.out v (List.mem_of_getElem? hg1) q1 q2 base R' d.w (hv1.later d.low) (((hv2.kept (d.low.mono hb.size)).mono hb.size).mono d.low.size)).mono fun e w' h => ⟨h.1, d.more h.2⟩⟩
   replace cS := hi_ cS
   replace hl1 := hi_ hl1
   replace hl2 := hi_ hl2
   replace hb := hi_ hb
   clear hc1 hc2 hv1 hv2 hg1 hg2
   go_wp2_with fail
   refine wp_region_low (by kernel_rfl) (by kernel_rfl) ?_
   repeat (first | (go_big_quiet_want; first | (refine ld_quiet hl1.out _ rfl rfl ?_; go_simp; go_big_quiet_on) | (refine ld_quiet hl2.out _ rfl rfl ?_; go_simp; go_big_quiet_on)) | go_big_quiet_step (first | (go_at_call 44; exact cS.out _)))
   refine wpQuiet_nil ?_
   rintro _ ⟨d, rfl⟩
   have hb3' := hi_ (hb.out.trans (d.low.mono hb.out.size))
   go_wp2_with fail
   go_roundw
   case rel => exact ⟨k + 1, hlt9.out, by go_num, hb3'.out⟩
   case measure => simp [intOf]; have := hlt9.out; omega
  ·obtain rfl : k = n1 := by omega
   have hc9 : ∀ j, j < 13 → wr.cell? ⟨g, k * 13 + j, none⟩ = ([.string ⟨#[115, 112, 97, 114, 101]⟩, .string ⟨#[]⟩, .slice none 0 0, .int .u8 0, .int .i64 0, .string ⟨#[]⟩, .slice none 0 0, .slice none 0 0, .slice none 0 0, .int .u8 0, .slice none 0 0, .slice none 0 0, .string ⟨#[]⟩] : List Value)[j]? := fun j hj => (hb.cell (p := ⟨g, k * 13 + j, none⟩) hgl).trans (hmk'.out j hj)
   have x0 : wr.cell? ⟨g, k * 13, none⟩ = some (.string ⟨#[115, 112, 97, 114, 101]⟩) := hc9 0 (by omega)
   have x1 : wr.cell? ⟨g, k * 13 + 1, none⟩ = some (.string ⟨#[]⟩) := hc9 1 (by omega)
   have x2 : wr.cell? ⟨g, k * 13 + 2, none⟩ = some (.slice none 0 0) := hc9 2 (by omega)
   have x3 : wr.cell? ⟨g, k * 13 + 3, none⟩ = some (.int .u8 0) := hc9 3 (by omega)
   have x4 : wr.cell? ⟨g, k * 13 + 4, none⟩ = some (.int .i64 0) := hc9 4 (by omega)
   have x5 : wr.cell? ⟨g, k * 13 + 5, none⟩ = some (.string ⟨#[]⟩) := hc9 5 (by omega)
   have x6 : wr.cell? ⟨g, k * 13 + 6, none⟩ = some (.slice none 0 0) := hc9 6 (by omega)
   have x7 : wr.cell? ⟨g, k * 13 + 7, none⟩ = some (.slice none 0 0) := hc9 7 (by omega)
   have x8 : wr.cell? ⟨g, k * 13 + 8, none⟩ = some (.slice none 0 0) := hc9 8 (by omega)
   have x9 : wr.cell? ⟨g, k * 13 + 9, none⟩ = some (.int .u8 0) := hc9 9 (by omega)
   have x10 : wr.cell? ⟨g, k * 13 + 10, none⟩ = some (.slice none 0 0) := hc9 10 (by omega)
   have x11 : wr.cell? ⟨g, k * 13 + 11, none⟩ = some (.slice none 0 0) := hc9 11 (by omega)
   have x12 : wr.cell? ⟨g, k * 13 + 12, none⟩ = some (.string ⟨#[]⟩) := hc9 12 (by omega)
   have hal := hi_ (hb.alloc hb.size (.cells A65_ 52))
   replace hb := hi_ hb
   have hc8 : (k : Int) + 1 ≤ (c1 : Int) := by omega
   clear hc9
   go_wp2_with fail
   go_ret
   exact ⟨rfl, hal.out⟩
theorem leftEx_of (v : Ex) (hA : ∀ x ∈ v.args, LeftEx x) (hV : ∀ x ∈ v.vals, LeftEx x) (hK : ∀ x ∈ v.key, LeftEx x) (hC : ∀ x ∈ v.acts, LeftAc x) : LeftEx v := by
 intro q1 q2 base R w h1 h2
 obtain ⟨p1, hp1⟩ : ∃ p, p = w.heap.size := ⟨_, rfl⟩
 obtain ⟨S1, hS1⟩ : ∃ S1, S1 = w.alloc ((O0_ v q1)) := ⟨_, rfl⟩
 have hb1 : Below w.heap.size w S1 := by rw [hS1]; exact (Below.refl _ _).alloc (Nat.le_refl _) _
 have hr1 : S1.heap[p1]? = some ((O0_ v q1)) := by rw [hS1, hp1]; exact heap_alloc_new w _
 obtain ⟨p2, hp2⟩ : ∃ p, p = S1.heap.size := ⟨_, rfl⟩
 obtain ⟨S, hS⟩ : ∃ S, S = S1.alloc ((O0_ v q2)) := ⟨_, rfl⟩
 have hb2 : Below S1.heap.size S1 S := by rw [hS]; exact (Below.refl _ _).alloc (Nat.le_refl _) _
 have hy : S.heap[p2]? = some ((O0_ v q2)) := by rw [hS, hp2]; exact heap_alloc_new S1 _
 have hx : S.heap[p1]? = some ((O0_ v q1)) := (hb2.block _ (Array.getElem?_eq_some_iff.1 hr1).1).trans hr1
 have hbS : Below w.heap.size w S := hb1.trans (hb2.mono hb1.size)
 have lx : p1 < S.heap.size := (Array.getElem?_eq_some_iff.1 hx).1
 have ly : p2 < S.heap.size := (Array.getElem?_eq_some_iff.1 hy).1
 have hW1 : Hid (S1 = _) := hS1
 have hW : Hid (S = _) := hS
 clear hS hS1 hb1 hb2 hr1
 replace hp1 := hi_ hp1
 replace hp2 := hi_ hp2
 obtain ⟨R0, R1, R2, R3, R4, o0, o1, o2, o3, o4⟩ := h1.invEx
 have c0 := hi_ (fun W (hW : Below S.heap.size S W) => leftExprs_any v.args hA q1.argsa q2.argsa q1.argsn q2.argsn q1.argsc q2.argsc base R0 W (o0.later (hbS.trans (hW.mono hbS.size))) ((h2.args.kept (hbS.trans (hW.mono hbS.size))).mono (Nat.le_trans hbS.size hW.size)))
 have c1 := hi_ (fun W (hW : Below S.heap.size S W) => leftTexts_any v.names q1.namesa q2.namesa q1.namesn q2.namesn q1.namesc q2.namesc base R1 W (o1.later (hbS.trans (hW.mono hbS.size))) ((h2.names.kept (hbS.trans (hW.mono hbS.size))).mono (Nat.le_trans hbS.size hW.size)))
 have c2 := hi_ (fun W (hW : Below S.heap.size S W) => leftExprs_any v.vals hV q1.valsa q2.valsa q1.valsn q2.valsn q1.valsc q2.valsc base R2 W (o2.later (hbS.trans (hW.mono hbS.size))) ((h2.vals.kept (hbS.trans (hW.mono hbS.size))).mono (Nat.le_trans hbS.size hW.size)))
 have c3 := hi_ (fun W (hW : Below S.heap.size S W) => leftExprs_any v.key hK q1.keya q2.keya q1.keyn q2.keyn q1.keyc q2.keyc base R3 W (o3.later (hbS.trans (hW.mono hbS.size))) ((h2.key.kept (hbS.trans (hW.mono hbS.size))).mono (Nat.le_trans hbS.size hW.size)))
 have c4 := hi_ (fun W (hW : Below S.heap.size S W) => leftActs_any v.acts hC q1.actsa q2.actsa q1.actsn q2.actsn q1.actsc q2.actsc base R4 W (o4.later (hbS.trans (hW.mono hbS.size))) ((h2.acts.kept (hbS.trans (hW.mono hbS.size))).mono (Nat.le_trans hbS.size hW.size)))
 replace hbS := hi_ hbS
 have e_s : (v.s.toList == v.s.toList) = true := by simp
 have e_site : (v.site.toList == v.site.toList) = true := by simp
 clear h1 h2 o0 o1 o2 o3 o4 hA hV hK hC
 obtain ⟨x0, x1, x2, x3, -⟩ := c10_ (hx)
 obtain ⟨y0, y1, y2, y3, -⟩ := c10_ (hy)
 have c0a := hi_ (c0.out S (Below.refl _ _))
 replace hx := hi_ hx
 replace hy := hi_ hy
 go_enter Tryz.func71, Tryz.ntmps71
 go_upto_region 1 with (first | (rw [← hW1.out]) | (rw [← hW.out]) | (rw [← hp1.out]) | (rw [← hp2.out]))
 (try simp only [List.append_eq, List.cons_append, List.nil_append])
 go_wp2_with (go_at_call 100; refine c0a.out.mono ?_)
 first | rintro e w0 rfl b0 | rintro e w0 ⟨rfl, b0⟩
 have g0 : Below S.heap.size S w0 := b0
 clear b0 c0a x0 y0 x1 y1 x2 y2 x3 y3
 obtain ⟨-, -, -, -, x4, -⟩ := c10_ ((g0.block _ lx).trans hx.out)
 obtain ⟨-, -, -, -, y4, -⟩ := c10_ ((g0.block _ ly).trans hy.out)
 have c1a := hi_ (c1.out w0 g0)
 replace g0 := hi_ g0
 go_wp2_with (go_at_call 101; refine c1a.out.mono ?_)
 first | rintro e w1 rfl b1 | rintro e w1 ⟨rfl, b1⟩
 have g1 : Below S.heap.size S w1 := g0.out.trans (b1.mono g0.out.size)
 clear b1 c1a x4 y4
 obtain ⟨-, -, -, -, -, x5, -⟩ := c10_ ((g1.block _ lx).trans hx.out)
 obtain ⟨-, -, -, -, -, y5, -⟩ := c10_ ((g1.block _ ly).trans hy.out)
 have c2a := hi_ (c2.out w1 g1)
 replace g1 := hi_ g1
 go_wp2_with (go_at_call 100; refine c2a.out.mono ?_)
 first | rintro e w2 rfl b2 | rintro e w2 ⟨rfl, b2⟩
 have g2 : Below S.heap.size S w2 := g1.out.trans (b2.mono g1.out.size)
 clear b2 c2a x5 y5
 obtain ⟨-, -, -, -, -, -, x6, x7, -⟩ := c10_ ((g2.block _ lx).trans hx.out)
 obtain ⟨-, -, -, -, -, -, y6, y7, -⟩ := c10_ ((g2.block _ ly).trans hy.out)
 have c3a := hi_ (c3.out w2 g2)
 replace g2 := hi_ g2
 go_wp2_with (go_at_call 100; refine c3a.out.mono ?_)
 first | rintro e w3 rfl b3 | rintro e w3 ⟨rfl, b3⟩
 have g3 : Below S.heap.size S w3 := g2.out.trans (b3.mono g2.out.size)
 clear b3 c3a x6 y6 x7 y7
 obtain ⟨-, -, -, -, -, -, -, -, x8, -⟩ := c10_ ((g3.block _ lx).trans hx.out)
 obtain ⟨-, -, -, -, -, -, -, -, y8, -⟩ := c10_ ((g3.block _ ly).trans hy.out)
 have c4a := hi_ (c4.out w3 g3)
 replace g3 := hi_ g3
 go_wp2_with (go_at_call 102; refine c4a.out.mono ?_)
 first | rintro e w4 rfl b4 | rintro e w4 ⟨rfl, b4⟩
 have g4 : Below S.heap.size S w4 := g3.out.trans (b4.mono g3.out.size)
 clear b4 c4a x8 y8
 obtain ⟨-, -, -, -, -, -, -, -, -, x9⟩ := c10_ ((g4.block _ lx).trans hx.out)
 obtain ⟨-, -, -, -, -, -, -, -, -, y9⟩ := c10_ ((g4.block _ ly).trans hy.out)
 have hfin := hi_ (hbS.out.trans (g4.mono hbS.out.size))
 replace g4 := hi_ g4
 go_wp2_with fail
 go_ret
 exact ⟨rfl, by first | exact hfin.out | (rw [hp1.out]; exact hfin.out)⟩
theorem leftAc_of (v : Ac) (hX : LeftEx v.expr) : LeftAc v := by
 intro q1 q2 base R w h1 h2
 obtain ⟨p1, hp1⟩ : ∃ p, p = w.heap.size := ⟨_, rfl⟩
 obtain ⟨S1, hS1⟩ : ∃ S1, S1 = w.alloc ((O1_ v q1.expr)) := ⟨_, rfl⟩
 have hb1 : Below w.heap.size w S1 := by rw [hS1]; exact (Below.refl _ _).alloc (Nat.le_refl _) _
 have hr1 : S1.heap[p1]? = some ((O1_ v q1.expr)) := by rw [hS1, hp1]; exact heap_alloc_new w _
 obtain ⟨p2, hp2⟩ : ∃ p, p = S1.heap.size := ⟨_, rfl⟩
 obtain ⟨S, hS⟩ : ∃ S, S = S1.alloc ((O1_ v q2.expr)) := ⟨_, rfl⟩
 have hb2 : Below S1.heap.size S1 S := by rw [hS]; exact (Below.refl _ _).alloc (Nat.le_refl _) _
 have hy : S.heap[p2]? = some ((O1_ v q2.expr)) := by rw [hS, hp2]; exact heap_alloc_new S1 _
 have hx : S.heap[p1]? = some ((O1_ v q1.expr)) := (hb2.block _ (Array.getElem?_eq_some_iff.1 hr1).1).trans hr1
 have hbS : Below w.heap.size w S := hb1.trans (hb2.mono hb1.size)
 have lx : p1 < S.heap.size := (Array.getElem?_eq_some_iff.1 hx).1
 have ly : p2 < S.heap.size := (Array.getElem?_eq_some_iff.1 hy).1
 have hW1 : Hid (S1 = _) := hS1
 have hW : Hid (S = _) := hS
 clear hS hS1 hb1 hb2 hr1
 replace hp1 := hi_ hp1
 replace hp2 := hi_ hp2
 obtain ⟨R0, o0⟩ := h1.invAc
 have c0 := hi_ (fun W (hW : Below S.heap.size S W) => hX q1.expr q2.expr base R0 W (o0.later (hbS.trans (hW.mono hbS.size))) ((h2.expr.kept (hbS.trans (hW.mono hbS.size))).mono (Nat.le_trans hbS.size hW.size)))
 replace hbS := hi_ hbS
 have e_name : (v.name.toList == v.name.toList) = true := by simp
 clear h1 h2 o0 hX
 have hY := hx
 obtain ⟨x0, x1, -⟩ := c12_ hY
 have x2 := hi_ (mid_load (o := 2) (T := 50) (cs := [.int .u8 v.expr.kind, .int .i64 v.expr.n, .string v.expr.s, .slice q1.expr.argsa q1.expr.argsn q1.expr.argsc, .slice q1.expr.namesa q1.expr.namesn q1.expr.namesc, .slice q1.expr.valsa q1.expr.valsn q1.expr.valsc, .int .u8 v.expr.elem, .slice q1.expr.keya q1.expr.keyn q1.expr.keyc, .slice q1.expr.actsa q1.expr.actsn q1.expr.actsc, .string v.expr.site]) hY (by intro i z hz; simp only [List.getElem?_eq_some_iff] at hz; obtain ⟨hi, rfl⟩ := hz; match i, hi with
   | 0, _ => rfl
   | 1, _ => rfl
   | 2, _ => rfl
   | 3, _ => rfl
   | 4, _ => rfl
   | 5, _ => rfl
   | 6, _ => rfl
   | 7, _ => rfl
   | 8, _ => rfl
   | 9, _ => rfl) Tryz.underlying50 rfl sizeEx_info)
 clear hY
 have hY := hy
 obtain ⟨y0, y1, -⟩ := c12_ hY
 have y2 := hi_ (mid_load (o := 2) (T := 50) (cs := [.int .u8 v.expr.kind, .int .i64 v.expr.n, .string v.expr.s, .slice q2.expr.argsa q2.expr.argsn q2.expr.argsc, .slice q2.expr.namesa q2.expr.namesn q2.expr.namesc, .slice q2.expr.valsa q2.expr.valsn q2.expr.valsc, .int .u8 v.expr.elem, .slice q2.expr.keya q2.expr.keyn q2.expr.keyc, .slice q2.expr.actsa q2.expr.actsn q2.expr.actsc, .string v.expr.site]) hY (by intro i z hz; simp only [List.getElem?_eq_some_iff] at hz; obtain ⟨hi, rfl⟩ := hz; match i, hi with
   | 0, _ => rfl
   | 1, _ => rfl
   | 2, _ => rfl
   | 3, _ => rfl
   | 4, _ => rfl
   | 5, _ => rfl
   | 6, _ => rfl
   | 7, _ => rfl
   | 8, _ => rfl
   | 9, _ => rfl) Tryz.underlying50 rfl sizeEx_info)
 clear hY
 have c0a := hi_ (c0.out S (Below.refl _ _))
 replace hx := hi_ hx
 replace hy := hi_ hy
 go_enter Tryz.func131, Tryz.ntmps131
 go_wp2_with (first | (rw [← hW1.out]) | (rw [← hW.out]) | (rw [← hp1.out]) | (rw [← hp2.out]) | (refine ld_armg x2.out _ rfl rfl rfl ?_) | (refine ld_armg y2.out _ rfl rfl rfl ?_) | (go_at_call 71; refine c0a.out.mono ?_))
 first | rintro e w0 rfl b0 | rintro e w0 ⟨rfl, b0⟩
 have g0 : Below S.heap.size S w0 := b0
 clear b0 c0a x0 y0 x1 y1 x2 y2
 have hfin := hi_ (hbS.out.trans (g0.mono hbS.out.size))
 replace g0 := hi_ g0
 go_wp2_with fail
 go_ret
 exact ⟨rfl, by first | exact hfin.out | (rw [hp1.out]; exact hfin.out)⟩
theorem leftSt_of (v : St) (hX : LeftEx v.expr) (hD : ∀ x ∈ v.deps, LeftEx x) (hO : ∀ x ∈ v.dos, LeftAc x) (hU : ∀ x ∈ v.undo, LeftAc x) (hB : ∀ x ∈ v.body, LeftSt x) : LeftSt v := by
 intro q1 q2 base R w h1 h2
 obtain ⟨p1, hp1⟩ : ∃ p, p = w.heap.size := ⟨_, rfl⟩
 obtain ⟨S1, hS1⟩ : ∃ S1, S1 = w.alloc ((O2_ v q1)) := ⟨_, rfl⟩
 have hb1 : Below w.heap.size w S1 := by rw [hS1]; exact (Below.refl _ _).alloc (Nat.le_refl _) _
 have hr1 : S1.heap[p1]? = some ((O2_ v q1)) := by rw [hS1, hp1]; exact heap_alloc_new w _
 obtain ⟨p2, hp2⟩ : ∃ p, p = S1.heap.size := ⟨_, rfl⟩
 obtain ⟨S, hS⟩ : ∃ S, S = S1.alloc ((O2_ v q2)) := ⟨_, rfl⟩
 have hb2 : Below S1.heap.size S1 S := by rw [hS]; exact (Below.refl _ _).alloc (Nat.le_refl _) _
 have hy : S.heap[p2]? = some ((O2_ v q2)) := by rw [hS, hp2]; exact heap_alloc_new S1 _
 have hx : S.heap[p1]? = some ((O2_ v q1)) := (hb2.block _ (Array.getElem?_eq_some_iff.1 hr1).1).trans hr1
 have hbS : Below w.heap.size w S := hb1.trans (hb2.mono hb1.size)
 have lx : p1 < S.heap.size := (Array.getElem?_eq_some_iff.1 hx).1
 have ly : p2 < S.heap.size := (Array.getElem?_eq_some_iff.1 hy).1
 have hW1 : Hid (S1 = _) := hS1
 have hW : Hid (S = _) := hS
 clear hS hS1 hb1 hb2 hr1
 replace hp1 := hi_ hp1
 replace hp2 := hi_ hp2
 obtain ⟨R0, R1, R2, R3, R4, o0, o1, o2, o3, o4⟩ := h1.invSt
 have c0 := hi_ (fun W (hW : Below S.heap.size S W) => hX q1.expr q2.expr base R0 W (o0.later (hbS.trans (hW.mono hbS.size))) ((h2.expr.kept (hbS.trans (hW.mono hbS.size))).mono (Nat.le_trans hbS.size hW.size)))
 have c1 := hi_ (fun W (hW : Below S.heap.size S W) => leftExprs_any v.deps hD q1.depsa q2.depsa q1.depsn q2.depsn q1.depsc q2.depsc base R1 W (o1.later (hbS.trans (hW.mono hbS.size))) ((h2.deps.kept (hbS.trans (hW.mono hbS.size))).mono (Nat.le_trans hbS.size hW.size)))
 have c2 := hi_ (fun W (hW : Below S.heap.size S W) => leftActs_any v.dos hO q1.dosa q2.dosa q1.dosn q2.dosn q1.dosc q2.dosc base R2 W (o2.later (hbS.trans (hW.mono hbS.size))) ((h2.dos.kept (hbS.trans (hW.mono hbS.size))).mono (Nat.le_trans hbS.size hW.size)))
 have c3 := hi_ (fun W (hW : Below S.heap.size S W) => leftActs_any v.undo hU q1.undoa q2.undoa q1.undon q2.undon q1.undoc q2.undoc base R3 W (o3.later (hbS.trans (hW.mono hbS.size))) ((h2.undo.kept (hbS.trans (hW.mono hbS.size))).mono (Nat.le_trans hbS.size hW.size)))
 have c4 := hi_ (fun W (hW : Below S.heap.size S W) => leftStmts_any v.body hB q1.bodya q2.bodya q1.bodyn q2.bodyn q1.bodyc q2.bodyc base R4 W (o4.later (hbS.trans (hW.mono hbS.size))) ((h2.body.kept (hbS.trans (hW.mono hbS.size))).mono (Nat.le_trans hbS.size hW.size)))
 replace hbS := hi_ hbS
 have e_name : (v.name.toList == v.name.toList) = true := by simp
 have e_ctx : (v.ctx.toList == v.ctx.toList) = true := by simp
 clear h1 h2 o0 o1 o2 o3 o4 hX hD hO hU hB
 have hY := hx
 obtain ⟨x0, x1, x2, -⟩ := c17_ hY
 have x3 := hi_ (mid_load (o := 3) (T := 50) (cs := [.int .u8 v.expr.kind, .int .i64 v.expr.n, .string v.expr.s, .slice q1.expr.argsa q1.expr.argsn q1.expr.argsc, .slice q1.expr.namesa q1.expr.namesn q1.expr.namesc, .slice q1.expr.valsa q1.expr.valsn q1.expr.valsc, .int .u8 v.expr.elem, .slice q1.expr.keya q1.expr.keyn q1.expr.keyc, .slice q1.expr.actsa q1.expr.actsn q1.expr.actsc, .string v.expr.site]) hY (by intro i z hz; simp only [List.getElem?_eq_some_iff] at hz; obtain ⟨hi, rfl⟩ := hz; match i, hi with
   | 0, _ => rfl
   | 1, _ => rfl
   | 2, _ => rfl
   | 3, _ => rfl
   | 4, _ => rfl
   | 5, _ => rfl
   | 6, _ => rfl
   | 7, _ => rfl
   | 8, _ => rfl
   | 9, _ => rfl) Tryz.underlying50 rfl sizeEx_info)
 clear hY
 have hY := hy
 obtain ⟨y0, y1, y2, -⟩ := c17_ hY
 have y3 := hi_ (mid_load (o := 3) (T := 50) (cs := [.int .u8 v.expr.kind, .int .i64 v.expr.n, .string v.expr.s, .slice q2.expr.argsa q2.expr.argsn q2.expr.argsc, .slice q2.expr.namesa q2.expr.namesn q2.expr.namesc, .slice q2.expr.valsa q2.expr.valsn q2.expr.valsc, .int .u8 v.expr.elem, .slice q2.expr.keya q2.expr.keyn q2.expr.keyc, .slice q2.expr.actsa q2.expr.actsn q2.expr.actsc, .string v.expr.site]) hY (by intro i z hz; simp only [List.getElem?_eq_some_iff] at hz; obtain ⟨hi, rfl⟩ := hz; match i, hi with
   | 0, _ => rfl
   | 1, _ => rfl
   | 2, _ => rfl
   | 3, _ => rfl
   | 4, _ => rfl
   | 5, _ => rfl
   | 6, _ => rfl
   | 7, _ => rfl
   | 8, _ => rfl
   | 9, _ => rfl) Tryz.underlying50 rfl sizeEx_info)
 clear hY
 have c0a := hi_ (c0.out S (Below.refl _ _))
 replace hx := hi_ hx
 replace hy := hi_ hy
 go_enter Tryz.func99, Tryz.ntmps99
 go_upto_region 1 with (first | (rw [← hW1.out]) | (rw [← hW.out]) | (rw [← hp1.out]) | (rw [← hp2.out]))
 (try simp only [List.append_eq, List.cons_append, List.nil_append])
 go_wp2_with (first | (refine ld_armg x3.out _ rfl rfl rfl ?_) | (refine ld_armg y3.out _ rfl rfl rfl ?_) | (go_at_call 71; refine c0a.out.mono ?_))
 first | rintro e w0 rfl b0 | rintro e w0 ⟨rfl, b0⟩
 have g0 : Below S.heap.size S w0 := b0
 clear b0 c0a x0 y0 x1 y1 x2 y2 x3 y3
 obtain ⟨-, -, -, -, -, -, -, -, -, -, -, -, -, x13, -⟩ := c17_ ((g0.block _ lx).trans hx.out)
 obtain ⟨-, -, -, -, -, -, -, -, -, -, -, -, -, y13, -⟩ := c17_ ((g0.block _ ly).trans hy.out)
 have c1a := hi_ (c1.out w0 g0)
 replace g0 := hi_ g0
 go_wp2_with (go_at_call 100; refine c1a.out.mono ?_)
 first | rintro e w1 rfl b1 | rintro e w1 ⟨rfl, b1⟩
 have g1 : Below S.heap.size S w1 := g0.out.trans (b1.mono g0.out.size)
 clear b1 c1a x13 y13
 obtain ⟨-, -, -, -, -, -, -, -, -, -, -, -, -, -, x14, -⟩ := c17_ ((g1.block _ lx).trans hx.out)
 obtain ⟨-, -, -, -, -, -, -, -, -, -, -, -, -, -, y14, -⟩ := c17_ ((g1.block _ ly).trans hy.out)
 have c2a := hi_ (c2.out w1 g1)
 replace g1 := hi_ g1
 go_wp2_with (go_at_call 102; refine c2a.out.mono ?_)
 first | rintro e w2 rfl b2 | rintro e w2 ⟨rfl, b2⟩
 have g2 : Below S.heap.size S w2 := g1.out.trans (b2.mono g1.out.size)
 clear b2 c2a x14 y14
 obtain ⟨-, -, -, -, -, -, -, -, -, -, -, -, -, -, -, x15, -⟩ := c17_ ((g2.block _ lx).trans hx.out)
 obtain ⟨-, -, -, -, -, -, -, -, -, -, -, -, -, -, -, y15, -⟩ := c17_ ((g2.block _ ly).trans hy.out)
 have c3a := hi_ (c3.out w2 g2)
 replace g2 := hi_ g2
 go_wp2_with (go_at_call 102; refine c3a.out.mono ?_)
 first | rintro e w3 rfl b3 | rintro e w3 ⟨rfl, b3⟩
 have g3 : Below S.heap.size S w3 := g2.out.trans (b3.mono g2.out.size)
 clear b3 c3a x15 y15
 obtain ⟨-, -, -, -, -, -, -, -, -, -, -, -, -, -, -, -, x16⟩ := c17_ ((g3.block _ lx).trans hx.out)
 obtain ⟨-, -, -, -, -, -, -, -, -, -, -, -, -, -, -, -, y16⟩ := c17_ ((g3.block _ ly).trans hy.out)
 have c4a := hi_ (c4.out w3 g3)
 replace g3 := hi_ g3
 go_wp2_with (go_at_call 70; refine c4a.out.mono ?_)
 first | rintro e w4 rfl b4 | rintro e w4 ⟨rfl, b4⟩
 have g4 : Below S.heap.size S w4 := g3.out.trans (b4.mono g3.out.size)
 clear b4 c4a x16 y16
 have hfin := hi_ (hbS.out.trans (g4.mono hbS.out.size))
 replace g4 := hi_ g4
 go_wp2_with fail
 go_ret
 exact ⟨rfl, by first | exact hfin.out | (rw [hp1.out]; exact hfin.out)⟩
theorem leftCo_of (v : Co) (hB : ∀ x ∈ v.body, LeftSt x) (hX : LeftEx v.out) : LeftCo v := by
 intro q1 q2 base R w h1 h2
 obtain ⟨p1, hp1⟩ : ∃ p, p = w.heap.size := ⟨_, rfl⟩
 obtain ⟨S1, hS1⟩ : ∃ S1, S1 = w.alloc ((O3_ v q1)) := ⟨_, rfl⟩
 have hb1 : Below w.heap.size w S1 := by rw [hS1]; exact (Below.refl _ _).alloc (Nat.le_refl _) _
 have hr1 : S1.heap[p1]? = some ((O3_ v q1)) := by rw [hS1, hp1]; exact heap_alloc_new w _
 obtain ⟨p2, hp2⟩ : ∃ p, p = S1.heap.size := ⟨_, rfl⟩
 obtain ⟨S, hS⟩ : ∃ S, S = S1.alloc ((O3_ v q2)) := ⟨_, rfl⟩
 have hb2 : Below S1.heap.size S1 S := by rw [hS]; exact (Below.refl _ _).alloc (Nat.le_refl _) _
 have hy : S.heap[p2]? = some ((O3_ v q2)) := by rw [hS, hp2]; exact heap_alloc_new S1 _
 have hx : S.heap[p1]? = some ((O3_ v q1)) := (hb2.block _ (Array.getElem?_eq_some_iff.1 hr1).1).trans hr1
 have hbS : Below w.heap.size w S := hb1.trans (hb2.mono hb1.size)
 have lx : p1 < S.heap.size := (Array.getElem?_eq_some_iff.1 hx).1
 have ly : p2 < S.heap.size := (Array.getElem?_eq_some_iff.1 hy).1
 have hW1 : Hid (S1 = _) := hS1
 have hW : Hid (S = _) := hS
 clear hS hS1 hb1 hb2 hr1
 replace hp1 := hi_ hp1
 replace hp2 := hi_ hp2
 obtain ⟨R0, R1, o0, o1⟩ := h1.invCo
 have c0 := hi_ (fun W (hW : Below S.heap.size S W) => leftStmts_any v.body hB q1.bodya q2.bodya q1.bodyn q2.bodyn q1.bodyc q2.bodyc base R0 W (o0.later (hbS.trans (hW.mono hbS.size))) ((h2.body.kept (hbS.trans (hW.mono hbS.size))).mono (Nat.le_trans hbS.size hW.size)))
 have c1 := hi_ (fun W (hW : Below S.heap.size S W) => hX q1.out q2.out base R1 W (o1.later (hbS.trans (hW.mono hbS.size))) ((h2.out.kept (hbS.trans (hW.mono hbS.size))).mono (Nat.le_trans hbS.size hW.size)))
 replace hbS := hi_ hbS
 have e_name : (v.name.toList == v.name.toList) = true := by simp
 have e_param : (v.param.toList == v.param.toList) = true := by simp
 clear h1 h2 o0 o1 hX hB
 obtain ⟨x0, x1, x2, -⟩ := c13_ (hx)
 obtain ⟨y0, y1, y2, -⟩ := c13_ (hy)
 have c0a := hi_ (c0.out S (Below.refl _ _))
 replace hx := hi_ hx
 replace hy := hi_ hy
 go_enter Tryz.func44, Tryz.ntmps44
 go_wp2_with (first | (rw [← hW1.out]) | (rw [← hW.out]) | (rw [← hp1.out]) | (rw [← hp2.out]) | (go_at_call 70; refine c0a.out.mono ?_))
 first | rintro e w0 rfl b0 | rintro e w0 ⟨rfl, b0⟩
 have g0 : Below S.heap.size S w0 := b0
 clear b0 c0a x0 y0 x1 y1 x2 y2
 have hY := (g0.block _ lx).trans hx.out
 have x3 := hi_ (mid_load (o := 3) (T := 50) (cs := [.int .u8 v.out.kind, .int .i64 v.out.n, .string v.out.s, .slice q1.out.argsa q1.out.argsn q1.out.argsc, .slice q1.out.namesa q1.out.namesn q1.out.namesc, .slice q1.out.valsa q1.out.valsn q1.out.valsc, .int .u8 v.out.elem, .slice q1.out.keya q1.out.keyn q1.out.keyc, .slice q1.out.actsa q1.out.actsn q1.out.actsc, .string v.out.site]) hY (by intro i z hz; simp only [List.getElem?_eq_some_iff] at hz; obtain ⟨hi, rfl⟩ := hz; match i, hi with
   | 0, _ => rfl
   | 1, _ => rfl
   | 2, _ => rfl
   | 3, _ => rfl
   | 4, _ => rfl
   | 5, _ => rfl
   | 6, _ => rfl
   | 7, _ => rfl
   | 8, _ => rfl
   | 9, _ => rfl) Tryz.underlying50 rfl sizeEx_info)
 clear hY
 have hY := (g0.block _ ly).trans hy.out
 have y3 := hi_ (mid_load (o := 3) (T := 50) (cs := [.int .u8 v.out.kind, .int .i64 v.out.n, .string v.out.s, .slice q2.out.argsa q2.out.argsn q2.out.argsc, .slice q2.out.namesa q2.out.namesn q2.out.namesc, .slice q2.out.valsa q2.out.valsn q2.out.valsc, .int .u8 v.out.elem, .slice q2.out.keya q2.out.keyn q2.out.keyc, .slice q2.out.actsa q2.out.actsn q2.out.actsc, .string v.out.site]) hY (by intro i z hz; simp only [List.getElem?_eq_some_iff] at hz; obtain ⟨hi, rfl⟩ := hz; match i, hi with
   | 0, _ => rfl
   | 1, _ => rfl
   | 2, _ => rfl
   | 3, _ => rfl
   | 4, _ => rfl
   | 5, _ => rfl
   | 6, _ => rfl
   | 7, _ => rfl
   | 8, _ => rfl
   | 9, _ => rfl) Tryz.underlying50 rfl sizeEx_info)
 clear hY
 have c1a := hi_ (c1.out w0 g0)
 replace g0 := hi_ g0
 go_wp2_with (first | (refine ld_armg x3.out _ rfl rfl rfl ?_) | (refine ld_armg y3.out _ rfl rfl rfl ?_) | (go_at_call 71; refine c1a.out.mono ?_))
 first | rintro e w1 rfl b1 | rintro e w1 ⟨rfl, b1⟩
 have g1 : Below S.heap.size S w1 := g0.out.trans (b1.mono g0.out.size)
 clear b1 c1a x3 y3
 have hfin := hi_ (hbS.out.trans (g1.mono hbS.out.size))
 replace g1 := hi_ g1
 go_wp2_with fail
 go_ret
 exact ⟨rfl, by first | exact hfin.out | (rw [hp1.out]; exact hfin.out)⟩
theorem left_ex (v : Ex) : LeftEx v := Ex.both (Q := LeftAc) (fun v h1 h2 h3 h4 => leftEx_of v h1 h2 h3 h4) (fun v h => leftAc_of v h) v
theorem left_ac (v : Ac) : LeftAc v := leftAc_of v (left_ex _)
theorem left_st (v : St) : LeftSt v := St.ind (P := LeftSt) (fun v h => leftSt_of v (left_ex _) (fun x _ => left_ex x) (fun x _ => left_ac x) (fun x _ => left_ac x) h) v
theorem left_co (v : Co) : LeftCo v := leftCo_of v (fun x _ => left_st x) (left_ex _)
theorem leftProgram_any (L : List Co) (a1 a2 : Option Addr) (n1 n2 c1 c2 base : Nat) (R : List Row) (w : World) (h1 : Own w base twinM mkS (.lst 52 13 (L.map Co.tr)) [.slice a1 n1 c1] R) (h2 : CoLs w w.heap.size L a2 n2) :
  Calls Tryz.prog 9 #[.slice a1 n1 c1, .slice a2 n2 c2] w fun e w' => e = .returned (.bool true) ∧ Below w.heap.size w w' := by
 have cS := hi_ (leftComponents_any L (fun v _ => left_co v) a1 a2 n1 n2 c1 c2 base R w h1 h2)
 replace h1 := hi_ h1
 replace h2 := hi_ h2
 go_enter Tryz.func9, Tryz.ntmps9
 go_wp2_with (go_at_call 22; refine cS.out.mono ?_)
 first | rintro e w3 rfl hb3 | rintro e w3 ⟨rfl, hb3⟩
 replace hb3 := hi_ hb3
 go_wp2_with fail
 go_ret
 exact ⟨rfl, hb3.out⟩
theorem own_cls {w : World} {base n c : Nat} {m : Mode} {mk : Nat → List Value} {L : List Co} {a : Option Addr} {R : List Row} (h : Own w base m mk (.lst 52 13 (L.map Co.tr)) [.slice a n c] R) : CoLs w w.heap.size L a n := by
 obtain ⟨ao, cap, e, hl⟩ := h.at.lst_inv
 simp at e
 obtain ⟨rfl, rfl, rfl⟩ := e
 rw [List.length_map] at hl
 exact hl
theorem beyond_any (g x : Nat) (hx : x ≤ 1048576) (w : World) (h : w.cell? ⟨g, 0, none⟩ = some (.int .i64 (x : Nat))) :
  Calls Tryz.prog 4 #[.slice (some ⟨g, 0, none⟩) 1 1] w fun e w' => e = .returned (.bool false) ∧ w' = w := by
 have hx2 : ¬ (1048576 : Int) < (x : Int) := by omega
 go_enter Tryz.func4, Tryz.ntmps4
 go_wp2_with fail
 go_loopw [3, 4] (fun s i wr => ∃ k : Nat, k ≤ 1 ∧ i = .int .i64 (k : Nat) ∧ s = .int .i64 (if k = 0 then 0 else (x : Int)) ∧ wr = w) (fun _ i _ => 1 - (intOf i).toNat)
 case atStart => exact ⟨0, by omega, by first | rfl | trivial, by first | rfl | trivial, by first | rfl | trivial⟩
 case round =>
  obtain ⟨k, hk, rfl, rfl, rfl⟩ := hrel
  rcases (by omega : k = 0 ∨ k = 1) with rfl | rfl
  ·simp only [if_true]
   go_wp2_with fail
   go_roundw
   case rel => exact ⟨1, by omega, by go_num, by first | trivial | simp, by first | rfl | trivial⟩
   case measure => simp [intOf]
  ·go_wp2_with fail
   go_ret
   first | exact ⟨rfl, rfl⟩ | exact ⟨rfl, trivial⟩ | exact rfl
theorem printTexts_main (L : List Co) (a : Option Addr) (n c : Nat) (w : World) (hE : Lx.Env w) (hw : L.length + wts (L.map Co.tr) ≤ 1048576) (h : CoLs w w.heap.size L a n) :
  Calls Tryz.prog 3 #[.slice a n c] w fun e w' => e = .returned (.bool true) ∧ Below w.heap.size w w' := by
 have hok : oks (L.map Co.tr) = true := h.oks
 have hFp : FitP (pCos L pS0) := by have := (pCos_le L hok pS0).hi; unfold FitP; simp only [pS0, List.length_nil] at this ⊢; omega
 have hFr : FitR (rCos L rS0) := by have := (rCos_le L hok rS0).hi; unfold FitR; simp only [rS0, List.length_nil] at this ⊢; omega
 have hse := hE.size
 have hsame := tell_same L hok
 have cZ := hi_ (sizeProgram_any L a n c w hw h)
 obtain ⟨N, hN⟩ : ∃ N, N = L.length + wts (L.map Co.tr) := ⟨_, rfl⟩
 rw [← hN] at cZ
 have hN9 : N ≤ 1048576 := by omega
 obtain ⟨z, hz⟩ : ∃ z, z = (tellB (rCos L rS0).bad (rCos L rS0).l).1 := ⟨_, rfl⟩
 obtain ⟨y, hy⟩ : ∃ y, y = (tellB (rCos L rS0).bad (rCos L rS0).l).2 := ⟨_, rfl⟩
 have hz1 : (z.toList == z.toList) = true := by simp
 have hy1 : (y == y) = true := by simp
 replace hN := hi_ hN
 replace hz := hi_ hz
 replace hy := hi_ hy
 replace h := hi_ h
 replace hE := hi_ hE
 replace hw := hi_ hw
 replace hFp := hi_ hFp
 replace hFr := hi_ hFr
 replace hsame := hi_ hsame
 clear hok
 go_enter Tryz.func3, Tryz.ntmps3
 go_wp2_with (go_at_call 5; refine cZ.out.mono ?_)
 first | rintro e W1 rfl hb1 | rintro e W1 ⟨rfl, hb1⟩
 obtain ⟨S1, hS1⟩ : ∃ S1, S1 = W1.alloc (.cells #[.int .i64 (N : Nat)] 3) := ⟨_, rfl⟩
 have hbS1 : Below W1.heap.size W1 S1 := by rw [hS1]; exact (Below.refl _ _).alloc (Nat.le_refl _) _
 have hcS1 : S1.cell? ⟨W1.heap.size, 0, none⟩ = some (.int .i64 (N : Nat)) := by
  have : S1.heap[W1.heap.size]? = some (.cells #[.int .i64 (N : Nat)] 3 (0, 0)) := by rw [hS1]; exact heap_alloc_new W1 _
  simp [World.cell?, this]
 have cB := hi_ (beyond_any W1.heap.size N hN9 S1 hcS1)
 have hl1 : Hid (Below w.heap.size w S1) := hb1.trans (hbS1.mono hb1.size)
 have cT := hi_ (twinProgram_any L a n c S1 hw.out (h.out.later hl1.out))
 replace hS1 := hi_ hS1
 clear hb1 hbS1 hcS1
 go_wp2_with (first | (rw [← hS1.out]) | (go_at_call 4; refine cB.out.mono ?_))
 first | rintro e W2 rfl hw2 | rintro e W2 ⟨rfl, hw2⟩
 obtain rfl : S1 = W2 := hw2.symm
 go_wp2_with (go_at_call 6; refine cT.out.mono ?_)
 rintro e Wt ⟨gt, ct, Rt, rfl, ot, pt, bt⟩
 have hlt : Hid (Below w.heap.size w Wt) := hl1.out.trans (bt.mono hl1.out.size)
 have cA := progText_any L (some ⟨gt, 0, none⟩) n ct Wt (hE.out.below hlt.out hse) (own_cls ot) hFp.out
 rw [hsame.out, ← hz.out, ← hy.out] at cA
 replace cA := hi_ cA
 replace ot := hi_ ot
 replace bt := hi_ bt
 clear pt
 go_wp2_with (go_at_call 7; refine cA.out.mono ?_)
 first | rintro e Wa rfl ba | rintro e Wa ⟨rfl, ba⟩
 have hla : Hid (Below w.heap.size w Wa) := hlt.out.trans (ba.mono hlt.out.size)
 have otA := hi_ (ot.out.later ba)
 have cR := refText_any L a n c Wa (hE.out.below hla.out hse) (h.out.later hla.out) hFr.out
 rw [← hz.out, ← hy.out] at cR
 replace cR := hi_ cR
 replace ba := hi_ ba
 go_wp2_with (go_at_call 8; refine cR.out.mono ?_)
 first | rintro e Wb rfl bb | rintro e Wb ⟨rfl, bb⟩
 have hlb : Hid (Below w.heap.size w Wb) := hla.out.trans (bb.mono hla.out.size)
 have otB := hi_ (otA.out.later bb)
 have cL := hi_ (leftProgram_any L (some ⟨gt, 0, none⟩) a n n ct c _ Rt Wb otB.out (h.out.later hlb.out))
 replace bb := hi_ bb
 go_wp2_with (go_at_call 9; refine cL.out.mono ?_)
 first | rintro e Wc rfl bc | rintro e Wc ⟨rfl, bc⟩
 have hlc : Hid (Below w.heap.size w Wc) := hlb.out.trans (bc.mono hlb.out.size)
 replace bc := hi_ bc
 go_wp2_with fail
 go_ret
 exact ⟨rfl, hlc.out⟩
end Go.Proofs.YtlppklbmdedipaaGreatDoor
