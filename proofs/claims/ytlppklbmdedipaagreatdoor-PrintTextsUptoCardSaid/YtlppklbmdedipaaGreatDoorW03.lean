/- PrintTexts, part 3. -/
import Derived.Test.YtlppklbmdedipaaGreatDoorW02
import Derived.Test.YtlppklbmdedipaaGreatDoorW01
import Derived.Lib.ItoaLen
import Derived.Lib.Strings
import Derived.Lib.ItoaNum
import Derived.Lib.ParseIntB
namespace Go.Proofs.YtlppklbmdedipaaGreatDoor
open Go Go.RowKit
set_option maxHeartbeats 8000000
set_option maxRecDepth 100000
mutual
def T.wt : T → Nat
 | .int _ _ => 0
 | .txt s => s.size
 | .yes _ => 0
 | .obj ps => 1 + wts ps
 | .lst _ _ es => es.length + wts es
def wts : List T → Nat
 | [] => 0
 | t :: r => t.wt + wts r
end
theorem wts_append (l r : List T) : wts (l ++ r) = wts l + wts r := by
 induction l with
 | nil => simp [wts]
 | cons t l ih => simp only [List.cons_append, wts, ih]; omega
theorem wts_take {l : List T} {k : Nat} {t : T} (h : l[k]? = some t) : wts (l.take (k + 1)) = wts (l.take k) + t.wt := by
 rw [List.take_add_one, h, wts_append]; simp [wts]
theorem wts_take_le (l : List T) (k : Nat) : wts (l.take k) ≤ wts l := by
 have : wts l = wts (l.take k) + wts (l.drop k) := by rw [← wts_append, List.take_append_drop]
 omega
theorem wts_mem {l : List T} {t : T} (h : t ∈ l) : t.wt ≤ wts l := by
 induction l with
 | nil => cases h
 | cons a l ih =>
  simp only [wts]
  rcases List.mem_cons.1 h with rfl | h
  ·omega
  ·have := ih h; omega
theorem wt_Ex (v : Ex) : v.tr.wt = 1 + v.s.size + (v.args.length + wts (v.args.map Ex.tr)) + (v.names.length + wts (v.names.map T.txt)) + (v.vals.length + wts (v.vals.map Ex.tr)) + (v.key.length + wts (v.key.map Ex.tr)) + (v.acts.length + wts (v.acts.map Ac.tr)) + v.site.size := by
 rw [Ex.tr_eq]; simp only [T.wt, wts, List.length_map]; omega
theorem wt_Ac (v : Ac) : v.tr.wt = 1 + v.name.size + v.expr.tr.wt := by
 rw [Ac.tr_eq]; simp only [T.wt, wts]; omega
theorem wt_St (v : St) : v.tr.wt = 1 + v.name.size + v.ctx.size + v.expr.tr.wt + (v.deps.length + wts (v.deps.map Ex.tr)) + (v.dos.length + wts (v.dos.map Ac.tr)) + (v.undo.length + wts (v.undo.map Ac.tr)) + (v.body.length + wts (v.body.map St.tr)) := by
 rw [St.tr_eq]; simp only [T.wt, wts, List.length_map]; omega
theorem wt_Co (v : Co) : v.tr.wt = 1 + v.name.size + v.param.size + (v.body.length + wts (v.body.map St.tr)) + v.out.tr.wt := by
 rw [Co.tr_eq]; simp only [T.wt, wts, List.length_map]; omega
def SizeEx (v : Ex) : Prop := v.tr.wt ≤ 1048576 → ∀ (q : QEx) (w : World), ExAt w w.heap.size v q →
 Calls Tryz.prog 46 #[.agg #[.int .u8 v.kind, .int .i64 v.n, .string v.s, .slice q.argsa q.argsn q.argsc, .slice q.namesa q.namesn q.namesc, .slice q.valsa q.valsn q.valsc, .int .u8 v.elem, .slice q.keya q.keyn q.keyc, .slice q.actsa q.actsn q.actsc, .string v.site]] w fun e w' => e = .returned (.int .i64 (v.tr.wt : Nat)) ∧ Below w.heap.size w w'
def SizeAc (v : Ac) : Prop := v.tr.wt ≤ 1048576 → ∀ (q : QAc) (w : World), AcAt w w.heap.size v q →
 Calls Tryz.prog 103 #[.agg #[.int .u8 v.kind, .string v.name, .int .u8 v.expr.kind, .int .i64 v.expr.n, .string v.expr.s, .slice q.expr.argsa q.expr.argsn q.expr.argsc, .slice q.expr.namesa q.expr.namesn q.expr.namesc, .slice q.expr.valsa q.expr.valsn q.expr.valsc, .int .u8 v.expr.elem, .slice q.expr.keya q.expr.keyn q.expr.keyc, .slice q.expr.actsa q.expr.actsn q.expr.actsc, .string v.expr.site]] w fun e w' => e = .returned (.int .i64 (v.tr.wt : Nat)) ∧ Below w.heap.size w w'
def SizeSt (v : St) : Prop := v.tr.wt ≤ 1048576 → ∀ (q : QSt) (w : World), StAt w w.heap.size v q →
 Calls Tryz.prog 72 #[.agg #[.int .u8 v.kind, .string v.name, .string v.ctx, .int .u8 v.expr.kind, .int .i64 v.expr.n, .string v.expr.s, .slice q.expr.argsa q.expr.argsn q.expr.argsc, .slice q.expr.namesa q.expr.namesn q.expr.namesc, .slice q.expr.valsa q.expr.valsn q.expr.valsc, .int .u8 v.expr.elem, .slice q.expr.keya q.expr.keyn q.expr.keyc, .slice q.expr.actsa q.expr.actsn q.expr.actsc, .string v.expr.site, .slice q.depsa q.depsn q.depsc, .slice q.dosa q.dosn q.dosc, .slice q.undoa q.undon q.undoc, .slice q.bodya q.bodyn q.bodyc]] w fun e w' => e = .returned (.int .i64 (v.tr.wt : Nat)) ∧ Below w.heap.size w w'
def SizeCo (v : Co) : Prop := v.tr.wt ≤ 1048576 → ∀ (q : QCo) (w : World), CoAt w w.heap.size v q →
 Calls Tryz.prog 23 #[.agg #[.string v.name, .string v.param, .slice q.bodya q.bodyn q.bodyc, .int .u8 v.out.kind, .int .i64 v.out.n, .string v.out.s, .slice q.out.argsa q.out.argsn q.out.argsc, .slice q.out.namesa q.out.namesn q.out.namesc, .slice q.out.valsa q.out.valsn q.out.valsc, .int .u8 v.out.elem, .slice q.out.keya q.out.keyn q.out.keyc, .slice q.out.actsa q.out.actsn q.out.actsc, .string v.out.site]] w fun e w' => e = .returned (.int .i64 (v.tr.wt : Nat)) ∧ Below w.heap.size w w'
theorem TLs.elem {w : World} {B n : Nat} {L : List ByteArray} {a : Option Addr} (h : TLs w B L a n) (i : Nat) (hi : i < n) : ∃ (b o : Nat) (s : ByteArray), a = some ⟨b, o, none⟩ ∧ b < B ∧ L[i]? = some s ∧ w.cell? ⟨b, o + i, none⟩ = some (.string s) ∧ s.size ≤ 140737488355328 := by
 have hn := h.1
 rw [List.length_map] at hn
 obtain ⟨b, o, cc, e1, e2, _, e3, e4⟩ := LAt.elem h i (by rw [List.length_map]; omega)
 rw [List.getElem_map] at e4
 obtain ⟨rfl, hs⟩ := e4.txt_inv
 have e5 := e3 0 (by omega)
 rw [Nat.mul_one, Nat.add_zero] at e5
 exact ⟨b, o, L[i]'(by omega), e1, e2, List.getElem?_eq_getElem (by omega), e5, hs⟩
theorem sizeTexts_any (L : List ByteArray) (a : Option Addr) (n c : Nat) (w : World) (hwt : L.length + wts (L.map T.txt) ≤ 1048576) (h1 : TLs w w.heap.size L a n) :
  Calls Tryz.prog 74 #[.slice a n c] w fun e w' => e = .returned (.int .i64 ((L.length + wts (L.map T.txt) : Nat) : Int)) ∧ Below w.heap.size w w' := by
 have hl := h1.len.1
 rw [List.length_map] at hl
 have hn : n ≤ 1048576 := by omega
 obtain ⟨M, hM⟩ : ∃ M, M = L.length + wts (L.map T.txt) := ⟨_, rfl⟩
 rw [← hM] at hwt ⊢
 replace hM := hi_ hM
 replace hl := hi_ hl
 replace h1 := hi_ h1
 go_enter Tryz.func74, Tryz.ntmps74
 go_wp2_with fail
 go_loopw [3, 4] (fun u i wr => ∃ k N : Nat, k ≤ n ∧ i = .int .i64 (k : Nat) ∧ u = .int .i64 (N : Nat) ∧ N = L.length + wts ((L.map T.txt).take k) ∧ Below w.heap.size w wr) (fun _ i _ => n - (intOf i).toNat)
 case atStart => exact ⟨0, n, Nat.zero_le _, rfl, rfl, by simp [wts, hl.out], Below.refl _ _⟩
 case round =>
  obtain ⟨k, N, hk, rfl, rfl, hN, hb⟩ := hrel
  have hle := wts_take_le (L.map T.txt) k
  have hNM : N ≤ M := by have := hM.out; omega
  have hNm : N ≤ 1048576 := by omega
  clear hle
  by_cases hlt : k < n
  ·have hlt9 : Hid (k + 1 ≤ n) := hlt
   obtain ⟨b1, o1, s, rfl, hb1, hg1, x0, hs⟩ := TLs.elem (h1.out.kept hb) k hlt
   have hgt : (L.map T.txt)[k]? = some (.txt s) := by rw [List.getElem?_map, hg1]; rfl
   have hN2 : Hid (N + s.size = L.length + wts ((L.map T.txt).take (k + 1))) := by
    show _ = _
    rw [wts_take hgt, hN, T.wt]; omega
   have hws : s.size ≤ 1048576 := by
    have h8 := wts_take_le (L.map T.txt) (k + 1)
    have := hN2.out; have := hM.out; omega
   replace hb := hi_ hb
   replace hN := hi_ hN
   clear hg1 hgt
   go_wp2_with fail
   go_roundw
   case rel => exact ⟨k + 1, N + s.size, hlt9.out, by go_num, by go_num, hN2.out, hb.out⟩
   case measure => simp [intOf]; have := hlt9.out; omega
  ·obtain rfl : k = n := by omega
   replace hb := hi_ hb
   have hfin : Hid (N = M) := by
    show N = M
    rw [hN, hM.out, List.take_of_length_le (by rw [List.length_map]; have := hl.out; omega)]
   replace hN := hi_ hN
   go_wp2_with fail
   go_ret
   exact ⟨by rw [hfin.out]; rfl, hb.out⟩
theorem sizeExprs_any (L : List Ex) (hS : ∀ v ∈ L, SizeEx v) (a : Option Addr) (n c : Nat) (w : World) (hwt : L.length + wts (L.map Ex.tr) ≤ 1048576) (h1 : ExLs w w.heap.size L a n) :
  Calls Tryz.prog 73 #[.slice a n c] w fun e w' => e = .returned (.int .i64 ((L.length + wts (L.map Ex.tr) : Nat) : Int)) ∧ Below w.heap.size w w' := by
 have hl := h1.len.1
 rw [List.length_map] at hl
 have hn : n ≤ 1048576 := by omega
 obtain ⟨M, hM⟩ : ∃ M, M = L.length + wts (L.map Ex.tr) := ⟨_, rfl⟩
 rw [← hM] at hwt ⊢
 replace hM := hi_ hM
 replace hl := hi_ hl
 replace h1 := hi_ h1
 replace hS := hi_ hS
 go_enter Tryz.func73, Tryz.ntmps73
 go_wp2_with fail
 go_loopw [3, 4] (fun u i wr => ∃ k N : Nat, k ≤ n ∧ i = .int .i64 (k : Nat) ∧ u = .int .i64 (N : Nat) ∧ N = L.length + wts ((L.map Ex.tr).take k) ∧ Below w.heap.size w wr) (fun _ i _ => n - (intOf i).toNat)
 case atStart => exact ⟨0, n, Nat.zero_le _, rfl, rfl, by simp [wts, hl.out], Below.refl _ _⟩
 case round =>
  obtain ⟨k, N, hk, rfl, rfl, hN, hb⟩ := hrel
  have hle := wts_take_le (L.map Ex.tr) k
  have hNM : N ≤ M := by have := hM.out; omega
  have hNm : N ≤ 1048576 := by omega
  clear hle
  by_cases hlt : k < n
  ·have hlt9 : Hid (k + 1 ≤ n) := hlt
   obtain ⟨b1, o1, v, q1, rfl, hb1, hg1, hc1, hv1⟩ := ExLs.elem (h1.out.kept hb) k hlt
   obtain ⟨x0, x1, x2, x3, x4, x5, x6, x7, x8, x9⟩ := eEx_ hc1
   have hgt : (L.map Ex.tr)[k]? = some v.tr := by rw [List.getElem?_map, hg1]; rfl
   have hN2 : Hid (N + v.tr.wt = L.length + wts ((L.map Ex.tr).take (k + 1))) := by
    show _ = _
    rw [wts_take hgt, hN]; omega
   have hwv : v.tr.wt ≤ 1048576 := by
    have h8 := wts_take_le (L.map Ex.tr) (k + 1)
    have := hN2.out; have := hM.out; omega
   have cS := hS.out v (List.mem_of_getElem? hg1) hwv q1 wr (hv1.mono hb.size)
   replace cS := hi_ cS
   replace hb := hi_ hb
   replace hN := hi_ hN
   generalize v.tr.wt = X at *
   clear hc1 hv1 hg1 hgt
   go_wp2_with (go_at_call 46; refine cS.out.mono ?_)
   first | rintro e w3 rfl hb3 | rintro e w3 ⟨rfl, hb3⟩
   have hb3' := hi_ (hb.out.trans (hb3.mono hb.out.size))
   clear hb3 cS
   go_wp2_with fail
   go_roundw
   case rel => exact ⟨k + 1, N + X, hlt9.out, by go_num, by go_num, hN2.out, hb3'.out⟩
   case measure => simp [intOf]; have := hlt9.out; omega
  ·obtain rfl : k = n := by omega
   replace hb := hi_ hb
   have hfin : Hid (N = M) := by
    show N = M
    rw [hN, hM.out, List.take_of_length_le (by rw [List.length_map]; have := hl.out; omega)]
   replace hN := hi_ hN
   go_wp2_with fail
   go_ret
   exact ⟨by rw [hfin.out]; rfl, hb.out⟩
theorem sizeActs_any (L : List Ac) (hS : ∀ v ∈ L, SizeAc v) (a : Option Addr) (n c : Nat) (w : World) (hwt : L.length + wts (L.map Ac.tr) ≤ 1048576) (h1 : AcLs w w.heap.size L a n) :
  Calls Tryz.prog 75 #[.slice a n c] w fun e w' => e = .returned (.int .i64 ((L.length + wts (L.map Ac.tr) : Nat) : Int)) ∧ Below w.heap.size w w' := by
 have hl := h1.len.1
 rw [List.length_map] at hl
 have hn : n ≤ 1048576 := by omega
 obtain ⟨M, hM⟩ : ∃ M, M = L.length + wts (L.map Ac.tr) := ⟨_, rfl⟩
 rw [← hM] at hwt ⊢
 replace hM := hi_ hM
 replace hl := hi_ hl
 replace h1 := hi_ h1
 replace hS := hi_ hS
 go_enter Tryz.func75, Tryz.ntmps75
 go_wp2_with fail
 go_loopw [3, 4] (fun u i wr => ∃ k N : Nat, k ≤ n ∧ i = .int .i64 (k : Nat) ∧ u = .int .i64 (N : Nat) ∧ N = L.length + wts ((L.map Ac.tr).take k) ∧ Below w.heap.size w wr) (fun _ i _ => n - (intOf i).toNat)
 case atStart => exact ⟨0, n, Nat.zero_le _, rfl, rfl, by simp [wts, hl.out], Below.refl _ _⟩
 case round =>
  obtain ⟨k, N, hk, rfl, rfl, hN, hb⟩ := hrel
  have hle := wts_take_le (L.map Ac.tr) k
  have hNM : N ≤ M := by have := hM.out; omega
  have hNm : N ≤ 1048576 := by omega
  clear hle
  by_cases hlt : k < n
  ·have hlt9 : Hid (k + 1 ≤ n) := hlt
   obtain ⟨b1, o1, v, q1, rfl, hb1, hg1, hc1, hv1⟩ := AcLs.elem (h1.out.kept hb) k hlt
   obtain ⟨x0, x1, x2, x3, x4, x5, x6, x7, x8, x9, x10, x11⟩ := eAc_ hc1
   have hgt : (L.map Ac.tr)[k]? = some v.tr := by rw [List.getElem?_map, hg1]; rfl
   have hN2 : Hid (N + v.tr.wt = L.length + wts ((L.map Ac.tr).take (k + 1))) := by
    show _ = _
    rw [wts_take hgt, hN]; omega
   have hwv : v.tr.wt ≤ 1048576 := by
    have h8 := wts_take_le (L.map Ac.tr) (k + 1)
    have := hN2.out; have := hM.out; omega
   have cS := hS.out v (List.mem_of_getElem? hg1) hwv q1 wr (hv1.mono hb.size)
   replace cS := hi_ cS
   replace hb := hi_ hb
   replace hN := hi_ hN
   generalize v.tr.wt = X at *
   clear hc1 hv1 hg1 hgt
   go_wp2_with (go_at_call 103; refine cS.out.mono ?_)
   first | rintro e w3 rfl hb3 | rintro e w3 ⟨rfl, hb3⟩
   have hb3' := hi_ (hb.out.trans (hb3.mono hb.out.size))
   clear hb3 cS
   go_wp2_with fail
   go_roundw
   case rel => exact ⟨k + 1, N + X, hlt9.out, by go_num, by go_num, hN2.out, hb3'.out⟩
   case measure => simp [intOf]; have := hlt9.out; omega
  ·obtain rfl : k = n := by omega
   replace hb := hi_ hb
   have hfin : Hid (N = M) := by
    show N = M
    rw [hN, hM.out, List.take_of_length_le (by rw [List.length_map]; have := hl.out; omega)]
   replace hN := hi_ hN
   go_wp2_with fail
   go_ret
   exact ⟨by rw [hfin.out]; rfl, hb.out⟩
theorem sizeEx_of (v : Ex) (h_args : ∀ x ∈ v.args, SizeEx x) (h_vals : ∀ x ∈ v.vals, SizeEx x) (h_key : ∀ x ∈ v.key, SizeEx x) (h_acts : ∀ x ∈ v.acts, SizeAc x) : SizeEx v := by
 intro hwt q w h1
 have h9 := wt_Ex v
 obtain ⟨S, hS⟩ : ∃ S, S = w.alloc ((O0_ v q)) := ⟨_, rfl⟩
 have hbS : Below w.heap.size w S := by rw [hS]; exact (Below.refl _ _).alloc (Nat.le_refl _) _
 have hr1 : S.heap[w.heap.size]? = some ((O0_ v q)) := by rw [hS]; exact heap_alloc_new w _
 have hzS : S.heap.size = w.heap.size + 1 := by rw [hS]; simp
 obtain ⟨x0, x1, x2, x3, x4, x5, x6, x7, x8, x9⟩ := c10_ hr1
 have y0 : ∀ d : LowW S, d.w.cell? ⟨w.heap.size, 0, none⟩ = some (.int .u8 v.kind) := fun d => (d.cell (by show w.heap.size < _; omega)).trans x0
 have y1 : ∀ d : LowW S, d.w.cell? ⟨w.heap.size, 1, none⟩ = some (.int .i64 v.n) := fun d => (d.cell (by show w.heap.size < _; omega)).trans x1
 have y2 : ∀ d : LowW S, d.w.cell? ⟨w.heap.size, 2, none⟩ = some (.string v.s) := fun d => (d.cell (by show w.heap.size < _; omega)).trans x2
 have y3 : ∀ d : LowW S, d.w.cell? ⟨w.heap.size, 3, none⟩ = some (.slice q.argsa q.argsn q.argsc) := fun d => (d.cell (by show w.heap.size < _; omega)).trans x3
 have y4 : ∀ d : LowW S, d.w.cell? ⟨w.heap.size, 4, none⟩ = some (.slice q.namesa q.namesn q.namesc) := fun d => (d.cell (by show w.heap.size < _; omega)).trans x4
 have y5 : ∀ d : LowW S, d.w.cell? ⟨w.heap.size, 5, none⟩ = some (.slice q.valsa q.valsn q.valsc) := fun d => (d.cell (by show w.heap.size < _; omega)).trans x5
 have y6 : ∀ d : LowW S, d.w.cell? ⟨w.heap.size, 6, none⟩ = some (.int .u8 v.elem) := fun d => (d.cell (by show w.heap.size < _; omega)).trans x6
 have y7 : ∀ d : LowW S, d.w.cell? ⟨w.heap.size, 7, none⟩ = some (.slice q.keya q.keyn q.keyc) := fun d => (d.cell (by show w.heap.size < _; omega)).trans x7
 have y8 : ∀ d : LowW S, d.w.cell? ⟨w.heap.size, 8, none⟩ = some (.slice q.actsa q.actsn q.actsc) := fun d => (d.cell (by show w.heap.size < _; omega)).trans x8
 have y9 : ∀ d : LowW S, d.w.cell? ⟨w.heap.size, 9, none⟩ = some (.string v.site) := fun d => (d.cell (by show w.heap.size < _; omega)).trans x9
 have hW : Hid (S = _) := hS
 replace hr1 := hi_ hr1
 clear hS
 have c0 : ∀ d : LowW S, Calls Tryz.prog 73 #[.slice q.argsa q.argsn q.argsc] d.w fun e w' => e = .returned (.int .i64 (((v.args.length + wts (v.args.map Ex.tr)) : Nat) : Int)) ∧ ∃ d' : LowW S, w' = d'.w := fun d => (sizeExprs_any v.args h_args q.argsa q.argsn q.argsc d.w (by omega) ((h1.args.kept (hbS.trans (d.low.mono hbS.size))).mono (Nat.le_trans hbS.size d.low.size))).mono fun e w' h => ⟨h.1, d.more h.2⟩
 have c1 : ∀ d : LowW S, Calls Tryz.prog 74 #[.slice q.namesa q.namesn q.namesc] d.w fun e w' => e = .returned (.int .i64 (((v.names.length + wts (v.names.map T.txt)) : Nat) : Int)) ∧ ∃ d' : LowW S, w' = d'.w := fun d => (sizeTexts_any v.names q.namesa q.namesn q.namesc d.w (by omega) ((h1.names.kept (hbS.trans (d.low.mono hbS.size))).mono (Nat.le_trans hbS.size d.low.size))).mono fun e w' h => ⟨h.1, d.more h.2⟩
 have c2 : ∀ d : LowW S, Calls Tryz.prog 73 #[.slice q.valsa q.valsn q.valsc] d.w fun e w' => e = .returned (.int .i64 (((v.vals.length + wts (v.vals.map Ex.tr)) : Nat) : Int)) ∧ ∃ d' : LowW S, w' = d'.w := fun d => (sizeExprs_any v.vals h_vals q.valsa q.valsn q.valsc d.w (by omega) ((h1.vals.kept (hbS.trans (d.low.mono hbS.size))).mono (Nat.le_trans hbS.size d.low.size))).mono fun e w' h => ⟨h.1, d.more h.2⟩
 have c3 : ∀ d : LowW S, Calls Tryz.prog 73 #[.slice q.keya q.keyn q.keyc] d.w fun e w' => e = .returned (.int .i64 (((v.key.length + wts (v.key.map Ex.tr)) : Nat) : Int)) ∧ ∃ d' : LowW S, w' = d'.w := fun d => (sizeExprs_any v.key h_key q.keya q.keyn q.keyc d.w (by omega) ((h1.key.kept (hbS.trans (d.low.mono hbS.size))).mono (Nat.le_trans hbS.size d.low.size))).mono fun e w' h => ⟨h.1, d.more h.2⟩
 have c4 : ∀ d : LowW S, Calls Tryz.prog 75 #[.slice q.actsa q.actsn q.actsc] d.w fun e w' => e = .returned (.int .i64 (((v.acts.length + wts (v.acts.map Ac.tr)) : Nat) : Int)) ∧ ∃ d' : LowW S, w' = d'.w := fun d => (sizeActs_any v.acts h_acts q.actsa q.actsn q.actsc d.w (by omega) ((h1.acts.kept (hbS.trans (d.low.mono hbS.size))).mono (Nat.le_trans hbS.size d.low.size))).mono fun e w' h => ⟨h.1, d.more h.2⟩
 rw [h9] at hwt ⊢
 obtain ⟨X0, hX0⟩ : ∃ X, X = (v.args.length + wts (v.args.map Ex.tr)) := ⟨_, rfl⟩
 simp only [← hX0] at c0 hwt ⊢
 replace hX0 := hi_ hX0
 replace c0 := hi_ c0
 obtain ⟨X1, hX1⟩ : ∃ X, X = (v.names.length + wts (v.names.map T.txt)) := ⟨_, rfl⟩
 simp only [← hX1] at c1 hwt ⊢
 replace hX1 := hi_ hX1
 replace c1 := hi_ c1
 obtain ⟨X2, hX2⟩ : ∃ X, X = (v.vals.length + wts (v.vals.map Ex.tr)) := ⟨_, rfl⟩
 simp only [← hX2] at c2 hwt ⊢
 replace hX2 := hi_ hX2
 replace c2 := hi_ c2
 obtain ⟨X3, hX3⟩ : ∃ X, X = (v.key.length + wts (v.key.map Ex.tr)) := ⟨_, rfl⟩
 simp only [← hX3] at c3 hwt ⊢
 replace hX3 := hi_ hX3
 replace c3 := hi_ c3
 obtain ⟨X4, hX4⟩ : ∃ X, X = (v.acts.length + wts (v.acts.map Ac.tr)) := ⟨_, rfl⟩
 simp only [← hX4] at c4 hwt ⊢
 replace hX4 := hi_ hX4
 replace c4 := hi_ c4
 have hs0 : v.s.size ≤ 1048576 := by omega
 have hs1 : v.site.size ≤ 1048576 := by omega
 replace hbS := hi_ hbS
 replace h1 := hi_ h1
 clear h9
 go_enter Tryz.func46, Tryz.ntmps46
 go_wp2_with (first | (rw [← hW.out]) | (go_at_call 73; refine (c0.out ⟨S, Below.refl _ _⟩).mono ?_))
 first | rintro e _ rfl ⟨d0, rfl⟩ | rintro e _ ⟨rfl, d0, rfl⟩
 clear x0 x1 x2 x3 x4 x5 x6 x7 x8 x9
 go_wp2_with (first | (rw [← hW.out]) | (go_at_call 74; refine (c1.out _).mono ?_))
 first | rintro e _ rfl ⟨d1, rfl⟩ | rintro e _ ⟨rfl, d1, rfl⟩
 go_wp2_with (first | (rw [← hW.out]) | (go_at_call 73; refine (c2.out _).mono ?_))
 first | rintro e _ rfl ⟨d2, rfl⟩ | rintro e _ ⟨rfl, d2, rfl⟩
 go_wp2_with (first | (rw [← hW.out]) | (go_at_call 73; refine (c3.out _).mono ?_))
 first | rintro e _ rfl ⟨d3, rfl⟩ | rintro e _ ⟨rfl, d3, rfl⟩
 go_wp2_with (first | (rw [← hW.out]) | (go_at_call 75; refine (c4.out _).mono ?_))
 first | rintro e _ rfl ⟨d4, rfl⟩ | rintro e _ ⟨rfl, d4, rfl⟩
 have hfin := hi_ (hbS.out.trans (d4.low.mono hbS.out.size))
 go_wp2_with fail
 go_ret
 exact ⟨by first | rfl | (congr 2; done) | (congr 2; omega) | (simp; omega), hfin.out⟩
theorem sizeAc_of (v : Ac) (h_expr : SizeEx v.expr) : SizeAc v := by
 intro hwt q w h1
 have h9 := wt_Ac v
 obtain ⟨S, hS⟩ : ∃ S, S = w.alloc ((O1_ v q.expr)) := ⟨_, rfl⟩
 have hbS : Below w.heap.size w S := by rw [hS]; exact (Below.refl _ _).alloc (Nat.le_refl _) _
 have hr1 : S.heap[w.heap.size]? = some ((O1_ v q.expr)) := by rw [hS]; exact heap_alloc_new w _
 have hzS : S.heap.size = w.heap.size + 1 := by rw [hS]; simp
 obtain ⟨x0, x1, x2, x3, x4, x5, x6, x7, x8, x9, x10, x11⟩ := c12_ hr1
 have y0 : ∀ d : LowW S, d.w.cell? ⟨w.heap.size, 0, none⟩ = some (.int .u8 v.kind) := fun d => (d.cell (by show w.heap.size < _; omega)).trans x0
 have y1 : ∀ d : LowW S, d.w.cell? ⟨w.heap.size, 1, none⟩ = some (.string v.name) := fun d => (d.cell (by show w.heap.size < _; omega)).trans x1
 have y2 : ∀ d : LowW S, d.w.cell? ⟨w.heap.size, 2, none⟩ = some (.int .u8 v.expr.kind) := fun d => (d.cell (by show w.heap.size < _; omega)).trans x2
 have y3 : ∀ d : LowW S, d.w.cell? ⟨w.heap.size, 3, none⟩ = some (.int .i64 v.expr.n) := fun d => (d.cell (by show w.heap.size < _; omega)).trans x3
 have y4 : ∀ d : LowW S, d.w.cell? ⟨w.heap.size, 4, none⟩ = some (.string v.expr.s) := fun d => (d.cell (by show w.heap.size < _; omega)).trans x4
 have y5 : ∀ d : LowW S, d.w.cell? ⟨w.heap.size, 5, none⟩ = some (.slice q.expr.argsa q.expr.argsn q.expr.argsc) := fun d => (d.cell (by show w.heap.size < _; omega)).trans x5
 have y6 : ∀ d : LowW S, d.w.cell? ⟨w.heap.size, 6, none⟩ = some (.slice q.expr.namesa q.expr.namesn q.expr.namesc) := fun d => (d.cell (by show w.heap.size < _; omega)).trans x6
 have y7 : ∀ d : LowW S, d.w.cell? ⟨w.heap.size, 7, none⟩ = some (.slice q.expr.valsa q.expr.valsn q.expr.valsc) := fun d => (d.cell (by show w.heap.size < _; omega)).trans x7
 have y8 : ∀ d : LowW S, d.w.cell? ⟨w.heap.size, 8, none⟩ = some (.int .u8 v.expr.elem) := fun d => (d.cell (by show w.heap.size < _; omega)).trans x8
 have y9 : ∀ d : LowW S, d.w.cell? ⟨w.heap.size, 9, none⟩ = some (.slice q.expr.keya q.expr.keyn q.expr.keyc) := fun d => (d.cell (by show w.heap.size < _; omega)).trans x9
 have y10 : ∀ d : LowW S, d.w.cell? ⟨w.heap.size, 10, none⟩ = some (.slice q.expr.actsa q.expr.actsn q.expr.actsc) := fun d => (d.cell (by show w.heap.size < _; omega)).trans x10
 have y11 : ∀ d : LowW S, d.w.cell? ⟨w.heap.size, 11, none⟩ = some (.string v.expr.site) := fun d => (d.cell (by show w.heap.size < _; omega)).trans x11
 have hW : Hid (S = _) := hS
 replace hr1 := hi_ hr1
 clear hS
 have c0 : ∀ d : LowW S, Calls Tryz.prog 46 #[.agg (A0_ v.expr q.expr)] d.w fun e w' => e = .returned (.int .i64 ((v.expr.tr.wt : Nat) : Int)) ∧ ∃ d' : LowW S, w' = d'.w := fun d => (h_expr (by omega) q.expr d.w ((h1.expr.kept (hbS.trans (d.low.mono hbS.size))).mono (Nat.le_trans hbS.size d.low.size))).mono fun e w' h => ⟨h.1, d.more h.2⟩
 rw [h9] at hwt ⊢
 obtain ⟨X0, hX0⟩ : ∃ X, X = v.expr.tr.wt := ⟨_, rfl⟩
 simp only [← hX0] at c0 hwt ⊢
 replace hX0 := hi_ hX0
 replace c0 := hi_ c0
 have hs0 : v.name.size ≤ 1048576 := by omega
 replace hbS := hi_ hbS
 replace h1 := hi_ h1
 clear h9
 go_enter Tryz.func103, Tryz.ntmps103
 go_wp2_with (first | (rw [← hW.out]) | (go_at_call 46; refine (c0.out ⟨S, Below.refl _ _⟩).mono ?_))
 first | rintro e _ rfl ⟨d0, rfl⟩ | rintro e _ ⟨rfl, d0, rfl⟩
 clear x0 x1 x2 x3 x4 x5 x6 x7 x8 x9 x10 x11
 have hfin := hi_ (hbS.out.trans (d0.low.mono hbS.out.size))
 go_wp2_with fail
 go_ret
 exact ⟨by first | rfl | (congr 2; done) | (congr 2; omega) | (simp; omega), hfin.out⟩
theorem sizeEx_any (v : Ex) : SizeEx v := Ex.both (Q := SizeAc) (fun v h1 h2 h3 h4 => sizeEx_of v h1 h2 h3 h4) (fun v h => sizeAc_of v h) v
theorem sizeAc_any (v : Ac) : SizeAc v := sizeAc_of v (sizeEx_any _)
theorem sizeStmts_any (L : List St) (hS : ∀ v ∈ L, SizeSt v) (a : Option Addr) (n c : Nat) (w : World) (hwt : L.length + wts (L.map St.tr) ≤ 1048576) (h1 : StLs w w.heap.size L a n) :
  Calls Tryz.prog 45 #[.slice a n c] w fun e w' => e = .returned (.int .i64 ((L.length + wts (L.map St.tr) : Nat) : Int)) ∧ Below w.heap.size w w' := by
 have hl := h1.len.1
 rw [List.length_map] at hl
 have hn : n ≤ 1048576 := by omega
 obtain ⟨M, hM⟩ : ∃ M, M = L.length + wts (L.map St.tr) := ⟨_, rfl⟩
 rw [← hM] at hwt ⊢
 replace hM := hi_ hM
 replace hl := hi_ hl
 replace h1 := hi_ h1
 replace hS := hi_ hS
 go_enter Tryz.func45, Tryz.ntmps45
 go_wp2_with fail
 go_loopw [3, 4] (fun u i wr => ∃ k N : Nat, k ≤ n ∧ i = .int .i64 (k : Nat) ∧ u = .int .i64 (N : Nat) ∧ N = L.length + wts ((L.map St.tr).take k) ∧ Below w.heap.size w wr) (fun _ i _ => n - (intOf i).toNat)
 case atStart => exact ⟨0, n, Nat.zero_le _, rfl, rfl, by simp [wts, hl.out], Below.refl _ _⟩
 case round =>
  obtain ⟨k, N, hk, rfl, rfl, hN, hb⟩ := hrel
  have hle := wts_take_le (L.map St.tr) k
  have hNM : N ≤ M := by have := hM.out; omega
  have hNm : N ≤ 1048576 := by omega
  clear hle
  by_cases hlt : k < n
  ·have hlt9 : Hid (k + 1 ≤ n) := hlt
   obtain ⟨b1, o1, v, q1, rfl, hb1, hg1, hc1, hv1⟩ := StLs.elem (h1.out.kept hb) k hlt
   obtain ⟨x0, x1, x2, x3, x4, x5, x6, x7, x8, x9, x10, x11, x12, x13, x14, x15, x16⟩ := eSt_ hc1
   have hgt : (L.map St.tr)[k]? = some v.tr := by rw [List.getElem?_map, hg1]; rfl
   have hN2 : Hid (N + v.tr.wt = L.length + wts ((L.map St.tr).take (k + 1))) := by
    show _ = _
    rw [wts_take hgt, hN]; omega
   have hwv : v.tr.wt ≤ 1048576 := by
    have h8 := wts_take_le (L.map St.tr) (k + 1)
    have := hN2.out; have := hM.out; omega
   have cS := hS.out v (List.mem_of_getElem? hg1) hwv q1 wr (hv1.mono hb.size)
   replace cS := hi_ cS
   replace hb := hi_ hb
   replace hN := hi_ hN
   generalize v.tr.wt = X at *
   clear hc1 hv1 hg1 hgt
   go_wp2_with (go_at_call 72; refine cS.out.mono ?_)
   first | rintro e w3 rfl hb3 | rintro e w3 ⟨rfl, hb3⟩
   have hb3' := hi_ (hb.out.trans (hb3.mono hb.out.size))
   clear hb3 cS
   go_wp2_with fail
   go_roundw
   case rel => exact ⟨k + 1, N + X, hlt9.out, by go_num, by go_num, hN2.out, hb3'.out⟩
   case measure => simp [intOf]; have := hlt9.out; omega
  ·obtain rfl : k = n := by omega
   replace hb := hi_ hb
   have hfin : Hid (N = M) := by
    show N = M
    rw [hN, hM.out, List.take_of_length_le (by rw [List.length_map]; have := hl.out; omega)]
   replace hN := hi_ hN
   go_wp2_with fail
   go_ret
   exact ⟨by rw [hfin.out]; rfl, hb.out⟩
theorem sizeSt_of (v : St) (h_deps : ∀ x ∈ v.deps, SizeEx x) (h_dos : ∀ x ∈ v.dos, SizeAc x) (h_undo : ∀ x ∈ v.undo, SizeAc x) (h_body : ∀ x ∈ v.body, SizeSt x) (h_expr : SizeEx v.expr) : SizeSt v := by
 intro hwt q w h1
 have h9 := wt_St v
 obtain ⟨S, hS⟩ : ∃ S, S = w.alloc ((O2_ v q)) := ⟨_, rfl⟩
 have hbS : Below w.heap.size w S := by rw [hS]; exact (Below.refl _ _).alloc (Nat.le_refl _) _
 have hr1 : S.heap[w.heap.size]? = some ((O2_ v q)) := by rw [hS]; exact heap_alloc_new w _
 have hzS : S.heap.size = w.heap.size + 1 := by rw [hS]; simp
 obtain ⟨x0, x1, x2, x3, x4, x5, x6, x7, x8, x9, x10, x11, x12, x13, x14, x15, x16⟩ := c17_ hr1
 have y0 : ∀ d : LowW S, d.w.cell? ⟨w.heap.size, 0, none⟩ = some (.int .u8 v.kind) := fun d => (d.cell (by show w.heap.size < _; omega)).trans x0
 have y1 : ∀ d : LowW S, d.w.cell? ⟨w.heap.size, 1, none⟩ = some (.string v.name) := fun d => (d.cell (by show w.heap.size < _; omega)).trans x1
 have y2 : ∀ d : LowW S, d.w.cell? ⟨w.heap.size, 2, none⟩ = some (.string v.ctx) := fun d => (d.cell (by show w.heap.size < _; omega)).trans x2
 have y3 : ∀ d : LowW S, d.w.cell? ⟨w.heap.size, 3, none⟩ = some (.int .u8 v.expr.kind) := fun d => (d.cell (by show w.heap.size < _; omega)).trans x3
 have y4 : ∀ d : LowW S, d.w.cell? ⟨w.heap.size, 4, none⟩ = some (.int .i64 v.expr.n) := fun d => (d.cell (by show w.heap.size < _; omega)).trans x4
 have y5 : ∀ d : LowW S, d.w.cell? ⟨w.heap.size, 5, none⟩ = some (.string v.expr.s) := fun d => (d.cell (by show w.heap.size < _; omega)).trans x5
 have y6 : ∀ d : LowW S, d.w.cell? ⟨w.heap.size, 6, none⟩ = some (.slice q.expr.argsa q.expr.argsn q.expr.argsc) := fun d => (d.cell (by show w.heap.size < _; omega)).trans x6
 have y7 : ∀ d : LowW S, d.w.cell? ⟨w.heap.size, 7, none⟩ = some (.slice q.expr.namesa q.expr.namesn q.expr.namesc) := fun d => (d.cell (by show w.heap.size < _; omega)).trans x7
 have y8 : ∀ d : LowW S, d.w.cell? ⟨w.heap.size, 8, none⟩ = some (.slice q.expr.valsa q.expr.valsn q.expr.valsc) := fun d => (d.cell (by show w.heap.size < _; omega)).trans x8
 have y9 : ∀ d : LowW S, d.w.cell? ⟨w.heap.size, 9, none⟩ = some (.int .u8 v.expr.elem) := fun d => (d.cell (by show w.heap.size < _; omega)).trans x9
 have y10 : ∀ d : LowW S, d.w.cell? ⟨w.heap.size, 10, none⟩ = some (.slice q.expr.keya q.expr.keyn q.expr.keyc) := fun d => (d.cell (by show w.heap.size < _; omega)).trans x10
 have y11 : ∀ d : LowW S, d.w.cell? ⟨w.heap.size, 11, none⟩ = some (.slice q.expr.actsa q.expr.actsn q.expr.actsc) := fun d => (d.cell (by show w.heap.size < _; omega)).trans x11
 have y12 : ∀ d : LowW S, d.w.cell? ⟨w.heap.size, 12, none⟩ = some (.string v.expr.site) := fun d => (d.cell (by show w.heap.size < _; omega)).trans x12
 have y13 : ∀ d : LowW S, d.w.cell? ⟨w.heap.size, 13, none⟩ = some (.slice q.depsa q.depsn q.depsc) := fun d => (d.cell (by show w.heap.size < _; omega)).trans x13
 have y14 : ∀ d : LowW S, d.w.cell? ⟨w.heap.size, 14, none⟩ = some (.slice q.dosa q.dosn q.dosc) := fun d => (d.cell (by show w.heap.size < _; omega)).trans x14
 have y15 : ∀ d : LowW S, d.w.cell? ⟨w.heap.size, 15, none⟩ = some (.slice q.undoa q.undon q.undoc) := fun d => (d.cell (by show w.heap.size < _; omega)).trans x15
 have y16 : ∀ d : LowW S, d.w.cell? ⟨w.heap.size, 16, none⟩ = some (.slice q.bodya q.bodyn q.bodyc) := fun d => (d.cell (by show w.heap.size < _; omega)).trans x16
 have hW : Hid (S = _) := hS
 replace hr1 := hi_ hr1
 clear hS
 have c0 : ∀ d : LowW S, Calls Tryz.prog 46 #[.agg (A0_ v.expr q.expr)] d.w fun e w' => e = .returned (.int .i64 ((v.expr.tr.wt : Nat) : Int)) ∧ ∃ d' : LowW S, w' = d'.w := fun d => (h_expr (by omega) q.expr d.w ((h1.expr.kept (hbS.trans (d.low.mono hbS.size))).mono (Nat.le_trans hbS.size d.low.size))).mono fun e w' h => ⟨h.1, d.more h.2⟩
 have c1 : ∀ d : LowW S, Calls Tryz.prog 73 #[.slice q.depsa q.depsn q.depsc] d.w fun e w' => e = .returned (.int .i64 (((v.deps.length + wts (v.deps.map Ex.tr)) : Nat) : Int)) ∧ ∃ d' : LowW S, w' = d'.w := fun d => (sizeExprs_any v.deps h_deps q.depsa q.depsn q.depsc d.w (by omega) ((h1.deps.kept (hbS.trans (d.low.mono hbS.size))).mono (Nat.le_trans hbS.size d.low.size))).mono fun e w' h => ⟨h.1, d.more h.2⟩
 have c2 : ∀ d : LowW S, Calls Tryz.prog 75 #[.slice q.dosa q.dosn q.dosc] d.w fun e w' => e = .returned (.int .i64 (((v.dos.length + wts (v.dos.map Ac.tr)) : Nat) : Int)) ∧ ∃ d' : LowW S, w' = d'.w := fun d => (sizeActs_any v.dos h_dos q.dosa q.dosn q.dosc d.w (by omega) ((h1.dos.kept (hbS.trans (d.low.mono hbS.size))).mono (Nat.le_trans hbS.size d.low.size))).mono fun e w' h => ⟨h.1, d.more h.2⟩
 have c3 : ∀ d : LowW S, Calls Tryz.prog 75 #[.slice q.undoa q.undon q.undoc] d.w fun e w' => e = .returned (.int .i64 (((v.undo.length + wts (v.undo.map Ac.tr)) : Nat) : Int)) ∧ ∃ d' : LowW S, w' = d'.w := fun d => (sizeActs_any v.undo h_undo q.undoa q.undon q.undoc d.w (by omega) ((h1.undo.kept (hbS.trans (d.low.mono hbS.size))).mono (Nat.le_trans hbS.size d.low.size))).mono fun e w' h => ⟨h.1, d.more h.2⟩
 have c4 : ∀ d : LowW S, Calls Tryz.prog 45 #[.slice q.bodya q.bodyn q.bodyc] d.w fun e w' => e = .returned (.int .i64 (((v.body.length + wts (v.body.map St.tr)) : Nat) : Int)) ∧ ∃ d' : LowW S, w' = d'.w := fun d => (sizeStmts_any v.body h_body q.bodya q.bodyn q.bodyc d.w (by omega) ((h1.body.kept (hbS.trans (d.low.mono hbS.size))).mono (Nat.le_trans hbS.size d.low.size))).mono fun e w' h => ⟨h.1, d.more h.2⟩
 rw [h9] at hwt ⊢
 obtain ⟨X0, hX0⟩ : ∃ X, X = v.expr.tr.wt := ⟨_, rfl⟩
 simp only [← hX0] at c0 hwt ⊢
 replace hX0 := hi_ hX0
 replace c0 := hi_ c0
 obtain ⟨X1, hX1⟩ : ∃ X, X = (v.deps.length + wts (v.deps.map Ex.tr)) := ⟨_, rfl⟩
 simp only [← hX1] at c1 hwt ⊢
 replace hX1 := hi_ hX1
 replace c1 := hi_ c1
 obtain ⟨X2, hX2⟩ : ∃ X, X = (v.dos.length + wts (v.dos.map Ac.tr)) := ⟨_, rfl⟩
 simp only [← hX2] at c2 hwt ⊢
 replace hX2 := hi_ hX2
 replace c2 := hi_ c2
 obtain ⟨X3, hX3⟩ : ∃ X, X = (v.undo.length + wts (v.undo.map Ac.tr)) := ⟨_, rfl⟩
 simp only [← hX3] at c3 hwt ⊢
 replace hX3 := hi_ hX3
 replace c3 := hi_ c3
 obtain ⟨X4, hX4⟩ : ∃ X, X = (v.body.length + wts (v.body.map St.tr)) := ⟨_, rfl⟩
 simp only [← hX4] at c4 hwt ⊢
 replace hX4 := hi_ hX4
 replace c4 := hi_ c4
 have hs0 : v.name.size ≤ 1048576 := by omega
 have hs1 : v.ctx.size ≤ 1048576 := by omega
 replace hbS := hi_ hbS
 replace h1 := hi_ h1
 clear h9
 go_enter Tryz.func72, Tryz.ntmps72
 go_wp2_with (first | (rw [← hW.out]) | (go_at_call 46; refine (c0.out ⟨S, Below.refl _ _⟩).mono ?_))
 first | rintro e _ rfl ⟨d0, rfl⟩ | rintro e _ ⟨rfl, d0, rfl⟩
 clear x0 x1 x2 x3 x4 x5 x6 x7 x8 x9 x10 x11 x12 x13 x14 x15 x16
 go_wp2_with (first | (rw [← hW.out]) | (go_at_call 73; refine (c1.out _).mono ?_))
 first | rintro e _ rfl ⟨d1, rfl⟩ | rintro e _ ⟨rfl, d1, rfl⟩
 go_wp2_with (first | (rw [← hW.out]) | (go_at_call 75; refine (c2.out _).mono ?_))
 first | rintro e _ rfl ⟨d2, rfl⟩ | rintro e _ ⟨rfl, d2, rfl⟩
 go_wp2_with (first | (rw [← hW.out]) | (go_at_call 75; refine (c3.out _).mono ?_))
 first | rintro e _ rfl ⟨d3, rfl⟩ | rintro e _ ⟨rfl, d3, rfl⟩
 go_wp2_with (first | (rw [← hW.out]) | (go_at_call 45; refine (c4.out _).mono ?_))
 first | rintro e _ rfl ⟨d4, rfl⟩ | rintro e _ ⟨rfl, d4, rfl⟩
 have hfin := hi_ (hbS.out.trans (d4.low.mono hbS.out.size))
 go_wp2_with fail
 go_ret
 exact ⟨by first | rfl | (congr 2; done) | (congr 2; omega) | (simp; omega), hfin.out⟩
theorem sizeSt_any (v : St) : SizeSt v := St.ind (fun v h => sizeSt_of v (fun x _ => sizeEx_any x) (fun x _ => sizeAc_any x) (fun x _ => sizeAc_any x) h (sizeEx_any _)) v
theorem sizeCo_of (v : Co) (h_body : ∀ x ∈ v.body, SizeSt x) (h_out : SizeEx v.out) : SizeCo v := by
 intro hwt q w h1
 have h9 := wt_Co v
 obtain ⟨S, hS⟩ : ∃ S, S = w.alloc ((O3_ v q)) := ⟨_, rfl⟩
 have hbS : Below w.heap.size w S := by rw [hS]; exact (Below.refl _ _).alloc (Nat.le_refl _) _
 have hr1 : S.heap[w.heap.size]? = some ((O3_ v q)) := by rw [hS]; exact heap_alloc_new w _
 have hzS : S.heap.size = w.heap.size + 1 := by rw [hS]; simp
 obtain ⟨x0, x1, x2, x3, x4, x5, x6, x7, x8, x9, x10, x11, x12⟩ := c13_ hr1
 have y0 : ∀ d : LowW S, d.w.cell? ⟨w.heap.size, 0, none⟩ = some (.string v.name) := fun d => (d.cell (by show w.heap.size < _; omega)).trans x0
 have y1 : ∀ d : LowW S, d.w.cell? ⟨w.heap.size, 1, none⟩ = some (.string v.param) := fun d => (d.cell (by show w.heap.size < _; omega)).trans x1
 have y2 : ∀ d : LowW S, d.w.cell? ⟨w.heap.size, 2, none⟩ = some (.slice q.bodya q.bodyn q.bodyc) := fun d => (d.cell (by show w.heap.size < _; omega)).trans x2
 have y3 : ∀ d : LowW S, d.w.cell? ⟨w.heap.size, 3, none⟩ = some (.int .u8 v.out.kind) := fun d => (d.cell (by show w.heap.size < _; omega)).trans x3
 have y4 : ∀ d : LowW S, d.w.cell? ⟨w.heap.size, 4, none⟩ = some (.int .i64 v.out.n) := fun d => (d.cell (by show w.heap.size < _; omega)).trans x4
 have y5 : ∀ d : LowW S, d.w.cell? ⟨w.heap.size, 5, none⟩ = some (.string v.out.s) := fun d => (d.cell (by show w.heap.size < _; omega)).trans x5
 have y6 : ∀ d : LowW S, d.w.cell? ⟨w.heap.size, 6, none⟩ = some (.slice q.out.argsa q.out.argsn q.out.argsc) := fun d => (d.cell (by show w.heap.size < _; omega)).trans x6
 have y7 : ∀ d : LowW S, d.w.cell? ⟨w.heap.size, 7, none⟩ = some (.slice q.out.namesa q.out.namesn q.out.namesc) := fun d => (d.cell (by show w.heap.size < _; omega)).trans x7
 have y8 : ∀ d : LowW S, d.w.cell? ⟨w.heap.size, 8, none⟩ = some (.slice q.out.valsa q.out.valsn q.out.valsc) := fun d => (d.cell (by show w.heap.size < _; omega)).trans x8
 have y9 : ∀ d : LowW S, d.w.cell? ⟨w.heap.size, 9, none⟩ = some (.int .u8 v.out.elem) := fun d => (d.cell (by show w.heap.size < _; omega)).trans x9
 have y10 : ∀ d : LowW S, d.w.cell? ⟨w.heap.size, 10, none⟩ = some (.slice q.out.keya q.out.keyn q.out.keyc) := fun d => (d.cell (by show w.heap.size < _; omega)).trans x10
 have y11 : ∀ d : LowW S, d.w.cell? ⟨w.heap.size, 11, none⟩ = some (.slice q.out.actsa q.out.actsn q.out.actsc) := fun d => (d.cell (by show w.heap.size < _; omega)).trans x11
 have y12 : ∀ d : LowW S, d.w.cell? ⟨w.heap.size, 12, none⟩ = some (.string v.out.site) := fun d => (d.cell (by show w.heap.size < _; omega)).trans x12
 have hW : Hid (S = _) := hS
 replace hr1 := hi_ hr1
 clear hS
 have c0 : ∀ d : LowW S, Calls Tryz.prog 45 #[.slice q.bodya q.bodyn q.bodyc] d.w fun e w' => e = .returned (.int .i64 (((v.body.length + wts (v.body.map St.tr)) : Nat) : Int)) ∧ ∃ d' : LowW S, w' = d'.w := fun d => (sizeStmts_any v.body h_body q.bodya q.bodyn q.bodyc d.w (by omega) ((h1.body.kept (hbS.trans (d.low.mono hbS.size))).mono (Nat.le_trans hbS.size d.low.size))).mono fun e w' h => ⟨h.1, d.more h.2⟩
 have c1 : ∀ d : LowW S, Calls Tryz.prog 46 #[.agg (A0_ v.out q.out)] d.w fun e w' => e = .returned (.int .i64 ((v.out.tr.wt : Nat) : Int)) ∧ ∃ d' : LowW S, w' = d'.w := fun d => (h_out (by omega) q.out d.w ((h1.out.kept (hbS.trans (d.low.mono hbS.size))).mono (Nat.le_trans hbS.size d.low.size))).mono fun e w' h => ⟨h.1, d.more h.2⟩
 rw [h9] at hwt ⊢
 obtain ⟨X0, hX0⟩ : ∃ X, X = (v.body.length + wts (v.body.map St.tr)) := ⟨_, rfl⟩
 simp only [← hX0] at c0 hwt ⊢
 replace hX0 := hi_ hX0
 replace c0 := hi_ c0
 obtain ⟨X1, hX1⟩ : ∃ X, X = v.out.tr.wt := ⟨_, rfl⟩
 simp only [← hX1] at c1 hwt ⊢
 replace hX1 := hi_ hX1
 replace c1 := hi_ c1
 have hs0 : v.name.size ≤ 1048576 := by omega
 have hs1 : v.param.size ≤ 1048576 := by omega
 replace hbS := hi_ hbS
 replace h1 := hi_ h1
 clear h9
 go_enter Tryz.func23, Tryz.ntmps23
 go_wp2_with (first | (rw [← hW.out]) | (go_at_call 45; refine (c0.out ⟨S, Below.refl _ _⟩).mono ?_))
 first | rintro e _ rfl ⟨d0, rfl⟩ | rintro e _ ⟨rfl, d0, rfl⟩
 clear x0 x1 x2 x3 x4 x5 x6 x7 x8 x9 x10 x11 x12
 go_wp2_with (first | (rw [← hW.out]) | (go_at_call 46; refine (c1.out _).mono ?_))
 first | rintro e _ rfl ⟨d1, rfl⟩ | rintro e _ ⟨rfl, d1, rfl⟩
 have hfin := hi_ (hbS.out.trans (d1.low.mono hbS.out.size))
 go_wp2_with fail
 go_ret
 exact ⟨by first | rfl | (congr 2; done) | (congr 2; omega) | (simp; omega), hfin.out⟩
theorem sizeCo_any (v : Co) : SizeCo v := sizeCo_of v (fun x _ => sizeSt_any x) (sizeEx_any _)
theorem sizeComponents_any (L : List Co) (hS : ∀ v ∈ L, SizeCo v) (a : Option Addr) (n c : Nat) (w : World) (hwt : L.length + wts (L.map Co.tr) ≤ 1048576) (h1 : CoLs w w.heap.size L a n) :
  Calls Tryz.prog 10 #[.slice a n c] w fun e w' => e = .returned (.int .i64 ((L.length + wts (L.map Co.tr) : Nat) : Int)) ∧ Below w.heap.size w w' := by
 have hl := h1.len.1
 rw [List.length_map] at hl
 have hn : n ≤ 1048576 := by omega
 obtain ⟨M, hM⟩ : ∃ M, M = L.length + wts (L.map Co.tr) := ⟨_, rfl⟩
 rw [← hM] at hwt ⊢
 replace hM := hi_ hM
 replace hl := hi_ hl
 replace h1 := hi_ h1
 replace hS := hi_ hS
 go_enter Tryz.func10, Tryz.ntmps10
 go_wp2_with fail
 go_loopw [3, 4] (fun u i wr => ∃ k N : Nat, k ≤ n ∧ i = .int .i64 (k : Nat) ∧ u = .int .i64 (N : Nat) ∧ N = L.length + wts ((L.map Co.tr).take k) ∧ Below w.heap.size w wr) (fun _ i _ => n - (intOf i).toNat)
 case atStart => exact ⟨0, n, Nat.zero_le _, rfl, rfl, by simp [wts, hl.out], Below.refl _ _⟩
 case round =>
  obtain ⟨k, N, hk, rfl, rfl, hN, hb⟩ := hrel
  have hle := wts_take_le (L.map Co.tr) k
  have hNM : N ≤ M := by have := hM.out; omega
  have hNm : N ≤ 1048576 := by omega
  clear hle
  by_cases hlt : k < n
  ·have hlt9 : Hid (k + 1 ≤ n) := hlt
   obtain ⟨b1, o1, v, q1, rfl, hb1, hg1, hc1, hv1⟩ := CoLs.elem (h1.out.kept hb) k hlt
   obtain ⟨x0, x1, x2, x3, x4, x5, x6, x7, x8, x9, x10, x11, x12⟩ := eCo_ hc1
   have hgt : (L.map Co.tr)[k]? = some v.tr := by rw [List.getElem?_map, hg1]; rfl
   have hN2 : Hid (N + v.tr.wt = L.length + wts ((L.map Co.tr).take (k + 1))) := by
    show _ = _
    rw [wts_take hgt, hN]; omega
   have hwv : v.tr.wt ≤ 1048576 := by
    have h8 := wts_take_le (L.map Co.tr) (k + 1)
    have := hN2.out; have := hM.out; omega
   have cS := hS.out v (List.mem_of_getElem? hg1) hwv q1 wr (hv1.mono hb.size)
   replace cS := hi_ cS
   replace hb := hi_ hb
   replace hN := hi_ hN
   generalize v.tr.wt = X at *
   clear hc1 hv1 hg1 hgt
   go_wp2_with (go_at_call 23; refine cS.out.mono ?_)
   first | rintro e w3 rfl hb3 | rintro e w3 ⟨rfl, hb3⟩
   have hb3' := hi_ (hb.out.trans (hb3.mono hb.out.size))
   clear hb3 cS
   go_wp2_with fail
   go_roundw
   case rel => exact ⟨k + 1, N + X, hlt9.out, by go_num, by go_num, hN2.out, hb3'.out⟩
   case measure => simp [intOf]; have := hlt9.out; omega
  ·obtain rfl : k = n := by omega
   replace hb := hi_ hb
   have hfin : Hid (N = M) := by
    show N = M
    rw [hN, hM.out, List.take_of_length_le (by rw [List.length_map]; have := hl.out; omega)]
   replace hN := hi_ hN
   go_wp2_with fail
   go_ret
   exact ⟨by rw [hfin.out]; rfl, hb.out⟩
def bs (l : List UInt8) : ByteArray := ⟨l.toArray⟩
theorem bs_toList (s : ByteArray) : bs s.data.toList = s := by cases s; simp [bs]
theorem bs_size (l : List UInt8) : (bs l).size = l.length := by simp [bs, ByteArray.size]
theorem ba_ext {s t : ByteArray} (h : s.data.toList = t.data.toList) : s = t := by rw [← bs_toList s, ← bs_toList t, h]
theorem size_list (s : ByteArray) : s.size = s.data.toList.length := by rw [Array.length_toList]; rfl
theorem bs_get (l : List UInt8) (k : Nat) (h : k < (bs l).size) : (bs l)[k] = l[k]'(by rw [← bs_size]; exact h) := by
 simp [bs, ByteArray.getElem_eq_getElem_data]
def escL : List UInt8 → List UInt8
 | [] => []
 | c :: r => (if c = 34 ∨ c = 92 then [92, c] else if c = 10 then [92, 110] else [c]) ++ escL r
def quoteL (s : List UInt8) : List UInt8 := 34 :: (escL s ++ [34])
theorem escL_append (a b : List UInt8) : escL (a ++ b) = escL a ++ escL b := by
 induction a with
 | nil => rfl
 | cons c r ih => simp only [List.cons_append, escL, ih, List.append_assoc]
theorem escL_len (a : List UInt8) : (escL a).length ≤ 2 * a.length := by
 induction a with
 | nil => simp [escL]
 | cons c r ih => simp only [escL, List.length_append, List.length_cons]; split; · simp; omega
                  split <;> simp <;> omega
theorem escL_take (s : List UInt8) (k : Nat) (h : k < s.length) : escL (s.take (k + 1)) = escL (s.take k) ++ escL [s[k]] := by
 rw [List.take_succ_eq_append_getElem h, escL_append]

end Go.Proofs.YtlppklbmdedipaaGreatDoor

namespace Go.Proofs.YtlppklbmdedipaaGreatDoor.Lx
set_option maxHeartbeats 8000000
set_option maxRecDepth 100000

def bs (l : List UInt8) : ByteArray := ⟨l.toArray⟩
theorem bs_data (l : List UInt8) : (bs l).data.toList = l := rfl
theorem bs_toList (s : ByteArray) : bs s.data.toList = s := by cases s; simp [bs]
theorem bs_size (l : List UInt8) : (bs l).size = l.length := by simp [bs, ByteArray.size]
theorem ba_ext {s t : ByteArray} (h : s.data.toList = t.data.toList) : s = t := by rw [← bs_toList s, ← bs_toList t, h]
theorem bs_take (l : List UInt8) (k : Nat) : (bs l).extract 0 k = bs (l.take k) := by
 apply ba_ext; simp [bs]
theorem bs_drop (l : List UInt8) (k : Nat) : (bs l).extract k (bs l).size = bs (l.drop k) := by
 apply ba_ext
 have h : (bs l).size = l.length := bs_size l
 rw [h]
 simp [bs, List.take_of_length_le]
theorem bs_get (l : List UInt8) (k : Nat) (h : k < (bs l).size) : (bs l)[k] = l[k]'(by rw [← bs_size]; exact h) := by
 simp [bs, ByteArray.getElem_eq_getElem_data]

theorem tw_lt (p : UInt8 → Bool) : ∀ (l : List UInt8) (k : Nat), k < (l.takeWhile p).length → ∀ (h : k < l.length), p l[k] = true
 | [], _, hk, _ => by simp at hk
 | c :: r, k, hk, h => by
  by_cases hc : p c = true
  ·cases k with
   | zero => simpa using hc
   | succ k =>
    simp only [List.takeWhile_cons, hc, if_true, List.length_cons] at hk
    simpa using tw_lt p r k (by omega) (by simpa using h)
  ·simp [hc] at hk
theorem tw_at (p : UInt8 → Bool) : ∀ (l : List UInt8) (h : (l.takeWhile p).length < l.length), p l[(l.takeWhile p).length] = false
 | [], h => by simp at h
 | c :: r, h => by
  by_cases hc : p c = true
  ·simp only [List.takeWhile_cons, hc, if_true, List.length_cons, List.getElem_cons_succ] at h ⊢
   exact tw_at p r (by omega)
  ·simp [hc]
theorem tw_le (p : UInt8 → Bool) (l : List UInt8) : (l.takeWhile p).length ≤ l.length := (List.takeWhile_sublist p).length_le
theorem take_tw (p : UInt8 → Bool) (l : List UInt8) : l.take (l.takeWhile p).length = l.takeWhile p := by
 induction l with
 | nil => rfl
 | cons c r ih => by_cases hc : p c = true <;> simp [hc, ih]
theorem drop_tw (p : UInt8 → Bool) (l : List UInt8) : l.drop (l.takeWhile p).length = l.dropWhile p := by
 induction l with
 | nil => rfl
 | cons c r ih => by_cases hc : p c = true <;> simp [hc, ih]
theorem tw_all (p : UInt8 → Bool) : ∀ (l : List UInt8) (x : UInt8), x ∈ l.takeWhile p → p x = true
 | [], x, h => by simp at h
 | c :: r, x, h => by
  by_cases hc : p c = true
  ·simp only [List.takeWhile_cons, hc, if_true, List.mem_cons] at h
   rcases h with rfl | h
   ·exact hc
   ·exact tw_all p r x h
  ·simp [hc] at h
theorem tw_mem (p : UInt8 → Bool) (l : List UInt8) (j : Nat) (h : j < (l.takeWhile p).length) : p (l.takeWhile p)[j] = true := tw_all p l _ (List.getElem_mem h)
theorem tw_dw (p : UInt8 → Bool) (l : List UInt8) : (l.takeWhile p).length + (l.dropWhile p).length = l.length := by
 rw [← List.length_append, List.takeWhile_append_dropWhile]
theorem dw_dw (p : UInt8 → Bool) (l : List UInt8) : (l.dropWhile p).dropWhile p = l.dropWhile p := by
 induction l with
 | nil => rfl
 | cons c r ih => by_cases hc : p c = true <;> simp [hc, ih]
theorem dw_le (p : UInt8 → Bool) (l : List UInt8) : (l.dropWhile p).length ≤ l.length := (List.dropWhile_sublist p).length_le

def kindOf (c : UInt8) : Nat :=
 if c.toNat = 32 ∨ c.toNat = 9 ∨ c.toNat = 10 then 1
 else if 48 ≤ c.toNat ∧ c.toNat ≤ 57 then 2
 else if (97 ≤ c.toNat ∧ c.toNat ≤ 122) ∨ (65 ≤ c.toNat ∧ c.toNat ≤ 90) ∨ c.toNat = 45 ∨ c.toNat = 95 ∨ c.toNat = 58 ∨ c.toNat = 46 ∨ c.toNat = 35 ∨ c.toNat = 33 ∨ c.toNat = 63 then 3
 else 0
def idle (c : UInt8) : Bool := kindOf c == 1
def part (c : UInt8) : Bool := decide (2 ≤ kindOf c)
def plainByte (c : UInt8) : Bool := c != 34 && c != 92 && c != 10

def skipL : List UInt8 → Nat → List UInt8 × Nat
 | [], ln => ([], ln)
 | c :: r, ln =>
  if c = 10 then skipL r (ln + 1)
  else if c = 32 ∨ c = 9 then skipL r ln
  else if c = 59 then skipL (r.dropWhile (· != 10)) ln
  else (c :: r, ln)
 termination_by l => l.length
 decreasing_by
  all_goals simp only [List.length_cons]
  ·omega
  ·omega
  ·have := dw_le (· != 10) r; omega

theorem skipL_idle (l : List UInt8) (ln : Nat) : skipL l ln = skipL (l.dropWhile idle) (ln + ((l.takeWhile idle).filter (· == 10)).length) := by
 induction l generalizing ln with
 | nil => simp
 | cons c r ih =>
  by_cases hc : idle c = true
  ·have h3 : c = 10 ∨ c = 32 ∨ c = 9 := by
    simp only [idle, kindOf, beq_iff_eq] at hc
    have : c.toNat = 32 ∨ c.toNat = 9 ∨ c.toNat = 10 := by
     revert hc; repeat' split
     all_goals simp_all
    simp only [← UInt8.toNat_inj]
    rcases this with h | h | h <;> simp [h]
   rw [skipL]
   rcases h3 with rfl | rfl | rfl
   ·rw [if_pos rfl, ih]; simp only [hc, List.takeWhile_cons, List.dropWhile_cons, List.filter_cons, if_true, beq_self_eq_true, List.length_cons]; congr 1; omega
   ·rw [if_neg (by decide), if_pos (by simp), ih]; simp [hc]
   ·rw [if_neg (by decide), if_pos (by simp), ih]; simp [hc]
  ·simp [hc]
theorem skipL_rem (r : List UInt8) (ln : Nat) : skipL (59 :: r) ln = skipL (r.dropWhile (· != 10)) ln := by
 rw [skipL, if_neg (by decide), if_neg (by decide), if_pos rfl]
theorem skipL_stop (l : List UInt8) (ln : Nat) (h1 : l.dropWhile idle = l) (h2 : l.head? ≠ some 59) : skipL l ln = (l, ln) := by
 cases l with
 | nil => rw [skipL]
 | cons c r =>
  have hc : idle c = false := by
   by_cases hc : idle c = true
   ·simp only [List.dropWhile_cons, hc, if_true] at h1
    have := dw_le idle r
    have := congrArg List.length h1
    simp at this; omega
   ·simpa using hc
  have n10 : c ≠ 10 := by rintro rfl; simp [idle, kindOf] at hc
  have n32 : ¬ (c = 32 ∨ c = 9) := by rintro (rfl | rfl) <;> simp [idle, kindOf] at hc
  have n59 : c ≠ 59 := by rintro rfl; simp at h2
  rw [skipL, if_neg n10, if_neg n32, if_neg n59]
theorem skipL_le (l : List UInt8) (ln : Nat) : (skipL l ln).1.length ≤ l.length := by
 fun_induction skipL l ln with
 | case1 => simp
 | case2 => simp only [List.length_cons]; omega
 | case3 => simp only [List.length_cons]; omega
 | case4 r => have := dw_le (· != 10) r; simp only [List.length_cons]; omega
 | case5 => simp
theorem skipL_sum (l : List UInt8) (ln : Nat) : (skipL l ln).1.length + (skipL l ln).2 ≤ l.length + ln := by
 fun_induction skipL l ln with
 | case1 => simp
 | case2 => simp only [List.length_cons]; omega
 | case3 => simp only [List.length_cons]; omega
 | case4 r => have := dw_le (· != 10) r; simp only [List.length_cons]; omega
 | case5 => simp

def escOf (d : UInt8) : Option UInt8 := if d = 34 then some 34 else if d = 92 then some 92 else if d = 110 then some 10 else none
def textL : Bool → List UInt8 → List UInt8 → Option (List UInt8 × List UInt8)
 | _, [], _ => none
 | true, d :: r, acc => (escOf d).bind fun e => textL false r (acc ++ [e])
 | false, c :: r, acc => if c = 34 then some (acc, r) else if c = 10 then none else if c = 92 then textL true r acc else textL false r (acc ++ [c])
theorem textL_plain (l acc : List UInt8) : textL false l acc = textL false (l.dropWhile plainByte) (acc ++ l.takeWhile plainByte) := by
 induction l generalizing acc with
 | nil => simp
 | cons c r ih =>
  by_cases hc : plainByte c = true
  ·have h : c ≠ 34 ∧ c ≠ 92 ∧ c ≠ 10 := by
    simpa [plainByte, bne_iff_ne, and_assoc] using hc
   rw [textL, if_neg h.1, if_neg h.2.2, if_neg h.2.1, ih]
   simp [hc]
  ·simp [hc]
theorem textL_quote (r acc : List UInt8) : textL false (34 :: r) acc = some (acc, r) := by rw [textL, if_pos rfl]
theorem textL_back (r acc : List UInt8) : textL false (92 :: r) acc = textL true r acc := by
 rw [textL, if_neg (by decide), if_neg (by decide), if_pos rfl]
theorem textL_esc (d : UInt8) (r acc : List UInt8) (h : d = 34 ∨ d = 92) : textL false (92 :: d :: r) acc = textL false r (acc ++ [d]) := by
 rw [textL_back, textL]
 rcases h with rfl | rfl <;> rfl
theorem textL_nl (r acc : List UInt8) : textL false (92 :: 110 :: r) acc = textL false r (acc ++ [10]) := by
 rw [textL_back, textL]; rfl
theorem dw_head {p : UInt8 → Bool} {l : List UInt8} (h : l.dropWhile p = l) {c : UInt8} {r : List UInt8} (hl : l = c :: r) : p c = false := by
 subst hl
 by_cases hc : p c = true
 ·simp only [List.dropWhile_cons, hc, if_true] at h
  have := congrArg List.length h
  have := dw_le p r
  simp at *; omega
 ·simpa using hc
theorem textL_ways (l acc : List UInt8) (h : l.dropWhile plainByte = l) :
  (∃ r, l = 34 :: r) ∨ (∃ d r, l = 92 :: d :: r ∧ (d = 34 ∨ d = 92)) ∨ (∃ r, l = 92 :: 110 :: r) ∨
   (textL false l acc = none ∧ [34].isPrefixOf l = false ∧ [92, 92].isPrefixOf l = false ∧ [92, 34].isPrefixOf l = false ∧ [92, 110].isPrefixOf l = false) := by
 cases l with
 | nil => exact .inr (.inr (.inr ⟨by rw [textL], rfl, rfl, rfl, rfl⟩))
 | cons c r =>
  have hc : c = 34 ∨ c = 92 ∨ c = 10 := by
   have := dw_head h rfl
   simp only [plainByte, Bool.and_eq_false_iff, bne_eq_false_iff_eq] at this
   rcases this with (h | h) | h
   ·exact .inl h
   ·exact .inr (.inl h)
   ·exact .inr (.inr h)
  rcases hc with rfl | rfl | rfl
  ·exact .inl ⟨r, rfl⟩
  ·cases r with
   | nil => exact .inr (.inr (.inr ⟨by rw [textL_back, textL], rfl, rfl, rfl, rfl⟩))
   | cons d r =>
    by_cases h1 : d = 34 ∨ d = 92
    ·exact .inr (.inl ⟨d, r, rfl, h1⟩)
    ·by_cases h2 : d = 110
     ·subst h2; exact .inr (.inr (.inl ⟨r, rfl⟩))
     ·have h34 : d ≠ 34 := fun e => h1 (.inl e)
      have h92 : d ≠ 92 := fun e => h1 (.inr e)
      refine .inr (.inr (.inr ⟨?_, ?_, ?_, ?_, ?_⟩))
      ·rw [textL_back, textL]; simp [escOf, h34, h92, h2]
      ·rfl
      ·simp [List.isPrefixOf]; exact fun e => h92 e.symm
      ·simp [List.isPrefixOf]; exact fun e => h34 e.symm
      ·simp [List.isPrefixOf]; exact fun e => h2 e.symm
  ·exact .inr (.inr (.inr ⟨by rw [textL, if_neg (by decide), if_pos rfl], by simp [List.isPrefixOf], by simp [List.isPrefixOf], by simp [List.isPrefixOf], by simp [List.isPrefixOf]⟩))
theorem textL_le : ∀ (f : Bool) (l acc t r : List UInt8), textL f l acc = some (t, r) → r.length < l.length ∧ t.length ≤ acc.length + l.length
 | _, [], acc, t, r, h => by simp [textL] at h
 | true, d :: m, acc, t, r, h => by
  rw [textL] at h
  cases he : escOf d with
  | none => simp [he] at h
  | some e =>
   simp only [he, Option.bind_some] at h
   have := textL_le false m _ t r h
   simp at this ⊢; omega
 | false, c :: m, acc, t, r, h => by
  rw [textL] at h
  split at h
  ·simp at h; obtain ⟨rfl, rfl⟩ := h; simp
  ·split at h
   ·simp at h
   ·split at h
    ·have := textL_le true m _ t r h; simp at this ⊢; omega
    ·have := textL_le false m _ t r h; simp at this ⊢; omega

def isNum (s : List UInt8) : Bool := match Lib.trimPrefix s [45] with | [] => false | c :: _ => kindOf c == 2
def numL (s : List UInt8) : Option Int := match Lib.parseIntB 64 s with | .ok v => if Lib.itoa v = s then some v else none | _ => none
def restL (l : List UInt8) : Option (Nat × List UInt8 × Int × List UInt8) :=
 if isNum (l.takeWhile part) then (numL (l.takeWhile part)).map fun n => (2, [], n, l.dropWhile part)
 else if l.takeWhile part ≠ [] ∧ (l.takeWhile part).length ≤ 4096 then some (1, l.takeWhile part, 0, l.dropWhile part) else none
def wordL : List UInt8 → Option (Nat × List UInt8 × Int × List UInt8)
 | [] => none
 | c :: r =>
  if c = 40 then some (4, [], 0, r)
  else if c = 41 then some (5, [], 0, r)
  else if c = 34 then (textL false r []).bind fun x => if x.1.length ≤ 4096 then some (3, x.1, 0, x.2) else none
  else restL (c :: r)
theorem restL_lt (c : UInt8) (r : List UInt8) {k : Nat} {s : List UInt8} {n : Int} {m : List UInt8} (h : restL (c :: r) = some (k, s, n, m)) : m.length < (c :: r).length := by
 have hd := tw_dw part (c :: r)
 have key : (c :: r).takeWhile part ≠ [] → ((c :: r).dropWhile part).length < (c :: r).length := fun hne => by
  have : 0 < ((c :: r).takeWhile part).length := List.length_pos_iff.2 hne
  omega
 unfold restL at h
 split at h
 ·rename_i hn
  have hne : (c :: r).takeWhile part ≠ [] := by
   intro e; rw [e] at hn; simp [isNum, Lib.trimPrefix, Lib.hasPrefix, List.isPrefixOf] at hn
  cases hv : numL ((c :: r).takeWhile part) with
  | none => simp [hv] at h
  | some v => simp [hv] at h; obtain ⟨_, _, _, rfl⟩ := h; exact key hne
 ·split at h
  ·rename_i h2; simp at h; obtain ⟨_, _, _, rfl⟩ := h; exact key h2.1
  ·simp at h
theorem wordL_lt (l : List UInt8) {k : Nat} {s : List UInt8} {n : Int} {m : List UInt8} (h : wordL l = some (k, s, n, m)) : m.length < l.length := by
 cases l with
 | nil => simp [wordL] at h
 | cons c r =>
  rw [wordL] at h
  split at h
  ·simp at h; obtain ⟨_, _, _, rfl⟩ := h; simp
  ·split at h
   ·simp at h; obtain ⟨_, _, _, rfl⟩ := h; simp
   ·split at h
    ·cases hx : textL false r [] with
     | none => simp [hx] at h
     | some x =>
      simp only [hx, Option.bind_some] at h
      have := textL_le false r [] x.1 x.2 (by rw [hx])
      split at h
      ·simp at h; obtain ⟨_, _, _, rfl⟩ := h; simp; omega
      ·simp at h
    ·exact restL_lt c r h
def wordsGo : Nat → List UInt8 → Nat → List (Nat × List UInt8 × Int × Nat) → Except Nat (List (Nat × List UInt8 × Int × Nat))
 | 0, _, _, acc => .ok acc
 | f + 1, l, ln, acc =>
  match l with
  | [] => .ok acc
  | _ :: _ => match wordL l with
   | none => .error ln
   | some (k, s, n, r) => wordsGo f (skipL r ln).1 (skipL r ln).2 (acc ++ [(k, s, n, ln)])
end Go.Proofs.YtlppklbmdedipaaGreatDoor.Lx
