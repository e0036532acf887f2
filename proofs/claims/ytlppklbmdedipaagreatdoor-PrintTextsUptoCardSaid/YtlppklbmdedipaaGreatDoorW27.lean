/- PrintTexts, part 27. -/
import Derived.Test.YtlppklbmdedipaaGreatDoorW02
import Derived.Test.YtlppklbmdedipaaGreatDoorW26
import Derived.Test.YtlppklbmdedipaaGreatDoorW15
import Derived.Lib.BufferRead
namespace Go.Proofs.YtlppklbmdedipaaGreatDoor
open Go Go.RowKit
set_option maxHeartbeats 8000000
set_option maxRecDepth 100000
theorem stmt7a_R (w0 : World) (B b : Nat) (v : St) (q : QSt) (t : RS) (he : v.kind = 7) (hv : StAt w0 B v q) (hY : ∀ x ∈ v.body, StR w0 B b x) (k1 : ¬ v.name.size = 0) : DoesR w0 B b 19 #[.pointer (some ⟨b, 0, none⟩), .agg (A2_ v q)] t (RS.stmt v (rEx v.expr) (rExs v.deps) (rAcs v.dos) (rAcs v.undo) (rSts v.body) t) := by
 unfold A2_
 intro bx w h hF
 have hL := hi_ hv.lens
 have hs1 := hv.name
 have hs2 := hv.ctx
 have hEq : RS.stmt v (rEx v.expr) (rExs v.deps) (rAcs v.dos) (rAcs v.undo) (rSts v.body) t = RS.fin ((rSts v.body) ((rEx v.expr) (((t.put [40]).put w27_).must (decide (v.name.size = 0) && decide (v.ctx.size = 0) && decide (v.deps.length = 0) && RS.lists v)))) := by
  unfold RS.stmt
  rw [if_neg (by omega), if_neg (by omega), if_neg (by omega), if_neg (by omega), if_neg (by omega), if_neg (by omega), if_pos he]
 rw [hEq] at hF ⊢
 clear hEq
 have ff := hF.fin
 have f4 : FitR ((rSts v.body) ((rEx v.expr) (((t.put [40]).put w27_).must (decide (v.name.size = 0) && decide (v.ctx.size = 0) && decide (v.deps.length = 0) && RS.lists v)))) := ff
 have f3 : FitR ((rEx v.expr) (((t.put [40]).put w27_).must (decide (v.name.size = 0) && decide (v.ctx.size = 0) && decide (v.deps.length = 0) && RS.lists v))) := FitR.sts hv.body ff
 have f2 : FitR (((t.put [40]).put w27_).must (decide (v.name.size = 0) && decide (v.ctx.size = 0) && decide (v.deps.length = 0) && RS.lists v)) := FitR.ex hv.expr f3
 have f1 : FitR ((t.put [40]).put w27_) := f2
 have f0 : FitR (t.put [40]) := f1.put
 obtain ⟨OB, hOB⟩ : ∃ OB : Obj, OB = (O2_ v q) := ⟨_, rfl⟩
 replace hOB := hi_ hOB
 obtain ⟨S, hS⟩ : ∃ S, S = w.alloc ((O2_ v q)) := ⟨_, rfl⟩
 have h0 : RK w0 B b t ((w.heap.size, OB) :: bx) S := by rw [hS, hOB.out]; exact h.alloc _
 have hWS : Hid (S = _) := hS
 clear hS
 replace h := hi_ h
 have c0 := hi_ (open_R w0 B b t _ _ h0 f0)
 have cEnd := hi_ (fun W hW => end_R w0 B b ((rSts v.body) ((rEx v.expr) (((t.put [40]).put w27_).must (decide (v.name.size = 0) && decide (v.ctx.size = 0) && decide (v.deps.length = 0) && RS.lists v)))) ((w.heap.size, OB) :: bx) W hW hF)
 have yk10 : ¬ v.name.toList = [] := by rw [size_nil]; exact k1
 have yk11 : v.name.toList.isEmpty = false := by rw [size_emp]; simp [k1]
 have yk12 : (v.name.toList == []) = false := by rw [size_beq]; simp [k1]
 replace k1 := hi_ k1
 have c1 := hi_ (fun W hW => put_R w0 B b (t.put [40]) w27_ ((w.heap.size, OB) :: bx) W hW f1)
 have cM := hi_ (must_as w0 B b ((t.put [40]).put w27_) (decide (v.name.size = 0) && decide (v.ctx.size = 0) && decide (v.deps.length = 0) && RS.lists v) ((w.heap.size, OB) :: bx) f2)
 have c3 := hi_ (fun W hW => ex_R w0 B b v.expr q.expr (((t.put [40]).put w27_).must (decide (v.name.size = 0) && decide (v.ctx.size = 0) && decide (v.deps.length = 0) && RS.lists v)) hv.expr ((w.heap.size, OB) :: bx) W hW f3)
 have f4' := hi_ f4
 have hbl := hv.body
 have hbn := hv.body.2.1
 clear f1 f2 f3 f4
 have hag : Hid (Value.agg #[.int .u8 v.kind, .string v.name, .string v.ctx, .int .u8 v.expr.kind, .int .i64 v.expr.n, .string v.expr.s, .slice q.expr.argsa q.expr.argsn q.expr.argsc, .slice q.expr.namesa q.expr.namesn q.expr.namesc, .slice q.expr.valsa q.expr.valsn q.expr.valsc, .int .u8 v.expr.elem, .slice q.expr.keya q.expr.keyn q.expr.keyc, .slice q.expr.actsa q.expr.actsn q.expr.actsc, .string v.expr.site, .slice q.depsa q.depsn q.depsc, .slice q.dosa q.dosn q.dosc, .slice q.undoa q.undon q.undoc, .slice q.bodya q.bodyn q.bodyc] = .agg #[.int .u8 7, .string v.name, .string v.ctx, .int .u8 v.expr.kind, .int .i64 v.expr.n, .string v.expr.s, .slice q.expr.argsa q.expr.argsn q.expr.argsc, .slice q.expr.namesa q.expr.namesn q.expr.namesc, .slice q.expr.valsa q.expr.valsn q.expr.valsc, .int .u8 v.expr.elem, .slice q.expr.keya q.expr.keyn q.expr.keyc, .slice q.expr.actsa q.expr.actsn q.expr.actsc, .string v.expr.site, .slice q.depsa q.depsn q.depsc, .slice q.dosa q.dosn q.dosc, .slice q.undoa q.undon q.undoc, .slice q.bodya q.bodyn q.bodyc]) := by show _ = _; rw [he]
 replace he := hi_ he
 replace h0 := hi_ h0
 have hv' := hi_ hv
 clear hF ff f0 hv
 go_enter Tryz.func19, Tryz.ntmps19
 go_wp2_with (first | (rw [← hWS.out]) | (go_at_call 16; refine c0.out.mono ?_))
 first | rintro e w1 rfl h1 | rintro e w1 ⟨rfl, h1⟩
 have hq_ := h1.box M0_
 rw [hOB.out] at hq_
 obtain ⟨x0, -⟩ := c17_ hq_
 rw [he.out] at x0
 clear hq_
 replace h1 := hi_ h1
 go_wp2_with (go_at_call 17; refine (c1.out w1 h1.out).mono ?_)
 first | rintro e w2 rfl h2 | rintro e w2 ⟨rfl, h2⟩
 clear x0
 replace h2 := hi_ h2
 have hY := h2.out.box M0_
 rw [hOB.out] at hY
 obtain ⟨-, x1, -⟩ := c17_ hY
 clear hY
 go_wp2_with (go_at_call 34; refine (cM.out _ _ h2.out (by rw [Bool.eq_iff_iff]; simp [hL.out.deps.symm, k1.out])).mono ?_)
 first | rintro e wc rfl hcut | rintro e wc ⟨rfl, hcut⟩
 clear x1 yk10 yk11 yk12
 have hY := hcut.box M0_
 rw [hOB.out] at hY
 obtain ⟨-, -, -, x3, x4, x5, x6, x7, x8, x9, x10, x11, x12, -⟩ := c17_ hY
 clear hY
 replace hcut := hi_ hcut
 go_wp2_with (go_at_call 20; refine (c3.out wc hcut.out).mono ?_)
 first | rintro e wd rfl hd | rintro e wd ⟨rfl, hd⟩
 clear x3 x4 x5 x6 x7 x8 x9 x10 x11 x12
 have hd' := hi_ hd
 clear hd
 go_wp2_with fail
 go_loopw [4] (fun i wr => ∃ k : Nat, k ≤ q.bodyn ∧ i = .int .i64 (k : Nat) ∧ RK w0 B b (rSts (v.body.take k) ((rEx v.expr) (((t.put [40]).put w27_).must (decide (v.name.size = 0) && decide (v.ctx.size = 0) && decide (v.deps.length = 0) && RS.lists v)))) ((w.heap.size, OB) :: bx) wr) (fun i _ => q.bodyn - (intOf i).toNat)
 case atStart => exact ⟨0, Nat.zero_le _, rfl, hd'.out⟩
 case round =>
  clear hd'
  obtain ⟨k, hk, rfl, hK⟩ := hrel
  by_cases hlt : k < q.bodyn
  ·have hlt9 : Hid (k + 1 ≤ q.bodyn) := hlt
   obtain ⟨b2, o2, v2, q2, hqa, hb2, hg2, hc2, hv2⟩ := StLs.elem hbl k hlt
   have hsn := hi_ (rSts_snoc hg2 ((rEx v.expr) (((t.put [40]).put w27_).must (decide (v.name.size = 0) && decide (v.ctx.size = 0) && decide (v.deps.length = 0) && RS.lists v))))
   replace hqa := hi_ hqa

   have hY := hK.box M0_
   rw [hOB.out] at hY
   obtain ⟨-, -, -, -, -, -, -, -, -, -, -, -, -, -, -, -, x16⟩ := c17_ hY
   clear hY
   rw [hqa.out] at x16
   have cS0 := hi_ (hY v2 (List.mem_of_getElem? hg2) q2 _ hv2 ((w.heap.size, OB) :: bx) wr hK (by rw [← hsn.out]; exact FitR.sts_take hbl f4'.out (k + 1)))
   rw [← hsn.out] at cS0
   replace hK := hi_ hK
   obtain ⟨Z, hZl, cS⟩ : ∃ Z : Array Value, Hid ((Instr.loadAt 63 (.pointer (some ⟨b2, o2 + k * 17, none⟩))).run Tryz.prog wr = .ok (.agg Z) wr) ∧ Hid (Calls Tryz.prog 19 #[.pointer (some ⟨b, 0, none⟩), .agg Z] wr fun e w' => e = .returned (.tuple #[]) ∧ RK w0 B b (rSts (v.body.take (k + 1)) ((rEx v.expr) (((t.put [40]).put w27_).must (decide (v.name.size = 0) && decide (v.ctx.size = 0) && decide (v.deps.length = 0) && RS.lists v)))) ((w.heap.size, OB) :: bx) w') := ⟨q2.arr v2, St_load (fun j hj => by rw [Nat.add_assoc]; exact (hK.out.low.cell (p := ⟨b2, o2 + (k * 17 + j), none⟩) hb2).trans (hc2 j hj)), cS0⟩
   clear cS0 hc2 hv2 hg2
   go_wp2_with (first | (refine ld_arm hZl.out rfl _ rfl rfl ?_) | (go_at_call 19; refine cS.out.mono ?_))
   first | rintro e w3 rfl hK3 | rintro e w3 ⟨rfl, hK3⟩
   replace hK3 := hi_ hK3
   go_wp2_with fail
   go_roundw
   case rel => exact ⟨k + 1, hlt9.out, by go_num, hK3.out⟩
   case measure => simp [intOf]; have := hlt9.out; omega
  ·obtain rfl : k = q.bodyn := by omega
   have hy : RK w0 B b ((rSts v.body) ((rEx v.expr) (((t.put [40]).put w27_).must (decide (v.name.size = 0) && decide (v.ctx.size = 0) && decide (v.deps.length = 0) && RS.lists v)))) ((w.heap.size, OB) :: bx) wr := by
    rw [List.take_of_length_le (by rw [hL.out.body]; exact Nat.le_refl _)] at hK
    exact hK
   clear hK
   have hY := hy.box M0_
   rw [hOB.out] at hY
   obtain ⟨-, -, -, -, -, -, -, -, -, -, -, -, -, -, -, -, x16⟩ := c17_ hY
   clear hY
   replace hy := hi_ hy
   go_wp2_with (go_at_call 21; refine (cEnd.out wr hy.out).mono ?_)
   first | rintro e wz rfl hz | rintro e wz ⟨rfl, hz⟩
   replace hz := hi_ hz.drop
   go_wp2_with fail
   exact bodyPost_end (v := .tuple #[]) (results_none (by kernel_rfl) _ _ _) rfl ⟨rfl, hz.out⟩
theorem stmt7b_R (w0 : World) (B b : Nat) (v : St) (q : QSt) (t : RS) (he : v.kind = 7) (hv : StAt w0 B v q) (hY : ∀ x ∈ v.body, StR w0 B b x) (k1 : v.name.size = 0) (k2 : ¬ v.ctx.size = 0) : DoesR w0 B b 19 #[.pointer (some ⟨b, 0, none⟩), .agg (A2_ v q)] t (RS.stmt v (rEx v.expr) (rExs v.deps) (rAcs v.dos) (rAcs v.undo) (rSts v.body) t) := by
 unfold A2_
 intro bx w h hF
 have hL := hi_ hv.lens
 have hs1 := hv.name
 have hs2 := hv.ctx
 have hEq : RS.stmt v (rEx v.expr) (rExs v.deps) (rAcs v.dos) (rAcs v.undo) (rSts v.body) t = RS.fin ((rSts v.body) ((rEx v.expr) (((t.put [40]).put w27_).must (decide (v.name.size = 0) && decide (v.ctx.size = 0) && decide (v.deps.length = 0) && RS.lists v)))) := by
  unfold RS.stmt
  rw [if_neg (by omega), if_neg (by omega), if_neg (by omega), if_neg (by omega), if_neg (by omega), if_neg (by omega), if_pos he]
 rw [hEq] at hF ⊢
 clear hEq
 have ff := hF.fin
 have f4 : FitR ((rSts v.body) ((rEx v.expr) (((t.put [40]).put w27_).must (decide (v.name.size = 0) && decide (v.ctx.size = 0) && decide (v.deps.length = 0) && RS.lists v)))) := ff
 have f3 : FitR ((rEx v.expr) (((t.put [40]).put w27_).must (decide (v.name.size = 0) && decide (v.ctx.size = 0) && decide (v.deps.length = 0) && RS.lists v))) := FitR.sts hv.body ff
 have f2 : FitR (((t.put [40]).put w27_).must (decide (v.name.size = 0) && decide (v.ctx.size = 0) && decide (v.deps.length = 0) && RS.lists v)) := FitR.ex hv.expr f3
 have f1 : FitR ((t.put [40]).put w27_) := f2
 have f0 : FitR (t.put [40]) := f1.put
 obtain ⟨OB, hOB⟩ : ∃ OB : Obj, OB = (O2_ v q) := ⟨_, rfl⟩
 replace hOB := hi_ hOB
 obtain ⟨S, hS⟩ : ∃ S, S = w.alloc ((O2_ v q)) := ⟨_, rfl⟩
 have h0 : RK w0 B b t ((w.heap.size, OB) :: bx) S := by rw [hS, hOB.out]; exact h.alloc _
 have hWS : Hid (S = _) := hS
 clear hS
 replace h := hi_ h
 have c0 := hi_ (open_R w0 B b t _ _ h0 f0)
 have cEnd := hi_ (fun W hW => end_R w0 B b ((rSts v.body) ((rEx v.expr) (((t.put [40]).put w27_).must (decide (v.name.size = 0) && decide (v.ctx.size = 0) && decide (v.deps.length = 0) && RS.lists v)))) ((w.heap.size, OB) :: bx) W hW hF)
 have yk10 : v.name.toList = [] := by rw [size_nil]; exact k1
 have yk11 : v.name.toList.isEmpty = true := by rw [size_emp]; simp [k1]
 replace k1 := hi_ k1
 have yk20 : ¬ v.ctx.toList = [] := by rw [size_nil]; exact k2
 have yk21 : v.ctx.toList.isEmpty = false := by rw [size_emp]; simp [k2]
 have yk22 : (v.ctx.toList == []) = false := by rw [size_beq]; simp [k2]
 replace k2 := hi_ k2
 have c1 := hi_ (fun W hW => put_R w0 B b (t.put [40]) w27_ ((w.heap.size, OB) :: bx) W hW f1)
 have cM := hi_ (must_as w0 B b ((t.put [40]).put w27_) (decide (v.name.size = 0) && decide (v.ctx.size = 0) && decide (v.deps.length = 0) && RS.lists v) ((w.heap.size, OB) :: bx) f2)
 have c3 := hi_ (fun W hW => ex_R w0 B b v.expr q.expr (((t.put [40]).put w27_).must (decide (v.name.size = 0) && decide (v.ctx.size = 0) && decide (v.deps.length = 0) && RS.lists v)) hv.expr ((w.heap.size, OB) :: bx) W hW f3)
 have f4' := hi_ f4
 have hbl := hv.body
 have hbn := hv.body.2.1
 clear f1 f2 f3 f4
 have hag : Hid (Value.agg #[.int .u8 v.kind, .string v.name, .string v.ctx, .int .u8 v.expr.kind, .int .i64 v.expr.n, .string v.expr.s, .slice q.expr.argsa q.expr.argsn q.expr.argsc, .slice q.expr.namesa q.expr.namesn q.expr.namesc, .slice q.expr.valsa q.expr.valsn q.expr.valsc, .int .u8 v.expr.elem, .slice q.expr.keya q.expr.keyn q.expr.keyc, .slice q.expr.actsa q.expr.actsn q.expr.actsc, .string v.expr.site, .slice q.depsa q.depsn q.depsc, .slice q.dosa q.dosn q.dosc, .slice q.undoa q.undon q.undoc, .slice q.bodya q.bodyn q.bodyc] = .agg #[.int .u8 7, .string v.name, .string v.ctx, .int .u8 v.expr.kind, .int .i64 v.expr.n, .string v.expr.s, .slice q.expr.argsa q.expr.argsn q.expr.argsc, .slice q.expr.namesa q.expr.namesn q.expr.namesc, .slice q.expr.valsa q.expr.valsn q.expr.valsc, .int .u8 v.expr.elem, .slice q.expr.keya q.expr.keyn q.expr.keyc, .slice q.expr.actsa q.expr.actsn q.expr.actsc, .string v.expr.site, .slice q.depsa q.depsn q.depsc, .slice q.dosa q.dosn q.dosc, .slice q.undoa q.undon q.undoc, .slice q.bodya q.bodyn q.bodyc]) := by show _ = _; rw [he]
 replace he := hi_ he
 replace h0 := hi_ h0
 have hv' := hi_ hv
 clear hF ff f0 hv
 go_enter Tryz.func19, Tryz.ntmps19
 go_wp2_with (first | (rw [← hWS.out]) | (go_at_call 16; refine c0.out.mono ?_))
 first | rintro e w1 rfl h1 | rintro e w1 ⟨rfl, h1⟩
 have hq_ := h1.box M0_
 rw [hOB.out] at hq_
 obtain ⟨x0, -⟩ := c17_ hq_
 rw [he.out] at x0
 clear hq_
 replace h1 := hi_ h1
 go_wp2_with (go_at_call 17; refine (c1.out w1 h1.out).mono ?_)
 first | rintro e w2 rfl h2 | rintro e w2 ⟨rfl, h2⟩
 clear x0
 replace h2 := hi_ h2
 have hY := h2.out.box M0_
 rw [hOB.out] at hY
 obtain ⟨-, x1, x2, -⟩ := c17_ hY
 clear hY
 go_wp2_with (go_at_call 34; refine (cM.out _ _ h2.out (by rw [Bool.eq_iff_iff]; simp [hL.out.deps.symm, k1.out, k2.out])).mono ?_)
 first | rintro e wc rfl hcut | rintro e wc ⟨rfl, hcut⟩
 clear x1 x2 yk10 yk11 yk20 yk21 yk22
 have hY := hcut.box M0_
 rw [hOB.out] at hY
 obtain ⟨-, -, -, x3, x4, x5, x6, x7, x8, x9, x10, x11, x12, -⟩ := c17_ hY
 clear hY
 replace hcut := hi_ hcut
 go_wp2_with (go_at_call 20; refine (c3.out wc hcut.out).mono ?_)
 first | rintro e wd rfl hd | rintro e wd ⟨rfl, hd⟩
 clear x3 x4 x5 x6 x7 x8 x9 x10 x11 x12
 have hd' := hi_ hd
 clear hd
 go_wp2_with fail
 go_loopw [4] (fun i wr => ∃ k : Nat, k ≤ q.bodyn ∧ i = .int .i64 (k : Nat) ∧ RK w0 B b (rSts (v.body.take k) ((rEx v.expr) (((t.put [40]).put w27_).must (decide (v.name.size = 0) && decide (v.ctx.size = 0) && decide (v.deps.length = 0) && RS.lists v)))) ((w.heap.size, OB) :: bx) wr) (fun i _ => q.bodyn - (intOf i).toNat)
 case atStart => exact ⟨0, Nat.zero_le _, rfl, hd'.out⟩
 case round =>
  clear hd'
  obtain ⟨k, hk, rfl, hK⟩ := hrel
  by_cases hlt : k < q.bodyn
  ·have hlt9 : Hid (k + 1 ≤ q.bodyn) := hlt
   obtain ⟨b2, o2, v2, q2, hqa, hb2, hg2, hc2, hv2⟩ := StLs.elem hbl k hlt
   have hsn := hi_ (rSts_snoc hg2 ((rEx v.expr) (((t.put [40]).put w27_).must (decide (v.name.size = 0) && decide (v.ctx.size = 0) && decide (v.deps.length = 0) && RS.lists v))))
   replace hqa := hi_ hqa

   have hY := hK.box M0_
   rw [hOB.out] at hY
   obtain ⟨-, -, -, -, -, -, -, -, -, -, -, -, -, -, -, -, x16⟩ := c17_ hY
   clear hY
   rw [hqa.out] at x16
   have cS0 := hi_ (hY v2 (List.mem_of_getElem? hg2) q2 _ hv2 ((w.heap.size, OB) :: bx) wr hK (by rw [← hsn.out]; exact FitR.sts_take hbl f4'.out (k + 1)))
   rw [← hsn.out] at cS0
   replace hK := hi_ hK
   obtain ⟨Z, hZl, cS⟩ : ∃ Z : Array Value, Hid ((Instr.loadAt 63 (.pointer (some ⟨b2, o2 + k * 17, none⟩))).run Tryz.prog wr = .ok (.agg Z) wr) ∧ Hid (Calls Tryz.prog 19 #[.pointer (some ⟨b, 0, none⟩), .agg Z] wr fun e w' => e = .returned (.tuple #[]) ∧ RK w0 B b (rSts (v.body.take (k + 1)) ((rEx v.expr) (((t.put [40]).put w27_).must (decide (v.name.size = 0) && decide (v.ctx.size = 0) && decide (v.deps.length = 0) && RS.lists v)))) ((w.heap.size, OB) :: bx) w') := ⟨q2.arr v2, St_load (fun j hj => by rw [Nat.add_assoc]; exact (hK.out.low.cell (p := ⟨b2, o2 + (k * 17 + j), none⟩) hb2).trans (hc2 j hj)), cS0⟩
   clear cS0 hc2 hv2 hg2
   go_wp2_with (first | (refine ld_arm hZl.out rfl _ rfl rfl ?_) | (go_at_call 19; refine cS.out.mono ?_))
   first | rintro e w3 rfl hK3 | rintro e w3 ⟨rfl, hK3⟩
   replace hK3 := hi_ hK3
   go_wp2_with fail
   go_roundw
   case rel => exact ⟨k + 1, hlt9.out, by go_num, hK3.out⟩
   case measure => simp [intOf]; have := hlt9.out; omega
  ·obtain rfl : k = q.bodyn := by omega
   have hy : RK w0 B b ((rSts v.body) ((rEx v.expr) (((t.put [40]).put w27_).must (decide (v.name.size = 0) && decide (v.ctx.size = 0) && decide (v.deps.length = 0) && RS.lists v)))) ((w.heap.size, OB) :: bx) wr := by
    rw [List.take_of_length_le (by rw [hL.out.body]; exact Nat.le_refl _)] at hK
    exact hK
   clear hK
   have hY := hy.box M0_
   rw [hOB.out] at hY
   obtain ⟨-, -, -, -, -, -, -, -, -, -, -, -, -, -, -, -, x16⟩ := c17_ hY
   clear hY
   replace hy := hi_ hy
   go_wp2_with (go_at_call 21; refine (cEnd.out wr hy.out).mono ?_)
   first | rintro e wz rfl hz | rintro e wz ⟨rfl, hz⟩
   replace hz := hi_ hz.drop
   go_wp2_with fail
   exact bodyPost_end (v := .tuple #[]) (results_none (by kernel_rfl) _ _ _) rfl ⟨rfl, hz.out⟩
theorem stmt7c_R (w0 : World) (B b : Nat) (v : St) (q : QSt) (t : RS) (he : v.kind = 7) (hv : StAt w0 B v q) (hY : ∀ x ∈ v.body, StR w0 B b x) (k1 : v.name.size = 0) (k2 : v.ctx.size = 0) (k4 : ¬ q.depsn = 0) : DoesR w0 B b 19 #[.pointer (some ⟨b, 0, none⟩), .agg (A2_ v q)] t (RS.stmt v (rEx v.expr) (rExs v.deps) (rAcs v.dos) (rAcs v.undo) (rSts v.body) t) := by
 unfold A2_
 intro bx w h hF
 have hL := hi_ hv.lens
 have hs1 := hv.name
 have hs2 := hv.ctx
 have hEq : RS.stmt v (rEx v.expr) (rExs v.deps) (rAcs v.dos) (rAcs v.undo) (rSts v.body) t = RS.fin ((rSts v.body) ((rEx v.expr) (((t.put [40]).put w27_).must (decide (v.name.size = 0) && decide (v.ctx.size = 0) && decide (v.deps.length = 0) && RS.lists v)))) := by
  unfold RS.stmt
  rw [if_neg (by omega), if_neg (by omega), if_neg (by omega), if_neg (by omega), if_neg (by omega), if_neg (by omega), if_pos he]
 rw [hEq] at hF ⊢
 clear hEq
 have ff := hF.fin
 have f4 : FitR ((rSts v.body) ((rEx v.expr) (((t.put [40]).put w27_).must (decide (v.name.size = 0) && decide (v.ctx.size = 0) && decide (v.deps.length = 0) && RS.lists v)))) := ff
 have f3 : FitR ((rEx v.expr) (((t.put [40]).put w27_).must (decide (v.name.size = 0) && decide (v.ctx.size = 0) && decide (v.deps.length = 0) && RS.lists v))) := FitR.sts hv.body ff
 have f2 : FitR (((t.put [40]).put w27_).must (decide (v.name.size = 0) && decide (v.ctx.size = 0) && decide (v.deps.length = 0) && RS.lists v)) := FitR.ex hv.expr f3
 have f1 : FitR ((t.put [40]).put w27_) := f2
 have f0 : FitR (t.put [40]) := f1.put
 obtain ⟨OB, hOB⟩ : ∃ OB : Obj, OB = (O2_ v q) := ⟨_, rfl⟩
 replace hOB := hi_ hOB
 obtain ⟨S, hS⟩ : ∃ S, S = w.alloc ((O2_ v q)) := ⟨_, rfl⟩
 have h0 : RK w0 B b t ((w.heap.size, OB) :: bx) S := by rw [hS, hOB.out]; exact h.alloc _
 have hWS : Hid (S = _) := hS
 clear hS
 replace h := hi_ h
 have c0 := hi_ (open_R w0 B b t _ _ h0 f0)
 have cEnd := hi_ (fun W hW => end_R w0 B b ((rSts v.body) ((rEx v.expr) (((t.put [40]).put w27_).must (decide (v.name.size = 0) && decide (v.ctx.size = 0) && decide (v.deps.length = 0) && RS.lists v)))) ((w.heap.size, OB) :: bx) W hW hF)
 have yk10 : v.name.toList = [] := by rw [size_nil]; exact k1
 have yk11 : v.name.toList.isEmpty = true := by rw [size_emp]; simp [k1]
 replace k1 := hi_ k1
 have yk20 : v.ctx.toList = [] := by rw [size_nil]; exact k2
 have yk21 : v.ctx.toList.isEmpty = true := by rw [size_emp]; simp [k2]
 replace k2 := hi_ k2
 have yk40 : ((q.depsn : Int) == 0) = false := by simp [k4]
 replace k4 := hi_ k4
 have c1 := hi_ (fun W hW => put_R w0 B b (t.put [40]) w27_ ((w.heap.size, OB) :: bx) W hW f1)
 have cM := hi_ (must_as w0 B b ((t.put [40]).put w27_) (decide (v.name.size = 0) && decide (v.ctx.size = 0) && decide (v.deps.length = 0) && RS.lists v) ((w.heap.size, OB) :: bx) f2)
 have c3 := hi_ (fun W hW => ex_R w0 B b v.expr q.expr (((t.put [40]).put w27_).must (decide (v.name.size = 0) && decide (v.ctx.size = 0) && decide (v.deps.length = 0) && RS.lists v)) hv.expr ((w.heap.size, OB) :: bx) W hW f3)
 have f4' := hi_ f4
 have hbl := hv.body
 have hbn := hv.body.2.1
 clear f1 f2 f3 f4
 have hag : Hid (Value.agg #[.int .u8 v.kind, .string v.name, .string v.ctx, .int .u8 v.expr.kind, .int .i64 v.expr.n, .string v.expr.s, .slice q.expr.argsa q.expr.argsn q.expr.argsc, .slice q.expr.namesa q.expr.namesn q.expr.namesc, .slice q.expr.valsa q.expr.valsn q.expr.valsc, .int .u8 v.expr.elem, .slice q.expr.keya q.expr.keyn q.expr.keyc, .slice q.expr.actsa q.expr.actsn q.expr.actsc, .string v.expr.site, .slice q.depsa q.depsn q.depsc, .slice q.dosa q.dosn q.dosc, .slice q.undoa q.undon q.undoc, .slice q.bodya q.bodyn q.bodyc] = .agg #[.int .u8 7, .string v.name, .string v.ctx, .int .u8 v.expr.kind, .int .i64 v.expr.n, .string v.expr.s, .slice q.expr.argsa q.expr.argsn q.expr.argsc, .slice q.expr.namesa q.expr.namesn q.expr.namesc, .slice q.expr.valsa q.expr.valsn q.expr.valsc, .int .u8 v.expr.elem, .slice q.expr.keya q.expr.keyn q.expr.keyc, .slice q.expr.actsa q.expr.actsn q.expr.actsc, .string v.expr.site, .slice q.depsa q.depsn q.depsc, .slice q.dosa q.dosn q.dosc, .slice q.undoa q.undon q.undoc, .slice q.bodya q.bodyn q.bodyc]) := by show _ = _; rw [he]
 replace he := hi_ he
 replace h0 := hi_ h0
 have hv' := hi_ hv
 clear hF ff f0 hv
 go_enter Tryz.func19, Tryz.ntmps19
 go_wp2_with (first | (rw [← hWS.out]) | (go_at_call 16; refine c0.out.mono ?_))
 first | rintro e w1 rfl h1 | rintro e w1 ⟨rfl, h1⟩
 have hq_ := h1.box M0_
 rw [hOB.out] at hq_
 obtain ⟨x0, -⟩ := c17_ hq_
 rw [he.out] at x0
 clear hq_
 replace h1 := hi_ h1
 go_wp2_with (go_at_call 17; refine (c1.out w1 h1.out).mono ?_)
 first | rintro e w2 rfl h2 | rintro e w2 ⟨rfl, h2⟩
 clear x0
 replace h2 := hi_ h2
 have hY := h2.out.box M0_
 rw [hOB.out] at hY
 obtain ⟨-, x1, x2, -, -, -, -, -, -, -, -, -, -, x13, -⟩ := c17_ hY
 clear hY
 go_wp2_with (go_at_call 34; refine (cM.out _ _ h2.out (by rw [Bool.eq_iff_iff]; simp [hL.out.deps.symm, k1.out, k2.out, k4.out])).mono ?_)
 first | rintro e wc rfl hcut | rintro e wc ⟨rfl, hcut⟩
 clear x1 x2 x13 yk10 yk11 yk20 yk21 yk40
 have hY := hcut.box M0_
 rw [hOB.out] at hY
 obtain ⟨-, -, -, x3, x4, x5, x6, x7, x8, x9, x10, x11, x12, -⟩ := c17_ hY
 clear hY
 replace hcut := hi_ hcut
 go_wp2_with (go_at_call 20; refine (c3.out wc hcut.out).mono ?_)
 first | rintro e wd rfl hd | rintro e wd ⟨rfl, hd⟩
 clear x3 x4 x5 x6 x7 x8 x9 x10 x11 x12
 have hd' := hi_ hd
 clear hd
 go_wp2_with fail
 go_loopw [4] (fun i wr => ∃ k : Nat, k ≤ q.bodyn ∧ i = .int .i64 (k : Nat) ∧ RK w0 B b (rSts (v.body.take k) ((rEx v.expr) (((t.put [40]).put w27_).must (decide (v.name.size = 0) && decide (v.ctx.size = 0) && decide (v.deps.length = 0) && RS.lists v)))) ((w.heap.size, OB) :: bx) wr) (fun i _ => q.bodyn - (intOf i).toNat)
 case atStart => exact ⟨0, Nat.zero_le _, rfl, hd'.out⟩
 case round =>
  clear hd'
  obtain ⟨k, hk, rfl, hK⟩ := hrel
  by_cases hlt : k < q.bodyn
  ·have hlt9 : Hid (k + 1 ≤ q.bodyn) := hlt
   obtain ⟨b2, o2, v2, q2, hqa, hb2, hg2, hc2, hv2⟩ := StLs.elem hbl k hlt
   have hsn := hi_ (rSts_snoc hg2 ((rEx v.expr) (((t.put [40]).put w27_).must (decide (v.name.size = 0) && decide (v.ctx.size = 0) && decide (v.deps.length = 0) && RS.lists v))))
   replace hqa := hi_ hqa

   have hY := hK.box M0_
   rw [hOB.out] at hY
   obtain ⟨-, -, -, -, -, -, -, -, -, -, -, -, -, -, -, -, x16⟩ := c17_ hY
   clear hY
   rw [hqa.out] at x16
   have cS0 := hi_ (hY v2 (List.mem_of_getElem? hg2) q2 _ hv2 ((w.heap.size, OB) :: bx) wr hK (by rw [← hsn.out]; exact FitR.sts_take hbl f4'.out (k + 1)))
   rw [← hsn.out] at cS0
   replace hK := hi_ hK
   obtain ⟨Z, hZl, cS⟩ : ∃ Z : Array Value, Hid ((Instr.loadAt 63 (.pointer (some ⟨b2, o2 + k * 17, none⟩))).run Tryz.prog wr = .ok (.agg Z) wr) ∧ Hid (Calls Tryz.prog 19 #[.pointer (some ⟨b, 0, none⟩), .agg Z] wr fun e w' => e = .returned (.tuple #[]) ∧ RK w0 B b (rSts (v.body.take (k + 1)) ((rEx v.expr) (((t.put [40]).put w27_).must (decide (v.name.size = 0) && decide (v.ctx.size = 0) && decide (v.deps.length = 0) && RS.lists v)))) ((w.heap.size, OB) :: bx) w') := ⟨q2.arr v2, St_load (fun j hj => by rw [Nat.add_assoc]; exact (hK.out.low.cell (p := ⟨b2, o2 + (k * 17 + j), none⟩) hb2).trans (hc2 j hj)), cS0⟩
   clear cS0 hc2 hv2 hg2
   go_wp2_with (first | (refine ld_arm hZl.out rfl _ rfl rfl ?_) | (go_at_call 19; refine cS.out.mono ?_))
   first | rintro e w3 rfl hK3 | rintro e w3 ⟨rfl, hK3⟩
   replace hK3 := hi_ hK3
   go_wp2_with fail
   go_roundw
   case rel => exact ⟨k + 1, hlt9.out, by go_num, hK3.out⟩
   case measure => simp [intOf]; have := hlt9.out; omega
  ·obtain rfl : k = q.bodyn := by omega
   have hy : RK w0 B b ((rSts v.body) ((rEx v.expr) (((t.put [40]).put w27_).must (decide (v.name.size = 0) && decide (v.ctx.size = 0) && decide (v.deps.length = 0) && RS.lists v)))) ((w.heap.size, OB) :: bx) wr := by
    rw [List.take_of_length_le (by rw [hL.out.body]; exact Nat.le_refl _)] at hK
    exact hK
   clear hK
   have hY := hy.box M0_
   rw [hOB.out] at hY
   obtain ⟨-, -, -, -, -, -, -, -, -, -, -, -, -, -, -, -, x16⟩ := c17_ hY
   clear hY
   replace hy := hi_ hy
   go_wp2_with (go_at_call 21; refine (cEnd.out wr hy.out).mono ?_)
   first | rintro e wz rfl hz | rintro e wz ⟨rfl, hz⟩
   replace hz := hi_ hz.drop
   go_wp2_with fail
   exact bodyPost_end (v := .tuple #[]) (results_none (by kernel_rfl) _ _ _) rfl ⟨rfl, hz.out⟩
theorem stmt7d_R (w0 : World) (B b : Nat) (v : St) (q : QSt) (t : RS) (he : v.kind = 7) (hv : StAt w0 B v q) (hY : ∀ x ∈ v.body, StR w0 B b x) (k1 : v.name.size = 0) (k2 : v.ctx.size = 0) (k4 : q.depsn = 0) : DoesR w0 B b 19 #[.pointer (some ⟨b, 0, none⟩), .agg (A2_ v q)] t (RS.stmt v (rEx v.expr) (rExs v.deps) (rAcs v.dos) (rAcs v.undo) (rSts v.body) t) := by
 unfold A2_
 intro bx w h hF
 have hL := hi_ hv.lens
 have hs1 := hv.name
 have hs2 := hv.ctx
 have hEq : RS.stmt v (rEx v.expr) (rExs v.deps) (rAcs v.dos) (rAcs v.undo) (rSts v.body) t = RS.fin ((rSts v.body) ((rEx v.expr) (((t.put [40]).put w27_).must (decide (v.name.size = 0) && decide (v.ctx.size = 0) && decide (v.deps.length = 0) && RS.lists v)))) := by
  unfold RS.stmt
  rw [if_neg (by omega), if_neg (by omega), if_neg (by omega), if_neg (by omega), if_neg (by omega), if_neg (by omega), if_pos he]
 rw [hEq] at hF ⊢
 clear hEq
 have ff := hF.fin
 have f4 : FitR ((rSts v.body) ((rEx v.expr) (((t.put [40]).put w27_).must (decide (v.name.size = 0) && decide (v.ctx.size = 0) && decide (v.deps.length = 0) && RS.lists v)))) := ff
 have f3 : FitR ((rEx v.expr) (((t.put [40]).put w27_).must (decide (v.name.size = 0) && decide (v.ctx.size = 0) && decide (v.deps.length = 0) && RS.lists v))) := FitR.sts hv.body ff
 have f2 : FitR (((t.put [40]).put w27_).must (decide (v.name.size = 0) && decide (v.ctx.size = 0) && decide (v.deps.length = 0) && RS.lists v)) := FitR.ex hv.expr f3
 have f1 : FitR ((t.put [40]).put w27_) := f2
 have f0 : FitR (t.put [40]) := f1.put
 obtain ⟨OB, hOB⟩ : ∃ OB : Obj, OB = (O2_ v q) := ⟨_, rfl⟩
 replace hOB := hi_ hOB
 obtain ⟨S, hS⟩ : ∃ S, S = w.alloc ((O2_ v q)) := ⟨_, rfl⟩
 have h0 : RK w0 B b t ((w.heap.size, OB) :: bx) S := by rw [hS, hOB.out]; exact h.alloc _
 have hWS : Hid (S = _) := hS
 clear hS
 replace h := hi_ h
 have c0 := hi_ (open_R w0 B b t _ _ h0 f0)
 have cEnd := hi_ (fun W hW => end_R w0 B b ((rSts v.body) ((rEx v.expr) (((t.put [40]).put w27_).must (decide (v.name.size = 0) && decide (v.ctx.size = 0) && decide (v.deps.length = 0) && RS.lists v)))) ((w.heap.size, OB) :: bx) W hW hF)
 have yk10 : v.name.toList = [] := by rw [size_nil]; exact k1
 have yk11 : v.name.toList.isEmpty = true := by rw [size_emp]; simp [k1]
 replace k1 := hi_ k1
 have yk20 : v.ctx.toList = [] := by rw [size_nil]; exact k2
 have yk21 : v.ctx.toList.isEmpty = true := by rw [size_emp]; simp [k2]
 replace k2 := hi_ k2
 have yk40 : ((q.depsn : Int) == 0) = true := by simp [k4]
 replace k4 := hi_ k4
 have c1 := hi_ (fun W hW => put_R w0 B b (t.put [40]) w27_ ((w.heap.size, OB) :: bx) W hW f1)
 have cM := hi_ (must_as w0 B b ((t.put [40]).put w27_) (decide (v.name.size = 0) && decide (v.ctx.size = 0) && decide (v.deps.length = 0) && RS.lists v) ((w.heap.size, OB) :: bx) f2)
 have c3 := hi_ (fun W hW => ex_R w0 B b v.expr q.expr (((t.put [40]).put w27_).must (decide (v.name.size = 0) && decide (v.ctx.size = 0) && decide (v.deps.length = 0) && RS.lists v)) hv.expr ((w.heap.size, OB) :: bx) W hW f3)
 have f4' := hi_ f4
 have hbl := hv.body
 have hbn := hv.body.2.1
 clear f1 f2 f3 f4
 have hag : Hid (Value.agg #[.int .u8 v.kind, .string v.name, .string v.ctx, .int .u8 v.expr.kind, .int .i64 v.expr.n, .string v.expr.s, .slice q.expr.argsa q.expr.argsn q.expr.argsc, .slice q.expr.namesa q.expr.namesn q.expr.namesc, .slice q.expr.valsa q.expr.valsn q.expr.valsc, .int .u8 v.expr.elem, .slice q.expr.keya q.expr.keyn q.expr.keyc, .slice q.expr.actsa q.expr.actsn q.expr.actsc, .string v.expr.site, .slice q.depsa q.depsn q.depsc, .slice q.dosa q.dosn q.dosc, .slice q.undoa q.undon q.undoc, .slice q.bodya q.bodyn q.bodyc] = .agg #[.int .u8 7, .string v.name, .string v.ctx, .int .u8 v.expr.kind, .int .i64 v.expr.n, .string v.expr.s, .slice q.expr.argsa q.expr.argsn q.expr.argsc, .slice q.expr.namesa q.expr.namesn q.expr.namesc, .slice q.expr.valsa q.expr.valsn q.expr.valsc, .int .u8 v.expr.elem, .slice q.expr.keya q.expr.keyn q.expr.keyc, .slice q.expr.actsa q.expr.actsn q.expr.actsc, .string v.expr.site, .slice q.depsa q.depsn q.depsc, .slice q.dosa q.dosn q.dosc, .slice q.undoa q.undon q.undoc, .slice q.bodya q.bodyn q.bodyc]) := by show _ = _; rw [he]
 replace he := hi_ he
 replace h0 := hi_ h0
 have hv' := hi_ hv
 clear hF ff f0 hv
 go_enter Tryz.func19, Tryz.ntmps19
 go_wp2_with (first | (rw [← hWS.out]) | (go_at_call 16; refine c0.out.mono ?_))
 first | rintro e w1 rfl h1 | rintro e w1 ⟨rfl, h1⟩
 have hq_ := h1.box M0_
 rw [hOB.out] at hq_
 obtain ⟨x0, -⟩ := c17_ hq_
 rw [he.out] at x0
 clear hq_
 replace h1 := hi_ h1
 go_wp2_with (go_at_call 17; refine (c1.out w1 h1.out).mono ?_)
 first | rintro e w2 rfl h2 | rintro e w2 ⟨rfl, h2⟩
 clear x0
 replace h2 := hi_ h2
 have hY := h2.out.box M0_
 rw [hOB.out] at hY
 obtain ⟨x0, x1, x2, x3, x4, x5, x6, x7, x8, x9, x10, x11, x12, x13, x14, x15, x16⟩ := c17_ hY
 clear hY
 rw [he.out] at x0
 have cU1 := hi_ (by have := lists_any v q w2 hL.out; rw [hag.out] at this; exact this)
 go_wp2_with (go_at_call 36; refine cU1.out.mono ?_)
 first | rintro e w3c rfl hb3c | rintro e w3c ⟨rfl, hb3c⟩
 clear x0 x1 x2 x3 x4 x5 x6 x7 x8 x9 x10 x11 x12 x13 x14 x15 x16 yk10 yk11 yk20 yk21 yk40
 have h3c := hi_ (h2.out.below hb3c)
 replace hb3c := hi_ hb3c
 go_wp2_with (go_at_call 34; refine (cM.out _ _ h3c.out (by rw [Bool.eq_iff_iff]; simp [hL.out.deps.symm, k1.out, k2.out, k4.out])).mono ?_)
 first | rintro e wc rfl hcut | rintro e wc ⟨rfl, hcut⟩
 have hY := hcut.box M0_
 rw [hOB.out] at hY
 obtain ⟨-, -, -, x3, x4, x5, x6, x7, x8, x9, x10, x11, x12, -⟩ := c17_ hY
 clear hY
 replace hcut := hi_ hcut
 go_wp2_with (go_at_call 20; refine (c3.out wc hcut.out).mono ?_)
 first | rintro e wd rfl hd | rintro e wd ⟨rfl, hd⟩
 clear x3 x4 x5 x6 x7 x8 x9 x10 x11 x12
 have hd' := hi_ hd
 clear hd
 go_wp2_with fail
 go_loopw [4] (fun i wr => ∃ k : Nat, k ≤ q.bodyn ∧ i = .int .i64 (k : Nat) ∧ RK w0 B b (rSts (v.body.take k) ((rEx v.expr) (((t.put [40]).put w27_).must (decide (v.name.size = 0) && decide (v.ctx.size = 0) && decide (v.deps.length = 0) && RS.lists v)))) ((w.heap.size, OB) :: bx) wr) (fun i _ => q.bodyn - (intOf i).toNat)
 case atStart => exact ⟨0, Nat.zero_le _, rfl, hd'.out⟩
 case round =>
  clear hd'
  obtain ⟨k, hk, rfl, hK⟩ := hrel
  by_cases hlt : k < q.bodyn
  ·have hlt9 : Hid (k + 1 ≤ q.bodyn) := hlt
   obtain ⟨b2, o2, v2, q2, hqa, hb2, hg2, hc2, hv2⟩ := StLs.elem hbl k hlt
   have hsn := hi_ (rSts_snoc hg2 ((rEx v.expr) (((t.put [40]).put w27_).must (decide (v.name.size = 0) && decide (v.ctx.size = 0) && decide (v.deps.length = 0) && RS.lists v))))
   replace hqa := hi_ hqa

   have hY := hK.box M0_
   rw [hOB.out] at hY
   obtain ⟨-, -, -, -, -, -, -, -, -, -, -, -, -, -, -, -, x16⟩ := c17_ hY
   clear hY
   rw [hqa.out] at x16
   have cS0 := hi_ (hY v2 (List.mem_of_getElem? hg2) q2 _ hv2 ((w.heap.size, OB) :: bx) wr hK (by rw [← hsn.out]; exact FitR.sts_take hbl f4'.out (k + 1)))
   rw [← hsn.out] at cS0
   replace hK := hi_ hK
   obtain ⟨Z, hZl, cS⟩ : ∃ Z : Array Value, Hid ((Instr.loadAt 63 (.pointer (some ⟨b2, o2 + k * 17, none⟩))).run Tryz.prog wr = .ok (.agg Z) wr) ∧ Hid (Calls Tryz.prog 19 #[.pointer (some ⟨b, 0, none⟩), .agg Z] wr fun e w' => e = .returned (.tuple #[]) ∧ RK w0 B b (rSts (v.body.take (k + 1)) ((rEx v.expr) (((t.put [40]).put w27_).must (decide (v.name.size = 0) && decide (v.ctx.size = 0) && decide (v.deps.length = 0) && RS.lists v)))) ((w.heap.size, OB) :: bx) w') := ⟨q2.arr v2, St_load (fun j hj => by rw [Nat.add_assoc]; exact (hK.out.low.cell (p := ⟨b2, o2 + (k * 17 + j), none⟩) hb2).trans (hc2 j hj)), cS0⟩
   clear cS0 hc2 hv2 hg2
   go_wp2_with (first | (refine ld_arm hZl.out rfl _ rfl rfl ?_) | (go_at_call 19; refine cS.out.mono ?_))
   first | rintro e w3 rfl hK3 | rintro e w3 ⟨rfl, hK3⟩
   replace hK3 := hi_ hK3
   go_wp2_with fail
   go_roundw
   case rel => exact ⟨k + 1, hlt9.out, by go_num, hK3.out⟩
   case measure => simp [intOf]; have := hlt9.out; omega
  ·obtain rfl : k = q.bodyn := by omega
   have hy : RK w0 B b ((rSts v.body) ((rEx v.expr) (((t.put [40]).put w27_).must (decide (v.name.size = 0) && decide (v.ctx.size = 0) && decide (v.deps.length = 0) && RS.lists v)))) ((w.heap.size, OB) :: bx) wr := by
    rw [List.take_of_length_le (by rw [hL.out.body]; exact Nat.le_refl _)] at hK
    exact hK
   clear hK
   have hY := hy.box M0_
   rw [hOB.out] at hY
   obtain ⟨-, -, -, -, -, -, -, -, -, -, -, -, -, -, -, -, x16⟩ := c17_ hY
   clear hY
   replace hy := hi_ hy
   go_wp2_with (go_at_call 21; refine (cEnd.out wr hy.out).mono ?_)
   first | rintro e wz rfl hz | rintro e wz ⟨rfl, hz⟩
   replace hz := hi_ hz.drop
   go_wp2_with fail
   exact bodyPost_end (v := .tuple #[]) (results_none (by kernel_rfl) _ _ _) rfl ⟨rfl, hz.out⟩
theorem stmt8_R (w0 : World) (B b : Nat) (v : St) (q : QSt) (t : RS) (he : ¬ v.kind = 1 ∧ ¬ v.kind = 2 ∧ ¬ v.kind = 3 ∧ ¬ v.kind = 4 ∧ ¬ v.kind = 5 ∧ ¬ v.kind = 6 ∧ ¬ v.kind = 7) (hv : StAt w0 B v q)  : DoesR w0 B b 19 #[.pointer (some ⟨b, 0, none⟩), .agg (A2_ v q)] t (RS.stmt v (rEx v.expr) (rExs v.deps) (rAcs v.dos) (rAcs v.undo) (rSts v.body) t) := by
 unfold A2_
 intro bx w h hF
 have hL := hi_ hv.lens
 have hs1 := hv.name
 have hs2 := hv.ctx
 have hEq : RS.stmt v (rEx v.expr) (rExs v.deps) (rAcs v.dos) (rAcs v.undo) (rSts v.body) t = RS.fin ((t.put [40]).must false) := by
  unfold RS.stmt
  rw [if_neg he.1, if_neg he.2.1, if_neg he.2.2.1, if_neg he.2.2.2.1, if_neg he.2.2.2.2.1, if_neg he.2.2.2.2.2.1, if_neg he.2.2.2.2.2.2]
 rw [hEq] at hF ⊢
 clear hEq
 have ff := hF.fin
 have f1 : FitR ((t.put [40]).must false) := ff
 have f0 : FitR (t.put [40]) := ff
 obtain ⟨OB, hOB⟩ : ∃ OB : Obj, OB = (O2_ v q) := ⟨_, rfl⟩
 replace hOB := hi_ hOB
 obtain ⟨S, hS⟩ : ∃ S, S = w.alloc ((O2_ v q)) := ⟨_, rfl⟩
 have h0 : RK w0 B b t ((w.heap.size, OB) :: bx) S := by rw [hS, hOB.out]; exact h.alloc _
 have hWS : Hid (S = _) := hS
 clear hS
 replace h := hi_ h
 have c0 := hi_ (open_R w0 B b t _ _ h0 f0)
 have cEnd := hi_ (fun W hW => end_R w0 B b ((t.put [40]).must false) ((w.heap.size, OB) :: bx) W hW hF)
 have c1 := hi_ (fun W hW => must_R w0 B b (t.put [40]) false ((w.heap.size, OB) :: bx) W hW f1)
 clear f1
 replace h0 := hi_ h0
 have hv' := hi_ hv
 clear hF ff f0 hv
 go_enter Tryz.func19, Tryz.ntmps19
 go_wp2_with (first | (rw [← hWS.out]) | (go_at_call 16; refine c0.out.mono ?_))
 first | rintro e w1 rfl h1 | rintro e w1 ⟨rfl, h1⟩
 obtain ⟨e1, e2, e3, e4, e5, e6, e7⟩ := he
 have y1 : (v.kind == 1) = false := by simp [e1]
 clear e1
 have y2 : (v.kind == 2) = false := by simp [e2]
 clear e2
 have y3 : (v.kind == 3) = false := by simp [e3]
 clear e3
 have y4 : (v.kind == 4) = false := by simp [e4]
 clear e4
 have y5 : (v.kind == 5) = false := by simp [e5]
 clear e5
 have y6 : (v.kind == 6) = false := by simp [e6]
 clear e6
 have y7 : (v.kind == 7) = false := by simp [e7]
 clear e7
 have hY := h1.box M0_
 rw [hOB.out] at hY
 obtain ⟨x0, -⟩ := c17_ hY
 clear hY
 replace h1 := hi_ h1
 go_wp2_with (go_at_call 34; refine (c1.out w1 h1.out).mono ?_)
 first | rintro e wy rfl hy | rintro e wy ⟨rfl, hy⟩
 clear x0 y1 y2 y3 y4 y5 y6 y7
 replace hy := hi_ hy
 go_wp2_with (go_at_call 21; refine (cEnd.out wy hy.out).mono ?_)
 first | rintro e wz rfl hz | rintro e wz ⟨rfl, hz⟩
 replace hz := hi_ hz.drop
 go_wp2_with fail
 exact bodyPost_end (v := .tuple #[]) (results_none (by kernel_rfl) _ _ _) rfl ⟨rfl, hz.out⟩
theorem stmt_R (w0 : World) (B b : Nat) (v : St) (hY : ∀ x ∈ v.body, StR w0 B b x) : StR w0 B b v := by
 intro q t hv
 rw [rSt_eq]
 by_cases h1 : v.kind = 1
 ·exact stmt1_R w0 B b v q t h1 hv
 by_cases h2 : v.kind = 2
 ·exact stmt2_R w0 B b v q t h2 hv
 by_cases h3 : v.kind = 3
 ·exact stmt3_R w0 B b v q t h3 hv
 by_cases h4 : v.kind = 4
 ·exact stmt4_R w0 B b v q t h4 hv
 by_cases h5 : v.kind = 5
 ·exact stmt5_R w0 B b v q t h5 hv
 by_cases h6 : v.kind = 6
 ·exact stmt6_R w0 B b v q t h6 hv
 by_cases h7 : v.kind = 7
 ·by_cases k1 : v.name.size = 0
  ·by_cases k2 : v.ctx.size = 0
   ·by_cases k4 : q.depsn = 0
    ·exact stmt7d_R w0 B b v q t h7 hv hY k1 k2 k4
    ·exact stmt7c_R w0 B b v q t h7 hv hY k1 k2 k4
   ·exact stmt7b_R w0 B b v q t h7 hv hY k1 k2
  ·exact stmt7a_R w0 B b v q t h7 hv hY k1
 exact stmt8_R w0 B b v q t ⟨h1, h2, h3, h4, h5, h6, h7⟩ hv
theorem st_R (w0 : World) (B b : Nat) (v : St) : StR w0 B b v := St.ind (P := StR w0 B b) (fun v h => stmt_R w0 B b v h) v
theorem bytes_to (w : World) (v : Value) (l : List UInt8) {base : Nat} (h : w.ownsRow base 5 1 v l.length (Lib.byteCells l)) : (convert 37 9 v).run Tryz.prog w = .ok (.string (bs l)) w := by
 rcases h.2 with ⟨hv, h0⟩ | ⟨g, cap, cur, hv, _⟩
 ·obtain rfl : l = [] := List.eq_nil_of_length_eq_zero h0
  rw [hv]
  exact Lib.run_convert_nil_bytes w _ _ 5 _ Tryz.underlying37 Tryz.underlying5 Tryz.underlying9
 ·subst hv
  exact run_convert_bytes_back (P := Tryz.prog) w _ _ 5 ⟨g, 0, none⟩ cap l Tryz.underlying37 Tryz.underlying5 Tryz.underlying9 (fun j hj => by
   have := h.cells rfl j (.int .u8 (l[j].toNat : Int)) (by simp [Lib.byteCells, hj])
   exact this)
theorem name_K {w0 : World} {B b : Nat} {t : RS} {bx : Bx} {w : World} (h : RK w0 B b t bx w) (s : ByteArray) (hs : s.size ≤ 140737488355328) : RK w0 B b { t with name := s } bx (w.setCell ⟨b, 2, none⟩ (.string s)) :=
 h.head (C' := RC { t with name := s }) 2 _ (by
  rintro v cs ⟨rfl, h2, _⟩
  exact ⟨rfl, h2, hs⟩)
theorem start_K {w0 : World} {B b : Nat} {t : RS} {bx : Bx} {w : World} (s : ByteArray) (h : RK w0 B b { t with name := s } bx w) : RK w0 B b (t.start s) bx (w.setCell ⟨b, 3, none⟩ (.int .i64 0)) :=
 h.head (C' := RC (t.start s)) 3 _ (by
  rintro v cs ⟨rfl, _, h3⟩
  exact ⟨rfl, (by show (Lit.int .i64 0).wf = true; decide), h3⟩)
theorem RK.new (w : World) (hE : Lx.Env w) : RK w w.heap.size w.heap.size rS0 [] (w.alloc (.cells A61_ 58)) :=
 ⟨⟨.slice none 0 0, _, ⟨rfl, by decide, by decide⟩, heap_alloc_new w _, World.ownsRow_nil _ _ _ _, by simp [Value.ownBlock], fun x hx => by cases hx⟩, List.Pairwise.nil, Nat.le_refl _, (Below.refl _ _).alloc (Nat.le_refl _) _, Nat.le_refl _, hE, hE.size⟩
theorem refText_any (L : List Co) (a : Option Addr) (n c : Nat) (w0 : World) (hE : Lx.Env w0) (hL : CoLs w0 w0.heap.size L a n) (hF : FitR (rCos L rS0)) :
  Calls Tryz.prog 8 #[.slice a n c] w0 fun e w' => e = .returned (.tuple #[.string (tellB (rCos L rS0).bad (rCos L rS0).l).1, .int .i64 (tellB (rCos L rS0).bad (rCos L rS0).l).2]) ∧ Below w0.heap.size w0 w' := by
 have hn := hL.len.2
 have hln := hL.len.1
 rw [List.length_map] at hln
 obtain ⟨b, hb⟩ : ∃ b, b = w0.heap.size := ⟨_, rfl⟩
 obtain ⟨S, hS⟩ : ∃ S, S = w0.alloc (.cells A61_ 58) := ⟨_, rfl⟩
 have h0 : RK w0 b b rS0 [] S := by rw [hS, hb]; exact RK.new w0 hE
 have hWS : Hid (S = _) := hS
 rw [← hb] at hL
 have hbe : Hid (b = w0.heap.size) := hb
 rw [← hb]
 clear hS hb hE
 replace h0 := hi_ h0
 replace hln := hi_ hln
 replace hF := hi_ hF
 obtain ⟨EN0, hEN⟩ : ∃ E : Ending, E = .returned (.tuple #[.string (tellB (rCos L rS0).bad (rCos L rS0).l).1, .int .i64 (tellB (rCos L rS0).bad (rCos L rS0).l).2]) := ⟨_, rfl⟩
 rw [← hEN]
 replace hEN := hi_ hEN
 go_enter Tryz.func8, Tryz.ntmps8
 go_wp2_with (first | (rw [← hWS.out]) | (rw [← hbe.out]))
 go_loopw [5] (fun i wr => ∃ k : Nat, k ≤ n ∧ i = .int .i64 (k : Nat) ∧ RK w0 b b (rCos (L.take k) rS0) [] wr) (fun i _ => n - (intOf i).toNat)
 case atStart => exact ⟨0, Nat.zero_le _, rfl, by rw [List.take_zero, rCos]; exact h0.out⟩
 case round =>
  obtain ⟨k, hk, rfl, hK⟩ := hrel
  by_cases hlt : k < n
  ·have hlt9 : Hid (k + 1 ≤ n) := hlt
   obtain ⟨b2, o2, v, q, rfl, hb2, hg2, hc2, hv2⟩ := CoLs.elem hL k hlt
   have hsn := hi_ (rCos_snoc hg2 rS0)
   have g3 := FitR.cos_take hL hF.out (k + 1)
   rw [hsn.out] at g3
   have g3' : FitR (rEx v.out (((rSts v.body ((((((rCos (L.take k) rS0).put [40]).put w29_).plain v.name).plain v.param).start v.name)).put [40]).put w28_)).fin.fin.nl := g3
   have g2 : FitR (rEx v.out (((rSts v.body ((((((rCos (L.take k) rS0).put [40]).put w29_).plain v.name).plain v.param).start v.name)).put [40]).put w28_)).fin.fin := g3'.of (RS.Le.refl _).nl
   have g1 : FitR (rEx v.out (((rSts v.body ((((((rCos (L.take k) rS0).put [40]).put w29_).plain v.name).plain v.param).start v.name)).put [40]).put w28_)).fin := g2.fin
   have f9 := g1.fin
   have f8 : FitR (((rSts v.body ((((((rCos (L.take k) rS0).put [40]).put w29_).plain v.name).plain v.param).start v.name)).put [40]).put w28_) := FitR.ex hv2.out f9
   have f7 : FitR ((rSts v.body ((((((rCos (L.take k) rS0).put [40]).put w29_).plain v.name).plain v.param).start v.name)).put [40]) := f8.put
   have f6 : FitR (rSts v.body ((((((rCos (L.take k) rS0).put [40]).put w29_).plain v.name).plain v.param).start v.name)) := f7.put
   have f5 : FitR ((((((rCos (L.take k) rS0).put [40]).put w29_).plain v.name).plain v.param).start v.name) := FitR.sts hv2.body f6
   have f4 : FitR (((((rCos (L.take k) rS0).put [40]).put w29_).plain v.name).plain v.param) := f5
   have f3 : FitR ((((rCos (L.take k) rS0).put [40]).put w29_).plain v.name) := f4.plain
   have f2 : FitR (((rCos (L.take k) rS0).put [40]).put w29_) := f3.plain
   have f1 : FitR ((rCos (L.take k) rS0).put [40]) := f2.put
   have c1 := hi_ (fun W hW => open_R w0 b b (rCos (L.take k) rS0) [] W hW f1)
   have c2 := hi_ (fun W hW => put_R w0 b b ((rCos (L.take k) rS0).put [40]) w29_ [] W hW f2)
   have c3 := hi_ (fun W hW => plain_R w0 b b (((rCos (L.take k) rS0).put [40]).put w29_) v.name hv2.name [] W hW f3)
   have c4 := hi_ (fun W hW => plain_R w0 b b ((((rCos (L.take k) rS0).put [40]).put w29_).plain v.name) v.param hv2.param [] W hW f4)
   have c6 := hi_ (fun W hW => open_R w0 b b (rSts v.body ((((((rCos (L.take k) rS0).put [40]).put w29_).plain v.name).plain v.param).start v.name)) [] W hW f7)
   have c7 := hi_ (fun W hW => put_R w0 b b ((rSts v.body ((((((rCos (L.take k) rS0).put [40]).put w29_).plain v.name).plain v.param).start v.name)).put [40]) w28_ [] W hW f8)
   have c8 := hi_ (fun W hW => ex_R w0 b b v.out q.out (((rSts v.body ((((((rCos (L.take k) rS0).put [40]).put w29_).plain v.name).plain v.param).start v.name)).put [40]).put w28_) hv2.out [] W hW f9)
   have c9 := hi_ (fun W hW => end_R w0 b b (rEx v.out (((rSts v.body ((((((rCos (L.take k) rS0).put [40]).put w29_).plain v.name).plain v.param).start v.name)).put [40]).put w28_)) [] W hW g1)
   have cA := hi_ (fun W hW => end_R w0 b b (rEx v.out (((rSts v.body ((((((rCos (L.take k) rS0).put [40]).put w29_).plain v.name).plain v.param).start v.name)).put [40]).put w28_)).fin [] W hW g2)
   have hfN : Hid (((rEx v.out (((rSts v.body ((((((rCos (L.take k) rS0).put [40]).put w29_).plain v.name).plain v.param).start v.name)).put [40]).put w28_)).fin.fin).l.length + 1 ≤ 1073741824) := by
    show _ ≤ _
    have := g3'
    unfold FitR RS.nl at this
    simpa using this
   have f6' := hi_ f6
   have hbl := hv2.body
   have hbn := hv2.body.2.1
   have hbln := hv2.body.1
   rw [List.length_map] at hbln
   have hbln' := hi_ hbln
   have hnm := hv2.name
   clear f1 f2 f3 f4 f5 f6 f7 f8 f9 g1 g2 g3 g3' hg2 hbln
   replace hK := hi_ hK
   go_wp2_with (go_at_call 16; refine (c1.out wr hK.out).mono ?_)
   first | rintro e w1 rfl h1 | rintro e w1 ⟨rfl, h1⟩
   replace h1 := hi_ h1
   go_wp2_with (go_at_call 17; refine (c2.out w1 h1.out).mono ?_)
   first | rintro e w2 rfl h2 | rintro e w2 ⟨rfl, h2⟩
   have y0 : w2.cell? ⟨b2, o2 + k * 13, none⟩ = some (.string v.name) := (h2.low.cell (p := ⟨b2, o2 + k * 13, none⟩) hb2).trans (hc2 0 (by omega))
   replace h2 := hi_ h2
   go_wp2_with (go_at_call 18; refine (c3.out w2 h2.out).mono ?_)
   first | rintro e w3 rfl h3 | rintro e w3 ⟨rfl, h3⟩
   clear y0
   have y1 : w3.cell? ⟨b2, o2 + k * 13 + 1, none⟩ = some (.string v.param) := (h3.low.cell (p := ⟨b2, o2 + k * 13 + 1, none⟩) hb2).trans (by rw [Nat.add_assoc]; exact hc2 1 (by omega))
   replace h3 := hi_ h3
   go_wp2_with (go_at_call 18; refine (c4.out w3 h3.out).mono ?_)
   first | rintro e w4 rfl h4 | rintro e w4 ⟨rfl, h4⟩
   clear y1
   have y0 : w4.cell? ⟨b2, o2 + k * 13, none⟩ = some (.string v.name) := (h4.low.cell (p := ⟨b2, o2 + k * 13, none⟩) hb2).trans (hc2 0 (by omega))
   have fr2 : w4.frozen? ⟨b, 2, none⟩ = false := by obtain ⟨_, hq, _⟩ := RK.cells h4; simp [World.frozen?, hq]
   have ce2 : ∃ z, w4.cell? ⟨b, 2, none⟩ = some z := by obtain ⟨_, hq, _⟩ := RK.cells h4; exact ⟨_, by simp [World.cell?, hq]; rfl⟩
   obtain ⟨z2, ce2⟩ := ce2
   have h5 := name_K h4 v.name hnm
   obtain ⟨W5, hW5⟩ : ∃ W5, W5 = w4.setCell ⟨b, 2, none⟩ (.string v.name) := ⟨_, rfl⟩
   rw [← hW5] at h5
   have fr3 : W5.frozen? ⟨b, 3, none⟩ = false := by obtain ⟨_, hq, _⟩ := RK.cells h5; simp [World.frozen?, hq]
   have ce3 : ∃ z, W5.cell? ⟨b, 3, none⟩ = some z := by obtain ⟨_, hq, _⟩ := RK.cells h5; exact ⟨_, by simp [World.cell?, hq]; rfl⟩
   obtain ⟨z3, ce3⟩ := ce3
   have h6 := start_K v.name h5
   obtain ⟨W6, hW6⟩ : ∃ W6, W6 = W5.setCell ⟨b, 3, none⟩ (.int .i64 0) := ⟨_, rfl⟩
   rw [← hW6] at h6
   have hW5' : Hid (W5 = _) := hW5
   have hW6' : Hid (W6 = _) := hW6
   have h6' := hi_ h6
   clear hW5 hW6 h6
   replace h4 := hi_ h4
   replace h5 := hi_ h5
   go_wp2_with (first | (rw [← hW5'.out]) | (rw [← hW6'.out]))
   clear y0 fr2 ce2 fr3 ce3
   go_loopw [6] (fun i wr => ∃ j : Nat, j ≤ q.bodyn ∧ i = .int .i64 (j : Nat) ∧ RK w0 b b (rSts (v.body.take j) ((((((rCos (L.take k) rS0).put [40]).put w29_).plain v.name).plain v.param).start v.name)) [] wr) (fun i _ => q.bodyn - (intOf i).toNat)
   case atStart => exact ⟨0, Nat.zero_le _, rfl, by rw [List.take_zero, rSts]; exact h6'.out⟩
   case round =>
    clear h6'
    obtain ⟨j, hj, rfl, hJ⟩ := hrel
    by_cases hjt : j < q.bodyn
    ·have hjt9 : Hid (j + 1 ≤ q.bodyn) := hjt
     obtain ⟨b3, o3, v3, q3, hqa, hb3, hg3, hc3, hv3⟩ := StLs.elem hbl j hjt
     have hsn3 := hi_ (rSts_snoc hg3 ((((((rCos (L.take k) rS0).put [40]).put w29_).plain v.name).plain v.param).start v.name))
     replace hqa := hi_ hqa
     have y2 : wr.cell? ⟨b2, o2 + k * 13 + 2, none⟩ = some (.slice q.bodya q.bodyn q.bodyc) := (hJ.low.cell (p := ⟨b2, o2 + k * 13 + 2, none⟩) hb2).trans (by rw [Nat.add_assoc]; exact hc2 2 (by omega))
     rw [hqa.out] at y2
     have cS0 := hi_ (st_R w0 b b v3 q3 _ hv3 [] wr hJ (by rw [← hsn3.out]; exact FitR.sts_take hbl f6'.out (j + 1)))
     rw [← hsn3.out] at cS0
     obtain ⟨Z, hZl, cS⟩ : ∃ Z : Array Value, Hid ((Instr.loadAt 63 (.pointer (some ⟨b3, o3 + j * 17, none⟩))).run Tryz.prog wr = .ok (.agg Z) wr) ∧ Hid (Calls Tryz.prog 19 #[.pointer (some ⟨b, 0, none⟩), .agg Z] wr fun e w' => e = .returned (.tuple #[]) ∧ RK w0 b b (rSts (v.body.take (j + 1)) ((((((rCos (L.take k) rS0).put [40]).put w29_).plain v.name).plain v.param).start v.name)) [] w') := ⟨q3.arr v3, St_load (fun i hi => by rw [Nat.add_assoc]; exact (hJ.low.cell (p := ⟨b3, o3 + (j * 17 + i), none⟩) hb3).trans (hc3 i hi)), cS0⟩
     replace hJ := hi_ hJ
     clear hc3 hv3 hg3 cS0
     go_wp2_with (first | (refine ld_arm hZl.out rfl _ rfl rfl ?_) | (go_at_call 19; refine cS.out.mono ?_))
     first | rintro e wz rfl hz | rintro e wz ⟨rfl, hz⟩
     replace hz := hi_ hz
     go_wp2_with fail
     go_roundw
     case rel => exact ⟨j + 1, hjt9.out, by go_num, hz.out⟩
     case measure => simp [intOf]; have := hjt9.out; omega
    ·have hjn : Hid (j = q.bodyn) := by show _ = _; omega
     have h7 : RK w0 b b (rSts v.body ((((((rCos (L.take k) rS0).put [40]).put w29_).plain v.name).plain v.param).start v.name)) [] wr := by
      rw [hjn.out, List.take_of_length_le (by rw [hbln'.out]; exact Nat.le_refl _)] at hJ
      exact hJ
     clear hJ
     have y2 : wr.cell? ⟨b2, o2 + k * 13 + 2, none⟩ = some (.slice q.bodya q.bodyn q.bodyc) := (h7.low.cell (p := ⟨b2, o2 + k * 13 + 2, none⟩) hb2).trans (by rw [Nat.add_assoc]; exact hc2 2 (by omega))
     replace h7 := hi_ h7
     go_wp2_with (go_at_call 16; refine (c6.out wr h7.out).mono ?_)
     first | rintro e wa rfl ha | rintro e wa ⟨rfl, ha⟩
     clear y2
     replace ha := hi_ ha
     go_wp2_with (go_at_call 17; refine (c7.out wa ha.out).mono ?_)
     first | rintro e wb rfl hb | rintro e wb ⟨rfl, hb⟩
     have y3 : wb.cell? ⟨b2, o2 + k * 13 + 3, none⟩ = some (.int .u8 v.out.kind) := (hb.low.cell (p := ⟨b2, o2 + k * 13 + 3, none⟩) hb2).trans (by rw [Nat.add_assoc]; exact hc2 3 (by omega))
     have y4 : wb.cell? ⟨b2, o2 + k * 13 + 4, none⟩ = some (.int .i64 v.out.n) := (hb.low.cell (p := ⟨b2, o2 + k * 13 + 4, none⟩) hb2).trans (by rw [Nat.add_assoc]; exact hc2 4 (by omega))
     have y5 : wb.cell? ⟨b2, o2 + k * 13 + 5, none⟩ = some (.string v.out.s) := (hb.low.cell (p := ⟨b2, o2 + k * 13 + 5, none⟩) hb2).trans (by rw [Nat.add_assoc]; exact hc2 5 (by omega))
     have y6 : wb.cell? ⟨b2, o2 + k * 13 + 6, none⟩ = some (.slice q.out.argsa q.out.argsn q.out.argsc) := (hb.low.cell (p := ⟨b2, o2 + k * 13 + 6, none⟩) hb2).trans (by rw [Nat.add_assoc]; exact hc2 6 (by omega))
     have y7 : wb.cell? ⟨b2, o2 + k * 13 + 7, none⟩ = some (.slice q.out.namesa q.out.namesn q.out.namesc) := (hb.low.cell (p := ⟨b2, o2 + k * 13 + 7, none⟩) hb2).trans (by rw [Nat.add_assoc]; exact hc2 7 (by omega))
     have y8 : wb.cell? ⟨b2, o2 + k * 13 + 8, none⟩ = some (.slice q.out.valsa q.out.valsn q.out.valsc) := (hb.low.cell (p := ⟨b2, o2 + k * 13 + 8, none⟩) hb2).trans (by rw [Nat.add_assoc]; exact hc2 8 (by omega))
     have y9 : wb.cell? ⟨b2, o2 + k * 13 + 9, none⟩ = some (.int .u8 v.out.elem) := (hb.low.cell (p := ⟨b2, o2 + k * 13 + 9, none⟩) hb2).trans (by rw [Nat.add_assoc]; exact hc2 9 (by omega))
     have y10 : wb.cell? ⟨b2, o2 + k * 13 + 10, none⟩ = some (.slice q.out.keya q.out.keyn q.out.keyc) := (hb.low.cell (p := ⟨b2, o2 + k * 13 + 10, none⟩) hb2).trans (by rw [Nat.add_assoc]; exact hc2 10 (by omega))
     have y11 : wb.cell? ⟨b2, o2 + k * 13 + 11, none⟩ = some (.slice q.out.actsa q.out.actsn q.out.actsc) := (hb.low.cell (p := ⟨b2, o2 + k * 13 + 11, none⟩) hb2).trans (by rw [Nat.add_assoc]; exact hc2 11 (by omega))
     have y12 : wb.cell? ⟨b2, o2 + k * 13 + 12, none⟩ = some (.string v.out.site) := (hb.low.cell (p := ⟨b2, o2 + k * 13 + 12, none⟩) hb2).trans (by rw [Nat.add_assoc]; exact hc2 12 (by omega))
     replace hb := hi_ hb
     go_wp2_with (go_at_call 20; refine (c8.out wb hb.out).mono ?_)
     first | rintro e wc rfl hc | rintro e wc ⟨rfl, hc⟩
     clear y3 y4 y5 y6 y7 y8 y9 y10 y11 y12
     replace hc := hi_ hc
     go_wp2_with (go_at_call 21; refine (c9.out wc hc.out).mono ?_)
     first | rintro e wd rfl hd | rintro e wd ⟨rfl, hd⟩
     replace hd := hi_ hd
     go_wp2_with (go_at_call 21; refine (cA.out wd hd.out).mono ?_)
     first | rintro e we rfl he | rintro e we ⟨rfl, he⟩
     obtain ⟨i0, hi, hz0, hz1, hz2⟩ := info_parts infoU8
     obtain ⟨vv, hbq, hown, hne, hbx, hd9⟩ := RK.cells he
     have c0 : we.cell? ⟨b, 0, none⟩ = some vv := by simp [World.cell?, hbq]
     have hsz := he.size
     have hltb := he.lt
     have hlen := hfN.out
     have h' := he.below ((Below.refl _ we).alloc (Nat.le_refl _) (.cells #[.int .u8 10] 5))
     have hb' := (Below.heap_alloc we (.cells #[.int .u8 10] 5) b hltb).trans hbq
     replace he := hi_ he
     replace hbq := hi_ hbq
     replace hd9 := hi_ hd9
     go_wp2_with (at_builtin; refine wpList_append_own_at _ rfl _ _ 37 rfl b 5 i0 (.int .u8 0) 1 1 Tryz.underlying37 hi hz0 hz1 hz2 rfl (by decide) _ _ _ rfl (hown.alloc _) ⟨we.heap.size, 0, none⟩ 1 1 [.int .u8 10] rfl rfl (World.news_of_block (cs := #[.int .u8 10]) (t := 5) (fr := (0, 0)) (heap_alloc_new we _)) (by simp [Value.oneCell']) (by unfold maxLen; omega) (by omega) (by simp; omega) ?_)
     intro v' w2 hown' hgrow _ hloc
     have hb2' := (hgrow.block b (by simp; omega) (fun e => hne e.symm)).trans hb'
     have f2 : w2.frozen? ⟨b, 0, none⟩ = false := Lib.frozen_of_heap hb2' 0
     have d2 : w2.cell? ⟨b, 0, none⟩ = some vv := by simp [World.cell?, hb2']
     have hfin : RK w0 b b (rEx v.out (((rSts v.body ((((((rCos (L.take k) rS0).put [40]).put w29_).plain v.name).plain v.param).start v.name)).put [40]).put w28_)).fin.fin.nl [] (w2.setCell ⟨b, 0, none⟩ v') := h'.grow (C' := RC (rEx v.out (((rSts v.body ((((((rCos (L.take k) rS0).put [40]).put w29_).plain v.name).plain v.param).start v.name)).put [40]).put w28_)).fin.fin.nl) (l' := (rEx v.out (((rSts v.body ((((((rCos (L.take k) rS0).put [40]).put w29_).plain v.name).plain v.param).start v.name)).put [40]).put w28_)).fin.fin.l ++ [10]) hb' (hown.alloc _) hne hbx 0 ⟨rfl, hd9.out⟩ hgrow (by simpa [byte_app, Lib.byteCells] using hown') (hloc.imp id fun e => ⟨we.heap.size + 1, e, by simp⟩)
     obtain ⟨ao, cap, rfl⟩ := slice_of hown'
     have hfin2 : Hid (RK w0 b b (rCos (L.take (k + 1)) rS0) [] (w2.setCell ⟨b, 0, none⟩ (.slice ao (((rEx v.out (((rSts v.body ((((((rCos (L.take k) rS0).put [40]).put w29_).plain v.name).plain v.param).start v.name)).put [40]).put w28_)).fin.fin).l.length + 1) cap))) := by
      show RK _ _ _ _ _ _
      rw [hsn.out]; exact hfin
     replace hb2' := hi_ hb2'
     replace h' := hi_ h'
     replace hb' := hi_ hb'
     clear hown' hgrow hloc hfin hown
     go_wp2_with fail
     go_roundw
     case rel => exact ⟨k + 1, hlt9.out, by go_num, hfin2.out⟩
     case measure => simp [intOf]; have := hlt9.out; omega
  ·obtain rfl : k = n := by omega
   have hK2 : RK w0 b b (rCos L rS0) [] wr := by
    rw [List.take_of_length_le (by rw [hln.out]; exact Nat.le_refl _)] at hK
    exact hK
   clear hK
   obtain ⟨vv, hbq, hown, hne, hbx, hd9⟩ := RK.cells hK2
   have hlow : Hid (Below b w0 wr) := hK2.low
   have c1 : wr.cell? ⟨b, 1, none⟩ = some (.bool (rCos L rS0).bad) := by simp [World.cell?, hbq]
   have c0 : wr.cell? ⟨b, 0, none⟩ = some vv := by simp [World.cell?, hbq]
   obtain ⟨l, hl⟩ : ∃ l, l = (rCos L rS0).l := ⟨_, rfl⟩
   obtain ⟨bad, hbad⟩ : ∃ x, x = (rCos L rS0).bad := ⟨_, rfl⟩
   have hfl : l.length ≤ 1073741824 := by rw [hl]; exact hF.out
   have hEN2 : Hid (EN0 = .returned (.tuple #[.string (tellB bad l).1, .int .i64 (tellB bad l).2])) := by show _ = _; rw [hl, hbad]; exact hEN.out
   rw [← hl] at hown
   rw [← hbad] at c1
   replace hK2 := hi_ hK2
   replace hbq := hi_ hbq
   replace hd9 := hi_ hd9
   replace hl := hi_ hl
   replace hbad := hi_ hbad
   obtain ⟨ao, cap, rfl⟩ := slice_of hown
   cases bad
   ·by_cases hlen : 65536 < l.length
    ·have hlen' : (65536 : Int) < (l.length : Int) := by omega
     have hlen9 := hi_ hlen
     replace hown := hi_ hown
     go_wp2_with fail
     go_ret2
     exact ⟨by rw [hEN2.out]; unfold tellB; rw [if_neg (by decide), if_pos hlen9.out]; rfl, hlow.out⟩
    ·have hlen' : ¬ (65536 : Int) < (l.length : Int) := by omega
     have hlen9 := hi_ hlen
     have hcv := bytes_to wr (.slice ao l.length cap) l hown
     clear hown
     go_wp2_with fail
     go_ret2
     exact ⟨by rw [hEN2.out]; unfold tellB; rw [if_neg (by decide), if_neg hlen9.out]; rfl, hlow.out⟩
   ·replace hown := hi_ hown
    go_wp2_with fail
    go_ret2
    exact ⟨by rw [hEN2.out]; rfl, hlow.out⟩
end Go.Proofs.YtlppklbmdedipaaGreatDoor
