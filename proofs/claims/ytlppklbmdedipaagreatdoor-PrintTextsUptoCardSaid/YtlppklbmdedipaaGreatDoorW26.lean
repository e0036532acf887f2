/- PrintTexts, part 26. -/
import Derived.Test.YtlppklbmdedipaaGreatDoorW02
import Derived.Test.YtlppklbmdedipaaGreatDoorW25
namespace Go.Proofs.YtlppklbmdedipaaGreatDoor
open Go Go.RowKit
set_option maxHeartbeats 8000000
set_option maxRecDepth 100000
theorem runs_R (w0 : World) (B b : Nat) (v : St) (q : QSt) (word : List UInt8) (t : RS) (hv : StAt w0 B v q) : DoesR w0 B b 39 #[.pointer (some ⟨b, 0, none⟩), .string (bs word), .agg (A2_ v q)] t (RS.runs word v (rExs v.deps) (rAcs v.dos) (rAcs v.undo) t) := by
 unfold A2_
 intro bx w h hF
 have hL := hi_ hv.lens
 have hEq : RS.runs word v (rExs v.deps) (rAcs v.dos) (rAcs v.undo) t = ((rAcs v.undo) (((rAcs v.dos) (((rExs v.deps) (((t.put word).must (decide (v.name.size = 0) && decide (v.ctx.size = 0) && noneB v.expr && decide (v.body.length = 0))).put [40])).fin.put [40])).fin.put [40])).fin := rfl
 rw [hEq] at hF ⊢
 clear hEq
 have f9 := hF.fin
 have f8 : FitR (((rAcs v.dos) (((rExs v.deps) (((t.put word).must (decide (v.name.size = 0) && decide (v.ctx.size = 0) && noneB v.expr && decide (v.body.length = 0))).put [40])).fin.put [40])).fin.put [40]) := FitR.acs hv.undo f9
 have f7 : FitR ((rAcs v.dos) (((rExs v.deps) (((t.put word).must (decide (v.name.size = 0) && decide (v.ctx.size = 0) && noneB v.expr && decide (v.body.length = 0))).put [40])).fin.put [40])).fin := f8.put
 have f6 := f7.fin
 have f5 : FitR (((rExs v.deps) (((t.put word).must (decide (v.name.size = 0) && decide (v.ctx.size = 0) && noneB v.expr && decide (v.body.length = 0))).put [40])).fin.put [40]) := FitR.acs hv.dos f6
 have f4 : FitR ((rExs v.deps) (((t.put word).must (decide (v.name.size = 0) && decide (v.ctx.size = 0) && noneB v.expr && decide (v.body.length = 0))).put [40])).fin := f5.put
 have f3 := f4.fin
 have f2 : FitR (((t.put word).must (decide (v.name.size = 0) && decide (v.ctx.size = 0) && noneB v.expr && decide (v.body.length = 0))).put [40]) := FitR.exs hv.deps f3
 have f1 : FitR ((t.put word).must (decide (v.name.size = 0) && decide (v.ctx.size = 0) && noneB v.expr && decide (v.body.length = 0))) := f2.put
 have f0 : FitR (t.put word) := f1
 obtain ⟨S, hS⟩ : ∃ S, S = w.alloc ((O2_ v q)) := ⟨_, rfl⟩
 have h0 : RK w0 B b t ((w.heap.size, (O2_ v q)) :: bx) S := by rw [hS]; exact h.alloc _
 have hWS : Hid (S = _) := hS
 clear hS
 replace h := hi_ h
 have c0 := hi_ (put_R w0 B b t word _ _ h0 f0)
 have cM := hi_ (must_as w0 B b (t.put word) (decide (v.name.size = 0) && decide (v.ctx.size = 0) && noneB v.expr && decide (v.body.length = 0)) ((w.heap.size, (O2_ v q)) :: bx) f1)
 have c2 := hi_ (fun W hW => open_R w0 B b ((t.put word).must (decide (v.name.size = 0) && decide (v.ctx.size = 0) && noneB v.expr && decide (v.body.length = 0))) ((w.heap.size, (O2_ v q)) :: bx) W hW f2)
 have c3 := hi_ (fun W hW => exs_R w0 B b v.deps _ _ q.depsc (((t.put word).must (decide (v.name.size = 0) && decide (v.ctx.size = 0) && noneB v.expr && decide (v.body.length = 0))).put [40]) hv.deps ((w.heap.size, (O2_ v q)) :: bx) W hW f3)
 have c4 := hi_ (fun W hW => end_R w0 B b ((rExs v.deps) (((t.put word).must (decide (v.name.size = 0) && decide (v.ctx.size = 0) && noneB v.expr && decide (v.body.length = 0))).put [40])) ((w.heap.size, (O2_ v q)) :: bx) W hW f4)
 have c5 := hi_ (fun W hW => open_R w0 B b ((rExs v.deps) (((t.put word).must (decide (v.name.size = 0) && decide (v.ctx.size = 0) && noneB v.expr && decide (v.body.length = 0))).put [40])).fin ((w.heap.size, (O2_ v q)) :: bx) W hW f5)
 have c6 := hi_ (fun W hW => acs_R w0 B b v.dos _ _ q.dosc (((rExs v.deps) (((t.put word).must (decide (v.name.size = 0) && decide (v.ctx.size = 0) && noneB v.expr && decide (v.body.length = 0))).put [40])).fin.put [40]) hv.dos ((w.heap.size, (O2_ v q)) :: bx) W hW f6)
 have c7 := hi_ (fun W hW => end_R w0 B b ((rAcs v.dos) (((rExs v.deps) (((t.put word).must (decide (v.name.size = 0) && decide (v.ctx.size = 0) && noneB v.expr && decide (v.body.length = 0))).put [40])).fin.put [40])) ((w.heap.size, (O2_ v q)) :: bx) W hW f7)
 have c8 := hi_ (fun W hW => open_R w0 B b ((rAcs v.dos) (((rExs v.deps) (((t.put word).must (decide (v.name.size = 0) && decide (v.ctx.size = 0) && noneB v.expr && decide (v.body.length = 0))).put [40])).fin.put [40])).fin ((w.heap.size, (O2_ v q)) :: bx) W hW f8)
 have c9 := hi_ (fun W hW => acs_R w0 B b v.undo _ _ q.undoc (((rAcs v.dos) (((rExs v.deps) (((t.put word).must (decide (v.name.size = 0) && decide (v.ctx.size = 0) && noneB v.expr && decide (v.body.length = 0))).put [40])).fin.put [40])).fin.put [40]) hv.undo ((w.heap.size, (O2_ v q)) :: bx) W hW f9)
 have cZ := hi_ (fun W hW => end_R w0 B b ((rAcs v.undo) (((rAcs v.dos) (((rExs v.deps) (((t.put word).must (decide (v.name.size = 0) && decide (v.ctx.size = 0) && noneB v.expr && decide (v.body.length = 0))).put [40])).fin.put [40])).fin.put [40])) ((w.heap.size, (O2_ v q)) :: bx) W hW hF)
 replace h0 := hi_ h0
 clear hv hF f0 f1 f2 f3 f4 f5 f6 f7 f8 f9
 go_enter Tryz.func39, Tryz.ntmps39
 go_wp2_with (first | (rw [← hWS.out]) | (go_at_call 17; refine c0.out.mono ?_))
 first | rintro e w1 rfl h1 | rintro e w1 ⟨rfl, h1⟩
 go_upto_region 2 with fail
 go_cut [] (fun wx => RK w0 B b ((t.put word).must (decide (v.name.size = 0) && decide (v.ctx.size = 0) && noneB v.expr && decide (v.body.length = 0))) ((w.heap.size, (O2_ v q)) :: bx) wx)
 case first =>
  clear c2 c3 c4 c5 c6 c7 c8 c9 cZ
  obtain ⟨-, x1, x2, x3, x4, x5, x6, x7, x8, x9, x10, x11, x12, x13, x14, x15, x16⟩ := c17_ (h1.box M0_)
  replace h1 := hi_ h1
  by_cases k1 : v.name.size = 0
  ·skip
   have yk10 : v.name.toList = [] := by rw [size_nil]; exact k1
   have yk11 : v.name.toList.isEmpty = true := by rw [size_emp]; simp [k1]
   replace k1 := hi_ k1
   by_cases k2 : v.ctx.size = 0
   ·skip
    have yk20 : v.ctx.toList = [] := by rw [size_nil]; exact k2
    have yk21 : v.ctx.toList.isEmpty = true := by rw [size_emp]; simp [k2]
    replace k2 := hi_ k2
    have cU2 := hi_ (none_any v.expr q.expr w1 hL.out.ex)
    generalize noneB v.expr = UU2 at *
    go_wp2_with (go_at_call 38; refine cU2.out.mono ?_)
    first | rintro e w1c rfl hbw1c | rintro e w1c ⟨rfl, hbw1c⟩
    clear x1 x2 x3 x4 x5 x6 x7 x8 x9 x10 x11 x12 x13 x14 x15 x16 yk10 yk11 yk20 yk21
    have h1c := h1.out.below hbw1c
    replace hbw1c := hi_ hbw1c
    obtain ⟨-, x1, x2, x3, x4, x5, x6, x7, x8, x9, x10, x11, x12, x13, x14, x15, x16⟩ := c17_ (h1c.box M0_)
    replace h1c := hi_ h1c
    cases UU2
    ·skip
     go_wp2_with (go_at_call 34; refine (cM.out _ _ h1c.out (by rw [Bool.eq_iff_iff]; simp [hL.out.body.symm, k1.out, k2.out])).mono ?_)
     first | rintro e w9 rfl h9 | rintro e w9 ⟨rfl, h9⟩
     replace h9 := hi_ h9
     go_wp2_with fail
     go_meet
     exact h9.out
    ·skip
     go_wp2_with (go_at_call 34; refine (cM.out _ _ h1c.out (by rw [Bool.eq_iff_iff]; simp [hL.out.body.symm, k1.out, k2.out])).mono ?_)
     first | rintro e w9 rfl h9 | rintro e w9 ⟨rfl, h9⟩
     replace h9 := hi_ h9
     go_wp2_with fail
     go_meet
     exact h9.out
   ·skip
    have yk20 : ¬ v.ctx.toList = [] := by rw [size_nil]; exact k2
    have yk21 : v.ctx.toList.isEmpty = false := by rw [size_emp]; simp [k2]
    have yk22 : (v.ctx.toList == []) = false := by rw [size_beq]; simp [k2]
    replace k2 := hi_ k2
    go_wp2_with (go_at_call 34; refine (cM.out _ _ h1.out (by rw [Bool.eq_iff_iff]; simp [hL.out.body.symm, k1.out, k2.out])).mono ?_)
    first | rintro e w9 rfl h9 | rintro e w9 ⟨rfl, h9⟩
    replace h9 := hi_ h9
    go_wp2_with fail
    go_meet
    exact h9.out
  ·skip
   have yk10 : ¬ v.name.toList = [] := by rw [size_nil]; exact k1
   have yk11 : v.name.toList.isEmpty = false := by rw [size_emp]; simp [k1]
   have yk12 : (v.name.toList == []) = false := by rw [size_beq]; simp [k1]
   replace k1 := hi_ k1
   go_wp2_with (go_at_call 34; refine (cM.out _ _ h1.out (by rw [Bool.eq_iff_iff]; simp [hL.out.body.symm, k1.out])).mono ?_)
   first | rintro e w9 rfl h9 | rintro e w9 ⟨rfl, h9⟩
   replace h9 := hi_ h9
   go_wp2_with fail
   go_meet
   exact h9.out
 case rest =>
  replace hcut := hi_ hcut
  go_wp2_with (go_at_call 16; refine (c2.out wc hcut.out).mono ?_)
  first | rintro e wa rfl ha | rintro e wa ⟨rfl, ha⟩
  obtain ⟨-, -, -, -, -, -, -, -, -, -, -, -, -, x13, -⟩ := c17_ (ha.box M0_)
  replace ha := hi_ ha
  go_wp2_with (go_at_call 37; refine (c3.out wa ha.out).mono ?_)
  first | rintro e wb rfl hb | rintro e wb ⟨rfl, hb⟩
  clear x13
  replace hb := hi_ hb
  go_wp2_with (go_at_call 21; refine (c4.out wb hb.out).mono ?_)
  first | rintro e wd rfl hd | rintro e wd ⟨rfl, hd⟩
  replace hd := hi_ hd
  go_wp2_with (go_at_call 16; refine (c5.out wd hd.out).mono ?_)
  first | rintro e we rfl he | rintro e we ⟨rfl, he⟩
  obtain ⟨-, -, -, -, -, -, -, -, -, -, -, -, -, -, x14, -⟩ := c17_ (he.box M0_)
  replace he := hi_ he
  go_wp2_with (go_at_call 65; refine (c6.out we he.out).mono ?_)
  first | rintro e wf rfl hf | rintro e wf ⟨rfl, hf⟩
  clear x14
  replace hf := hi_ hf
  go_wp2_with (go_at_call 21; refine (c7.out wf hf.out).mono ?_)
  first | rintro e wg rfl hg | rintro e wg ⟨rfl, hg⟩
  replace hg := hi_ hg
  go_wp2_with (go_at_call 16; refine (c8.out wg hg.out).mono ?_)
  first | rintro e wh rfl hh | rintro e wh ⟨rfl, hh⟩
  obtain ⟨-, -, -, -, -, -, -, -, -, -, -, -, -, -, -, x15, -⟩ := c17_ (hh.box M0_)
  replace hh := hi_ hh
  go_wp2_with (go_at_call 65; refine (c9.out wh hh.out).mono ?_)
  first | rintro e wi rfl hi | rintro e wi ⟨rfl, hi⟩
  clear x15
  replace hi := hi_ hi
  go_wp2_with (go_at_call 21; refine (cZ.out wi hi.out).mono ?_)
  first | rintro e wj rfl hj | rintro e wj ⟨rfl, hj⟩
  replace hj := hi_ hj.drop
  go_wp2_with fail
  exact bodyPost_end (v := .tuple #[]) (results_none (by kernel_rfl) _ _ _) rfl ⟨rfl, hj.out⟩
theorem stmt1_R (w0 : World) (B b : Nat) (v : St) (q : QSt) (t : RS) (he : v.kind = 1) (hv : StAt w0 B v q)  : DoesR w0 B b 19 #[.pointer (some ⟨b, 0, none⟩), .agg (A2_ v q)] t (RS.stmt v (rEx v.expr) (rExs v.deps) (rAcs v.dos) (rAcs v.undo) (rSts v.body) t) := by
 unfold A2_
 intro bx w h hF
 have hL := hi_ hv.lens
 have hs1 := hv.name
 have hs2 := hv.ctx
 have hEq : RS.stmt v (rEx v.expr) (rExs v.deps) (rAcs v.dos) (rAcs v.undo) (rSts v.body) t = RS.fin ((rEx v.expr) ((((t.put [40]).put w21_).must (decide (v.ctx.size = 0) && decide (v.deps.length = 0) && RS.lists v && decide (v.body.length = 0))).plain v.name)) := by
  unfold RS.stmt
  rw [if_pos he]
 rw [hEq] at hF ⊢
 clear hEq
 have ff := hF.fin
 have f3 : FitR ((((t.put [40]).put w21_).must (decide (v.ctx.size = 0) && decide (v.deps.length = 0) && RS.lists v && decide (v.body.length = 0))).plain v.name) := FitR.ex hv.expr ff
 have f2 : FitR (((t.put [40]).put w21_).must (decide (v.ctx.size = 0) && decide (v.deps.length = 0) && RS.lists v && decide (v.body.length = 0))) := f3.plain
 have f1 : FitR ((t.put [40]).put w21_) := f2
 have f0 : FitR (t.put [40]) := f1.put
 obtain ⟨OB, hOB⟩ : ∃ OB : Obj, OB = (O2_ v q) := ⟨_, rfl⟩
 replace hOB := hi_ hOB
 obtain ⟨S, hS⟩ : ∃ S, S = w.alloc ((O2_ v q)) := ⟨_, rfl⟩
 have h0 : RK w0 B b t ((w.heap.size, OB) :: bx) S := by rw [hS, hOB.out]; exact h.alloc _
 have hWS : Hid (S = _) := hS
 clear hS
 replace h := hi_ h
 have c0 := hi_ (open_R w0 B b t _ _ h0 f0)
 have cEnd := hi_ (fun W hW => end_R w0 B b ((rEx v.expr) ((((t.put [40]).put w21_).must (decide (v.ctx.size = 0) && decide (v.deps.length = 0) && RS.lists v && decide (v.body.length = 0))).plain v.name)) ((w.heap.size, OB) :: bx) W hW hF)
 have c1 := hi_ (fun W hW => put_R w0 B b (t.put [40]) w21_ ((w.heap.size, OB) :: bx) W hW f1)
 have cM := hi_ (must_as w0 B b ((t.put [40]).put w21_) (decide (v.ctx.size = 0) && decide (v.deps.length = 0) && RS.lists v && decide (v.body.length = 0)) ((w.heap.size, OB) :: bx) f2)
 have c2 := hi_ (fun W hW => plain_R w0 B b (((t.put [40]).put w21_).must (decide (v.ctx.size = 0) && decide (v.deps.length = 0) && RS.lists v && decide (v.body.length = 0))) v.name hs1 ((w.heap.size, OB) :: bx) W hW f3)
 have c3 := hi_ (fun W hW => ex_R w0 B b v.expr q.expr ((((t.put [40]).put w21_).must (decide (v.ctx.size = 0) && decide (v.deps.length = 0) && RS.lists v && decide (v.body.length = 0))).plain v.name) hv.expr ((w.heap.size, OB) :: bx) W hW ff)
 clear f1 f2 f3
 have hag : Hid (Value.agg #[.int .u8 v.kind, .string v.name, .string v.ctx, .int .u8 v.expr.kind, .int .i64 v.expr.n, .string v.expr.s, .slice q.expr.argsa q.expr.argsn q.expr.argsc, .slice q.expr.namesa q.expr.namesn q.expr.namesc, .slice q.expr.valsa q.expr.valsn q.expr.valsc, .int .u8 v.expr.elem, .slice q.expr.keya q.expr.keyn q.expr.keyc, .slice q.expr.actsa q.expr.actsn q.expr.actsc, .string v.expr.site, .slice q.depsa q.depsn q.depsc, .slice q.dosa q.dosn q.dosc, .slice q.undoa q.undon q.undoc, .slice q.bodya q.bodyn q.bodyc] = .agg #[.int .u8 1, .string v.name, .string v.ctx, .int .u8 v.expr.kind, .int .i64 v.expr.n, .string v.expr.s, .slice q.expr.argsa q.expr.argsn q.expr.argsc, .slice q.expr.namesa q.expr.namesn q.expr.namesc, .slice q.expr.valsa q.expr.valsn q.expr.valsc, .int .u8 v.expr.elem, .slice q.expr.keya q.expr.keyn q.expr.keyc, .slice q.expr.actsa q.expr.actsn q.expr.actsc, .string v.expr.site, .slice q.depsa q.depsn q.depsc, .slice q.dosa q.dosn q.dosc, .slice q.undoa q.undon q.undoc, .slice q.bodya q.bodyn q.bodyc]) := by show _ = _; rw [he]
 replace he := hi_ he
 replace h0 := hi_ h0
 have hv' := hi_ hv
 clear hF ff f0 hv
 go_enter Tryz.func19, Tryz.ntmps19
 go_wp2_with (first | (rw [← hWS.out]) | (go_at_call 16; refine c0.out.mono ?_))
 first | rintro e w1 rfl h1 | rintro e w1 ⟨rfl, h1⟩
 have hq_ := h1.box M0_
 rw [hOB.out] at hq_
 obtain ⟨x0, -⟩ := c17_ hq_
 rw [he.out] at x0
 clear hq_
 replace h1 := hi_ h1
 go_wp2_with (go_at_call 17; refine (c1.out w1 h1.out).mono ?_)
 first | rintro e w2 rfl h2 | rintro e w2 ⟨rfl, h2⟩
 clear x0
 go_upto_region 6 with fail
 go_cut [] (fun wx => RK w0 B b (((t.put [40]).put w21_).must (decide (v.ctx.size = 0) && decide (v.deps.length = 0) && RS.lists v && decide (v.body.length = 0))) ((w.heap.size, OB) :: bx) wx)
 case first =>
  replace h2 := hi_ h2
  by_cases k1 : v.ctx.size = 0
  ·skip
   have yk10 : v.ctx.toList = [] := by rw [size_nil]; exact k1
   have yk11 : v.ctx.toList.isEmpty = true := by rw [size_emp]; simp [k1]
   replace k1 := hi_ k1
   by_cases k2 : q.depsn = 0
   ·skip
    have yk20 : ((q.depsn : Int) == 0) = true := by simp [k2]
    replace k2 := hi_ k2
    have hY := h2.out.box M0_
    rw [hOB.out] at hY
    obtain ⟨x0, x1, x2, x3, x4, x5, x6, x7, x8, x9, x10, x11, x12, x13, x14, x15, x16⟩ := c17_ hY
    clear hY
    rw [he.out] at x0
    have cU1 := hi_ ((by have := lists_any v q w2 hL.out; rw [hag.out] at this; exact this))
    generalize RS.lists v = UU1 at *
    go_wp2_with (go_at_call 36; refine cU1.out.mono ?_)
    first | rintro e w2c rfl hbw2c | rintro e w2c ⟨rfl, hbw2c⟩
    clear x0 x1 x2 x3 x4 x5 x6 x7 x8 x9 x10 x11 x12 x13 x14 x15 x16 yk10 yk11 yk20
    have h2c := hi_ (h2.out.below hbw2c)
    replace hbw2c := hi_ hbw2c
    cases UU1
    ·skip
     go_wp2_with (go_at_call 34; refine (cM.out _ _ h2c.out (by rw [Bool.eq_iff_iff]; simp [hL.out.deps.symm, hL.out.body.symm, k1.out, k2.out])).mono ?_)
     first | rintro e w9 rfl h9 | rintro e w9 ⟨rfl, h9⟩
     replace h9 := hi_ h9
     go_wp2_with fail
     go_meet
     exact h9.out
    ·skip
     have hY := h2c.out.box M0_
     rw [hOB.out] at hY
     obtain ⟨-, -, -, -, -, -, -, -, -, -, -, -, -, -, -, -, x16⟩ := c17_ hY
     clear hY
     go_wp2_with (go_at_call 34; refine (cM.out _ _ h2c.out (by rw [Bool.eq_iff_iff]; simp [hL.out.deps.symm, hL.out.body.symm, k1.out, k2.out])).mono ?_)
     first | rintro e w9 rfl h9 | rintro e w9 ⟨rfl, h9⟩
     replace h9 := hi_ h9
     go_wp2_with fail
     go_meet
     exact h9.out
   ·skip
    have yk20 : ((q.depsn : Int) == 0) = false := by simp [k2]
    replace k2 := hi_ k2
    have hY := h2.out.box M0_
    rw [hOB.out] at hY
    obtain ⟨-, -, x2, -, -, -, -, -, -, -, -, -, -, x13, -⟩ := c17_ hY
    clear hY
    go_wp2_with (go_at_call 34; refine (cM.out _ _ h2.out (by rw [Bool.eq_iff_iff]; simp [hL.out.deps.symm, hL.out.body.symm, k1.out, k2.out])).mono ?_)
    first | rintro e w9 rfl h9 | rintro e w9 ⟨rfl, h9⟩
    replace h9 := hi_ h9
    go_wp2_with fail
    go_meet
    exact h9.out
  ·skip
   have yk10 : ¬ v.ctx.toList = [] := by rw [size_nil]; exact k1
   have yk11 : v.ctx.toList.isEmpty = false := by rw [size_emp]; simp [k1]
   have yk12 : (v.ctx.toList == []) = false := by rw [size_beq]; simp [k1]
   replace k1 := hi_ k1
   have hY := h2.out.box M0_
   rw [hOB.out] at hY
   obtain ⟨-, -, x2, -⟩ := c17_ hY
   clear hY
   go_wp2_with (go_at_call 34; refine (cM.out _ _ h2.out (by rw [Bool.eq_iff_iff]; simp [hL.out.deps.symm, hL.out.body.symm, k1.out])).mono ?_)
   first | rintro e w9 rfl h9 | rintro e w9 ⟨rfl, h9⟩
   replace h9 := hi_ h9
   go_wp2_with fail
   go_meet
   exact h9.out
 case rest =>
  have hY := hcut.box M0_
  rw [hOB.out] at hY
  obtain ⟨-, x1, -⟩ := c17_ hY
  clear hY
  replace hcut := hi_ hcut
  go_wp2_with (go_at_call 18; refine (c2.out wc hcut.out).mono ?_)
  first | rintro e wd rfl hd | rintro e wd ⟨rfl, hd⟩
  clear x1
  have hY := hd.box M0_
  rw [hOB.out] at hY
  obtain ⟨-, -, -, x3, x4, x5, x6, x7, x8, x9, x10, x11, x12, -⟩ := c17_ hY
  clear hY
  replace hd := hi_ hd
  go_wp2_with (go_at_call 20; refine (c3.out wd hd.out).mono ?_)
  first | rintro e wy rfl hy | rintro e wy ⟨rfl, hy⟩
  clear x3 x4 x5 x6 x7 x8 x9 x10 x11 x12
  replace hy := hi_ hy
  go_wp2_with (go_at_call 21; refine (cEnd.out wy hy.out).mono ?_)
  first | rintro e wz rfl hz | rintro e wz ⟨rfl, hz⟩
  replace hz := hi_ hz.drop
  go_wp2_with fail
  exact bodyPost_end (v := .tuple #[]) (results_none (by kernel_rfl) _ _ _) rfl ⟨rfl, hz.out⟩
theorem stmt2_R (w0 : World) (B b : Nat) (v : St) (q : QSt) (t : RS) (he : v.kind = 2) (hv : StAt w0 B v q)  : DoesR w0 B b 19 #[.pointer (some ⟨b, 0, none⟩), .agg (A2_ v q)] t (RS.stmt v (rEx v.expr) (rExs v.deps) (rAcs v.dos) (rAcs v.undo) (rSts v.body) t) := by
 unfold A2_
 intro bx w h hF
 have hL := hi_ hv.lens
 have hs1 := hv.name
 have hs2 := hv.ctx
 have hEq : RS.stmt v (rEx v.expr) (rExs v.deps) (rAcs v.dos) (rAcs v.undo) (rSts v.body) t = RS.fin ((rEx v.expr) ((((t.put [40]).put w22_).must (decide (v.ctx.size = 0) && decide (v.deps.length = 0) && RS.lists v && decide (v.body.length = 0))).plain v.name)) := by
  unfold RS.stmt
  rw [if_neg (by omega), if_pos he]
 rw [hEq] at hF ⊢
 clear hEq
 have ff := hF.fin
 have f3 : FitR ((((t.put [40]).put w22_).must (decide (v.ctx.size = 0) && decide (v.deps.length = 0) && RS.lists v && decide (v.body.length = 0))).plain v.name) := FitR.ex hv.expr ff
 have f2 : FitR (((t.put [40]).put w22_).must (decide (v.ctx.size = 0) && decide (v.deps.length = 0) && RS.lists v && decide (v.body.length = 0))) := f3.plain
 have f1 : FitR ((t.put [40]).put w22_) := f2
 have f0 : FitR (t.put [40]) := f1.put
 obtain ⟨OB, hOB⟩ : ∃ OB : Obj, OB = (O2_ v q) := ⟨_, rfl⟩
 replace hOB := hi_ hOB
 obtain ⟨S, hS⟩ : ∃ S, S = w.alloc ((O2_ v q)) := ⟨_, rfl⟩
 have h0 : RK w0 B b t ((w.heap.size, OB) :: bx) S := by rw [hS, hOB.out]; exact h.alloc _
 have hWS : Hid (S = _) := hS
 clear hS
 replace h := hi_ h
 have c0 := hi_ (open_R w0 B b t _ _ h0 f0)
 have cEnd := hi_ (fun W hW => end_R w0 B b ((rEx v.expr) ((((t.put [40]).put w22_).must (decide (v.ctx.size = 0) && decide (v.deps.length = 0) && RS.lists v && decide (v.body.length = 0))).plain v.name)) ((w.heap.size, OB) :: bx) W hW hF)
 have c1 := hi_ (fun W hW => put_R w0 B b (t.put [40]) w22_ ((w.heap.size, OB) :: bx) W hW f1)
 have cM := hi_ (must_as w0 B b ((t.put [40]).put w22_) (decide (v.ctx.size = 0) && decide (v.deps.length = 0) && RS.lists v && decide (v.body.length = 0)) ((w.heap.size, OB) :: bx) f2)
 have c2 := hi_ (fun W hW => plain_R w0 B b (((t.put [40]).put w22_).must (decide (v.ctx.size = 0) && decide (v.deps.length = 0) && RS.lists v && decide (v.body.length = 0))) v.name hs1 ((w.heap.size, OB) :: bx) W hW f3)
 have c3 := hi_ (fun W hW => ex_R w0 B b v.expr q.expr ((((t.put [40]).put w22_).must (decide (v.ctx.size = 0) && decide (v.deps.length = 0) && RS.lists v && decide (v.body.length = 0))).plain v.name) hv.expr ((w.heap.size, OB) :: bx) W hW ff)
 clear f1 f2 f3
 have hag : Hid (Value.agg #[.int .u8 v.kind, .string v.name, .string v.ctx, .int .u8 v.expr.kind, .int .i64 v.expr.n, .string v.expr.s, .slice q.expr.argsa q.expr.argsn q.expr.argsc, .slice q.expr.namesa q.expr.namesn q.expr.namesc, .slice q.expr.valsa q.expr.valsn q.expr.valsc, .int .u8 v.expr.elem, .slice q.expr.keya q.expr.keyn q.expr.keyc, .slice q.expr.actsa q.expr.actsn q.expr.actsc, .string v.expr.site, .slice q.depsa q.depsn q.depsc, .slice q.dosa q.dosn q.dosc, .slice q.undoa q.undon q.undoc, .slice q.bodya q.bodyn q.bodyc] = .agg #[.int .u8 2, .string v.name, .string v.ctx, .int .u8 v.expr.kind, .int .i64 v.expr.n, .string v.expr.s, .slice q.expr.argsa q.expr.argsn q.expr.argsc, .slice q.expr.namesa q.expr.namesn q.expr.namesc, .slice q.expr.valsa q.expr.valsn q.expr.valsc, .int .u8 v.expr.elem, .slice q.expr.keya q.expr.keyn q.expr.keyc, .slice q.expr.actsa q.expr.actsn q.expr.actsc, .string v.expr.site, .slice q.depsa q.depsn q.depsc, .slice q.dosa q.dosn q.dosc, .slice q.undoa q.undon q.undoc, .slice q.bodya q.bodyn q.bodyc]) := by show _ = _; rw [he]
 replace he := hi_ he
 replace h0 := hi_ h0
 have hv' := hi_ hv
 clear hF ff f0 hv
 go_enter Tryz.func19, Tryz.ntmps19
 go_wp2_with (first | (rw [← hWS.out]) | (go_at_call 16; refine c0.out.mono ?_))
 first | rintro e w1 rfl h1 | rintro e w1 ⟨rfl, h1⟩
 have hq_ := h1.box M0_
 rw [hOB.out] at hq_
 obtain ⟨x0, -⟩ := c17_ hq_
 rw [he.out] at x0
 clear hq_
 replace h1 := hi_ h1
 go_wp2_with (go_at_call 17; refine (c1.out w1 h1.out).mono ?_)
 first | rintro e w2 rfl h2 | rintro e w2 ⟨rfl, h2⟩
 clear x0
 go_upto_region 11 with fail
 go_cut [] (fun wx => RK w0 B b (((t.put [40]).put w22_).must (decide (v.ctx.size = 0) && decide (v.deps.length = 0) && RS.lists v && decide (v.body.length = 0))) ((w.heap.size, OB) :: bx) wx)
 case first =>
  replace h2 := hi_ h2
  by_cases k1 : v.ctx.size = 0
  ·skip
   have yk10 : v.ctx.toList = [] := by rw [size_nil]; exact k1
   have yk11 : v.ctx.toList.isEmpty = true := by rw [size_emp]; simp [k1]
   replace k1 := hi_ k1
   by_cases k2 : q.depsn = 0
   ·skip
    have yk20 : ((q.depsn : Int) == 0) = true := by simp [k2]
    replace k2 := hi_ k2
    have hY := h2.out.box M0_
    rw [hOB.out] at hY
    obtain ⟨x0, x1, x2, x3, x4, x5, x6, x7, x8, x9, x10, x11, x12, x13, x14, x15, x16⟩ := c17_ hY
    clear hY
    rw [he.out] at x0
    have cU1 := hi_ ((by have := lists_any v q w2 hL.out; rw [hag.out] at this; exact this))
    generalize RS.lists v = UU1 at *
    go_wp2_with (go_at_call 36; refine cU1.out.mono ?_)
    first | rintro e w2c rfl hbw2c | rintro e w2c ⟨rfl, hbw2c⟩
    clear x0 x1 x2 x3 x4 x5 x6 x7 x8 x9 x10 x11 x12 x13 x14 x15 x16 yk10 yk11 yk20
    have h2c := hi_ (h2.out.below hbw2c)
    replace hbw2c := hi_ hbw2c
    cases UU1
    ·skip
     go_wp2_with (go_at_call 34; refine (cM.out _ _ h2c.out (by rw [Bool.eq_iff_iff]; simp [hL.out.deps.symm, hL.out.body.symm, k1.out, k2.out])).mono ?_)
     first | rintro e w9 rfl h9 | rintro e w9 ⟨rfl, h9⟩
     replace h9 := hi_ h9
     go_wp2_with fail
     go_meet
     exact h9.out
    ·skip
     have hY := h2c.out.box M0_
     rw [hOB.out] at hY
     obtain ⟨-, -, -, -, -, -, -, -, -, -, -, -, -, -, -, -, x16⟩ := c17_ hY
     clear hY
     go_wp2_with (go_at_call 34; refine (cM.out _ _ h2c.out (by rw [Bool.eq_iff_iff]; simp [hL.out.deps.symm, hL.out.body.symm, k1.out, k2.out])).mono ?_)
     first | rintro e w9 rfl h9 | rintro e w9 ⟨rfl, h9⟩
     replace h9 := hi_ h9
     go_wp2_with fail
     go_meet
     exact h9.out
   ·skip
    have yk20 : ((q.depsn : Int) == 0) = false := by simp [k2]
    replace k2 := hi_ k2
    have hY := h2.out.box M0_
    rw [hOB.out] at hY
    obtain ⟨-, -, x2, -, -, -, -, -, -, -, -, -, -, x13, -⟩ := c17_ hY
    clear hY
    go_wp2_with (go_at_call 34; refine (cM.out _ _ h2.out (by rw [Bool.eq_iff_iff]; simp [hL.out.deps.symm, hL.out.body.symm, k1.out, k2.out])).mono ?_)
    first | rintro e w9 rfl h9 | rintro e w9 ⟨rfl, h9⟩
    replace h9 := hi_ h9
    go_wp2_with fail
    go_meet
    exact h9.out
  ·skip
   have yk10 : ¬ v.ctx.toList = [] := by rw [size_nil]; exact k1
   have yk11 : v.ctx.toList.isEmpty = false := by rw [size_emp]; simp [k1]
   have yk12 : (v.ctx.toList == []) = false := by rw [size_beq]; simp [k1]
   replace k1 := hi_ k1
   have hY := h2.out.box M0_
   rw [hOB.out] at hY
   obtain ⟨-, -, x2, -⟩ := c17_ hY
   clear hY
   go_wp2_with (go_at_call 34; refine (cM.out _ _ h2.out (by rw [Bool.eq_iff_iff]; simp [hL.out.deps.symm, hL.out.body.symm, k1.out])).mono ?_)
   first | rintro e w9 rfl h9 | rintro e w9 ⟨rfl, h9⟩
   replace h9 := hi_ h9
   go_wp2_with fail
   go_meet
   exact h9.out
 case rest =>
  have hY := hcut.box M0_
  rw [hOB.out] at hY
  obtain ⟨-, x1, -⟩ := c17_ hY
  clear hY
  replace hcut := hi_ hcut
  go_wp2_with (go_at_call 18; refine (c2.out wc hcut.out).mono ?_)
  first | rintro e wd rfl hd | rintro e wd ⟨rfl, hd⟩
  clear x1
  have hY := hd.box M0_
  rw [hOB.out] at hY
  obtain ⟨-, -, -, x3, x4, x5, x6, x7, x8, x9, x10, x11, x12, -⟩ := c17_ hY
  clear hY
  replace hd := hi_ hd
  go_wp2_with (go_at_call 20; refine (c3.out wd hd.out).mono ?_)
  first | rintro e wy rfl hy | rintro e wy ⟨rfl, hy⟩
  clear x3 x4 x5 x6 x7 x8 x9 x10 x11 x12
  replace hy := hi_ hy
  go_wp2_with (go_at_call 21; refine (cEnd.out wy hy.out).mono ?_)
  first | rintro e wz rfl hz | rintro e wz ⟨rfl, hz⟩
  replace hz := hi_ hz.drop
  go_wp2_with fail
  exact bodyPost_end (v := .tuple #[]) (results_none (by kernel_rfl) _ _ _) rfl ⟨rfl, hz.out⟩
theorem stmt3_R (w0 : World) (B b : Nat) (v : St) (q : QSt) (t : RS) (he : v.kind = 3) (hv : StAt w0 B v q)  : DoesR w0 B b 19 #[.pointer (some ⟨b, 0, none⟩), .agg (A2_ v q)] t (RS.stmt v (rEx v.expr) (rExs v.deps) (rAcs v.dos) (rAcs v.undo) (rSts v.body) t) := by
 unfold A2_
 intro bx w h hF
 have hL := hi_ hv.lens
 have hs1 := hv.name
 have hs2 := hv.ctx
 have hEq : RS.stmt v (rEx v.expr) (rExs v.deps) (rAcs v.dos) (rAcs v.undo) (rSts v.body) t = RS.fin ((rEx v.expr) ((rExs v.deps) (((((t.put [40]).put w23_).must (decide (v.ctx.size = 0) && RS.lists v && decide (v.body.length = 0))).plain v.name).put [40])).fin) := by
  unfold RS.stmt
  rw [if_neg (by omega), if_neg (by omega), if_pos he]
 rw [hEq] at hF ⊢
 clear hEq
 have ff := hF.fin
 have f6 : FitR ((rExs v.deps) (((((t.put [40]).put w23_).must (decide (v.ctx.size = 0) && RS.lists v && decide (v.body.length = 0))).plain v.name).put [40])).fin := FitR.ex hv.expr ff
 have f5 := f6.fin
 have f4 : FitR (((((t.put [40]).put w23_).must (decide (v.ctx.size = 0) && RS.lists v && decide (v.body.length = 0))).plain v.name).put [40]) := FitR.exs hv.deps f5
 have f3 : FitR ((((t.put [40]).put w23_).must (decide (v.ctx.size = 0) && RS.lists v && decide (v.body.length = 0))).plain v.name) := f4.put
 have f2 : FitR (((t.put [40]).put w23_).must (decide (v.ctx.size = 0) && RS.lists v && decide (v.body.length = 0))) := f3.plain
 have f1 : FitR ((t.put [40]).put w23_) := f2
 have f0 : FitR (t.put [40]) := f1.put
 obtain ⟨OB, hOB⟩ : ∃ OB : Obj, OB = (O2_ v q) := ⟨_, rfl⟩
 replace hOB := hi_ hOB
 obtain ⟨S, hS⟩ : ∃ S, S = w.alloc ((O2_ v q)) := ⟨_, rfl⟩
 have h0 : RK w0 B b t ((w.heap.size, OB) :: bx) S := by rw [hS, hOB.out]; exact h.alloc _
 have hWS : Hid (S = _) := hS
 clear hS
 replace h := hi_ h
 have c0 := hi_ (open_R w0 B b t _ _ h0 f0)
 have cEnd := hi_ (fun W hW => end_R w0 B b ((rEx v.expr) ((rExs v.deps) (((((t.put [40]).put w23_).must (decide (v.ctx.size = 0) && RS.lists v && decide (v.body.length = 0))).plain v.name).put [40])).fin) ((w.heap.size, OB) :: bx) W hW hF)
 have c1 := hi_ (fun W hW => put_R w0 B b (t.put [40]) w23_ ((w.heap.size, OB) :: bx) W hW f1)
 have cM := hi_ (must_as w0 B b ((t.put [40]).put w23_) (decide (v.ctx.size = 0) && RS.lists v && decide (v.body.length = 0)) ((w.heap.size, OB) :: bx) f2)
 have c2 := hi_ (fun W hW => plain_R w0 B b (((t.put [40]).put w23_).must (decide (v.ctx.size = 0) && RS.lists v && decide (v.body.length = 0))) v.name hs1 ((w.heap.size, OB) :: bx) W hW f3)
 have c3 := hi_ (fun W hW => open_R w0 B b ((((t.put [40]).put w23_).must (decide (v.ctx.size = 0) && RS.lists v && decide (v.body.length = 0))).plain v.name) ((w.heap.size, OB) :: bx) W hW f4)
 have c4 := hi_ (fun W hW => exs_R w0 B b v.deps _ _ q.depsc (((((t.put [40]).put w23_).must (decide (v.ctx.size = 0) && RS.lists v && decide (v.body.length = 0))).plain v.name).put [40]) hv.deps ((w.heap.size, OB) :: bx) W hW f5)
 have c5 := hi_ (fun W hW => end_R w0 B b ((rExs v.deps) (((((t.put [40]).put w23_).must (decide (v.ctx.size = 0) && RS.lists v && decide (v.body.length = 0))).plain v.name).put [40])) ((w.heap.size, OB) :: bx) W hW f6)
 have c6 := hi_ (fun W hW => ex_R w0 B b v.expr q.expr ((rExs v.deps) (((((t.put [40]).put w23_).must (decide (v.ctx.size = 0) && RS.lists v && decide (v.body.length = 0))).plain v.name).put [40])).fin hv.expr ((w.heap.size, OB) :: bx) W hW ff)
 clear f1 f2 f3 f4 f5 f6
 have hag : Hid (Value.agg #[.int .u8 v.kind, .string v.name, .string v.ctx, .int .u8 v.expr.kind, .int .i64 v.expr.n, .string v.expr.s, .slice q.expr.argsa q.expr.argsn q.expr.argsc, .slice q.expr.namesa q.expr.namesn q.expr.namesc, .slice q.expr.valsa q.expr.valsn q.expr.valsc, .int .u8 v.expr.elem, .slice q.expr.keya q.expr.keyn q.expr.keyc, .slice q.expr.actsa q.expr.actsn q.expr.actsc, .string v.expr.site, .slice q.depsa q.depsn q.depsc, .slice q.dosa q.dosn q.dosc, .slice q.undoa q.undon q.undoc, .slice q.bodya q.bodyn q.bodyc] = .agg #[.int .u8 3, .string v.name, .string v.ctx, .int .u8 v.expr.kind, .int .i64 v.expr.n, .string v.expr.s, .slice q.expr.argsa q.expr.argsn q.expr.argsc, .slice q.expr.namesa q.expr.namesn q.expr.namesc, .slice q.expr.valsa q.expr.valsn q.expr.valsc, .int .u8 v.expr.elem, .slice q.expr.keya q.expr.keyn q.expr.keyc, .slice q.expr.actsa q.expr.actsn q.expr.actsc, .string v.expr.site, .slice q.depsa q.depsn q.depsc, .slice q.dosa q.dosn q.dosc, .slice q.undoa q.undon q.undoc, .slice q.bodya q.bodyn q.bodyc]) := by show _ = _; rw [he]
 replace he := hi_ he
 replace h0 := hi_ h0
 have hv' := hi_ hv
 clear hF ff f0 hv
 go_enter Tryz.func19, Tryz.ntmps19
 go_wp2_with (first | (rw [← hWS.out]) | (go_at_call 16; refine c0.out.mono ?_))
 first | rintro e w1 rfl h1 | rintro e w1 ⟨rfl, h1⟩
 have hq_ := h1.box M0_
 rw [hOB.out] at hq_
 obtain ⟨x0, -⟩ := c17_ hq_
 rw [he.out] at x0
 clear hq_
 replace h1 := hi_ h1
 go_wp2_with (go_at_call 17; refine (c1.out w1 h1.out).mono ?_)
 first | rintro e w2 rfl h2 | rintro e w2 ⟨rfl, h2⟩
 clear x0
 go_upto_region 16 with fail
 go_cut [] (fun wx => RK w0 B b (((t.put [40]).put w23_).must (decide (v.ctx.size = 0) && RS.lists v && decide (v.body.length = 0))) ((w.heap.size, OB) :: bx) wx)
 case first =>
  replace h2 := hi_ h2
  by_cases k1 : v.ctx.size = 0
  ·skip
   have yk10 : v.ctx.toList = [] := by rw [size_nil]; exact k1
   have yk11 : v.ctx.toList.isEmpty = true := by rw [size_emp]; simp [k1]
   replace k1 := hi_ k1
   have hY := h2.out.box M0_
   rw [hOB.out] at hY
   obtain ⟨x0, x1, x2, x3, x4, x5, x6, x7, x8, x9, x10, x11, x12, x13, x14, x15, x16⟩ := c17_ hY
   clear hY
   rw [he.out] at x0
   have cU1 := hi_ ((by have := lists_any v q w2 hL.out; rw [hag.out] at this; exact this))
   generalize RS.lists v = UU1 at *
   go_wp2_with (go_at_call 36; refine cU1.out.mono ?_)
   first | rintro e w2c rfl hbw2c | rintro e w2c ⟨rfl, hbw2c⟩
   clear x0 x1 x2 x3 x4 x5 x6 x7 x8 x9 x10 x11 x12 x13 x14 x15 x16 yk10 yk11
   have h2c := hi_ (h2.out.below hbw2c)
   replace hbw2c := hi_ hbw2c
   cases UU1
   ·skip
    go_wp2_with (go_at_call 34; refine (cM.out _ _ h2c.out (by rw [Bool.eq_iff_iff]; simp [hL.out.body.symm, k1.out])).mono ?_)
    first | rintro e w9 rfl h9 | rintro e w9 ⟨rfl, h9⟩
    replace h9 := hi_ h9
    go_wp2_with fail
    go_meet
    exact h9.out
   ·skip
    have hY := h2c.out.box M0_
    rw [hOB.out] at hY
    obtain ⟨-, -, -, -, -, -, -, -, -, -, -, -, -, -, -, -, x16⟩ := c17_ hY
    clear hY
    go_wp2_with (go_at_call 34; refine (cM.out _ _ h2c.out (by rw [Bool.eq_iff_iff]; simp [hL.out.body.symm, k1.out])).mono ?_)
    first | rintro e w9 rfl h9 | rintro e w9 ⟨rfl, h9⟩
    replace h9 := hi_ h9
    go_wp2_with fail
    go_meet
    exact h9.out
  ·skip
   have yk10 : ¬ v.ctx.toList = [] := by rw [size_nil]; exact k1
   have yk11 : v.ctx.toList.isEmpty = false := by rw [size_emp]; simp [k1]
   have yk12 : (v.ctx.toList == []) = false := by rw [size_beq]; simp [k1]
   replace k1 := hi_ k1
   have hY := h2.out.box M0_
   rw [hOB.out] at hY
   obtain ⟨-, -, x2, -⟩ := c17_ hY
   clear hY
   go_wp2_with (go_at_call 34; refine (cM.out _ _ h2.out (by rw [Bool.eq_iff_iff]; simp [hL.out.body.symm, k1.out])).mono ?_)
   first | rintro e w9 rfl h9 | rintro e w9 ⟨rfl, h9⟩
   replace h9 := hi_ h9
   go_wp2_with fail
   go_meet
   exact h9.out
 case rest =>
  have hY := hcut.box M0_
  rw [hOB.out] at hY
  obtain ⟨-, x1, -⟩ := c17_ hY
  clear hY
  replace hcut := hi_ hcut
  go_wp2_with (go_at_call 18; refine (c2.out wc hcut.out).mono ?_)
  first | rintro e wd rfl hd | rintro e wd ⟨rfl, hd⟩
  clear x1
  replace hd := hi_ hd
  go_wp2_with (go_at_call 16; refine (c3.out wd hd.out).mono ?_)
  first | rintro e we rfl he2 | rintro e we ⟨rfl, he2⟩
  have hY := he2.box M0_
  rw [hOB.out] at hY
  obtain ⟨-, -, -, -, -, -, -, -, -, -, -, -, -, x13, -⟩ := c17_ hY
  clear hY
  replace he2 := hi_ he2
  go_wp2_with (go_at_call 37; refine (c4.out we he2.out).mono ?_)
  first | rintro e wf rfl hf | rintro e wf ⟨rfl, hf⟩
  clear x13
  replace hf := hi_ hf
  go_wp2_with (go_at_call 21; refine (c5.out wf hf.out).mono ?_)
  first | rintro e wg rfl hg | rintro e wg ⟨rfl, hg⟩
  have hY := hg.box M0_
  rw [hOB.out] at hY
  obtain ⟨-, -, -, x3, x4, x5, x6, x7, x8, x9, x10, x11, x12, -⟩ := c17_ hY
  clear hY
  replace hg := hi_ hg
  go_wp2_with (go_at_call 20; refine (c6.out wg hg.out).mono ?_)
  first | rintro e wy rfl hy | rintro e wy ⟨rfl, hy⟩
  clear x3 x4 x5 x6 x7 x8 x9 x10 x11 x12
  replace hy := hi_ hy
  go_wp2_with (go_at_call 21; refine (cEnd.out wy hy.out).mono ?_)
  first | rintro e wz rfl hz | rintro e wz ⟨rfl, hz⟩
  replace hz := hi_ hz.drop
  go_wp2_with fail
  exact bodyPost_end (v := .tuple #[]) (results_none (by kernel_rfl) _ _ _) rfl ⟨rfl, hz.out⟩
theorem stmt4_R (w0 : World) (B b : Nat) (v : St) (q : QSt) (t : RS) (he : v.kind = 4) (hv : StAt w0 B v q)  : DoesR w0 B b 19 #[.pointer (some ⟨b, 0, none⟩), .agg (A2_ v q)] t (RS.stmt v (rEx v.expr) (rExs v.deps) (rAcs v.dos) (rAcs v.undo) (rSts v.body) t) := by
 unfold A2_
 intro bx w h hF
 have hL := hi_ hv.lens
 have hs1 := hv.name
 have hs2 := hv.ctx
 have hEq : RS.stmt v (rEx v.expr) (rExs v.deps) (rAcs v.dos) (rAcs v.undo) (rSts v.body) t = RS.fin (((((t.put [40]).put w24_).must (noneB v.expr && decide (v.deps.length = 0) && RS.lists v && decide (v.body.length = 0))).plain v.name).plain v.ctx) := by
  unfold RS.stmt
  rw [if_neg (by omega), if_neg (by omega), if_neg (by omega), if_pos he]
 rw [hEq] at hF ⊢
 clear hEq
 have ff := hF.fin
 have f4 : FitR (((((t.put [40]).put w24_).must (noneB v.expr && decide (v.deps.length = 0) && RS.lists v && decide (v.body.length = 0))).plain v.name).plain v.ctx) := ff
 have f3 : FitR ((((t.put [40]).put w24_).must (noneB v.expr && decide (v.deps.length = 0) && RS.lists v && decide (v.body.length = 0))).plain v.name) := f4.plain
 have f2 : FitR (((t.put [40]).put w24_).must (noneB v.expr && decide (v.deps.length = 0) && RS.lists v && decide (v.body.length = 0))) := f3.plain
 have f1 : FitR ((t.put [40]).put w24_) := f2
 have f0 : FitR (t.put [40]) := f1.put
 obtain ⟨OB, hOB⟩ : ∃ OB : Obj, OB = (O2_ v q) := ⟨_, rfl⟩
 replace hOB := hi_ hOB
 obtain ⟨S, hS⟩ : ∃ S, S = w.alloc ((O2_ v q)) := ⟨_, rfl⟩
 have h0 : RK w0 B b t ((w.heap.size, OB) :: bx) S := by rw [hS, hOB.out]; exact h.alloc _
 have hWS : Hid (S = _) := hS
 clear hS
 replace h := hi_ h
 have c0 := hi_ (open_R w0 B b t _ _ h0 f0)
 have cEnd := hi_ (fun W hW => end_R w0 B b (((((t.put [40]).put w24_).must (noneB v.expr && decide (v.deps.length = 0) && RS.lists v && decide (v.body.length = 0))).plain v.name).plain v.ctx) ((w.heap.size, OB) :: bx) W hW hF)
 have c1 := hi_ (fun W hW => put_R w0 B b (t.put [40]) w24_ ((w.heap.size, OB) :: bx) W hW f1)
 have cM := hi_ (must_as w0 B b ((t.put [40]).put w24_) (noneB v.expr && decide (v.deps.length = 0) && RS.lists v && decide (v.body.length = 0)) ((w.heap.size, OB) :: bx) f2)
 have c2 := hi_ (fun W hW => plain_R w0 B b (((t.put [40]).put w24_).must (noneB v.expr && decide (v.deps.length = 0) && RS.lists v && decide (v.body.length = 0))) v.name hs1 ((w.heap.size, OB) :: bx) W hW f3)
 have c3 := hi_ (fun W hW => plain_R w0 B b ((((t.put [40]).put w24_).must (noneB v.expr && decide (v.deps.length = 0) && RS.lists v && decide (v.body.length = 0))).plain v.name) v.ctx hs2 ((w.heap.size, OB) :: bx) W hW f4)
 clear f1 f2 f3 f4
 have hag : Hid (Value.agg #[.int .u8 v.kind, .string v.name, .string v.ctx, .int .u8 v.expr.kind, .int .i64 v.expr.n, .string v.expr.s, .slice q.expr.argsa q.expr.argsn q.expr.argsc, .slice q.expr.namesa q.expr.namesn q.expr.namesc, .slice q.expr.valsa q.expr.valsn q.expr.valsc, .int .u8 v.expr.elem, .slice q.expr.keya q.expr.keyn q.expr.keyc, .slice q.expr.actsa q.expr.actsn q.expr.actsc, .string v.expr.site, .slice q.depsa q.depsn q.depsc, .slice q.dosa q.dosn q.dosc, .slice q.undoa q.undon q.undoc, .slice q.bodya q.bodyn q.bodyc] = .agg #[.int .u8 4, .string v.name, .string v.ctx, .int .u8 v.expr.kind, .int .i64 v.expr.n, .string v.expr.s, .slice q.expr.argsa q.expr.argsn q.expr.argsc, .slice q.expr.namesa q.expr.namesn q.expr.namesc, .slice q.expr.valsa q.expr.valsn q.expr.valsc, .int .u8 v.expr.elem, .slice q.expr.keya q.expr.keyn q.expr.keyc, .slice q.expr.actsa q.expr.actsn q.expr.actsc, .string v.expr.site, .slice q.depsa q.depsn q.depsc, .slice q.dosa q.dosn q.dosc, .slice q.undoa q.undon q.undoc, .slice q.bodya q.bodyn q.bodyc]) := by show _ = _; rw [he]
 replace he := hi_ he
 replace h0 := hi_ h0
 have hv' := hi_ hv
 clear hF ff f0 hv
 go_enter Tryz.func19, Tryz.ntmps19
 go_wp2_with (first | (rw [← hWS.out]) | (go_at_call 16; refine c0.out.mono ?_))
 first | rintro e w1 rfl h1 | rintro e w1 ⟨rfl, h1⟩
 have hq_ := h1.box M0_
 rw [hOB.out] at hq_
 obtain ⟨x0, -⟩ := c17_ hq_
 rw [he.out] at x0
 clear hq_
 replace h1 := hi_ h1
 go_wp2_with (go_at_call 17; refine (c1.out w1 h1.out).mono ?_)
 first | rintro e w2 rfl h2 | rintro e w2 ⟨rfl, h2⟩
 clear x0
 go_upto_region 24 with fail
 go_cut [] (fun wx => RK w0 B b (((t.put [40]).put w24_).must (noneB v.expr && decide (v.deps.length = 0) && RS.lists v && decide (v.body.length = 0))) ((w.heap.size, OB) :: bx) wx)
 case first =>
  replace h2 := hi_ h2
  have hY := h2.out.box M0_
  rw [hOB.out] at hY
  obtain ⟨-, -, -, x3, x4, x5, x6, x7, x8, x9, x10, x11, x12, -⟩ := c17_ hY
  clear hY
  have cU2 := hi_ (none_any v.expr q.expr w2 hL.out.ex)
  generalize noneB v.expr = UU2 at *
  go_wp2_with (go_at_call 38; refine cU2.out.mono ?_)
  first | rintro e w2c rfl hbw2c | rintro e w2c ⟨rfl, hbw2c⟩
  clear x3 x4 x5 x6 x7 x8 x9 x10 x11 x12
  have h2c := hi_ (h2.out.below hbw2c)
  replace hbw2c := hi_ hbw2c
  cases UU2
  ·skip
   go_wp2_with (go_at_call 34; refine (cM.out _ _ h2c.out (by rw [Bool.eq_iff_iff]; simp [hL.out.deps.symm, hL.out.body.symm])).mono ?_)
   first | rintro e w9 rfl h9 | rintro e w9 ⟨rfl, h9⟩
   replace h9 := hi_ h9
   go_wp2_with fail
   go_meet
   exact h9.out
  ·skip
   by_cases k2 : q.depsn = 0
   ·skip
    have yk20 : ((q.depsn : Int) == 0) = true := by simp [k2]
    replace k2 := hi_ k2
    have hY := h2c.out.box M0_
    rw [hOB.out] at hY
    obtain ⟨x0, x1, x2, x3, x4, x5, x6, x7, x8, x9, x10, x11, x12, x13, x14, x15, x16⟩ := c17_ hY
    clear hY
    rw [he.out] at x0
    have cU1 := hi_ ((by have := lists_any v q w2c hL.out; rw [hag.out] at this; exact this))
    generalize RS.lists v = UU1 at *
    go_wp2_with (go_at_call 36; refine cU1.out.mono ?_)
    first | rintro e w2cc rfl hbw2cc | rintro e w2cc ⟨rfl, hbw2cc⟩
    clear x0 x1 x2 x3 x4 x5 x6 x7 x8 x9 x10 x11 x12 x13 x14 x15 x16 yk20
    have h2cc := hi_ (h2c.out.below hbw2cc)
    replace hbw2cc := hi_ hbw2cc
    cases UU1
    ·skip
     go_wp2_with (go_at_call 34; refine (cM.out _ _ h2cc.out (by rw [Bool.eq_iff_iff]; simp [hL.out.deps.symm, hL.out.body.symm, k2.out])).mono ?_)
     first | rintro e w9 rfl h9 | rintro e w9 ⟨rfl, h9⟩
     replace h9 := hi_ h9
     go_wp2_with fail
     go_meet
     exact h9.out
    ·skip
     have hY := h2cc.out.box M0_
     rw [hOB.out] at hY
     obtain ⟨-, -, -, -, -, -, -, -, -, -, -, -, -, -, -, -, x16⟩ := c17_ hY
     clear hY
     go_wp2_with (go_at_call 34; refine (cM.out _ _ h2cc.out (by rw [Bool.eq_iff_iff]; simp [hL.out.deps.symm, hL.out.body.symm, k2.out])).mono ?_)
     first | rintro e w9 rfl h9 | rintro e w9 ⟨rfl, h9⟩
     replace h9 := hi_ h9
     go_wp2_with fail
     go_meet
     exact h9.out
   ·skip
    have yk20 : ((q.depsn : Int) == 0) = false := by simp [k2]
    replace k2 := hi_ k2
    have hY := h2c.out.box M0_
    rw [hOB.out] at hY
    obtain ⟨-, -, -, -, -, -, -, -, -, -, -, -, -, x13, -⟩ := c17_ hY
    clear hY
    go_wp2_with (go_at_call 34; refine (cM.out _ _ h2c.out (by rw [Bool.eq_iff_iff]; simp [hL.out.deps.symm, hL.out.body.symm, k2.out])).mono ?_)
    first | rintro e w9 rfl h9 | rintro e w9 ⟨rfl, h9⟩
    replace h9 := hi_ h9
    go_wp2_with fail
    go_meet
    exact h9.out
 case rest =>
  have hY := hcut.box M0_
  rw [hOB.out] at hY
  obtain ⟨-, x1, -⟩ := c17_ hY
  clear hY
  replace hcut := hi_ hcut
  go_wp2_with (go_at_call 18; refine (c2.out wc hcut.out).mono ?_)
  first | rintro e wd rfl hd | rintro e wd ⟨rfl, hd⟩
  clear x1
  have hY := hd.box M0_
  rw [hOB.out] at hY
  obtain ⟨-, -, x2, -⟩ := c17_ hY
  clear hY
  replace hd := hi_ hd
  go_wp2_with (go_at_call 18; refine (c3.out wd hd.out).mono ?_)
  first | rintro e wy rfl hy | rintro e wy ⟨rfl, hy⟩
  clear x2
  replace hy := hi_ hy
  go_wp2_with (go_at_call 21; refine (cEnd.out wy hy.out).mono ?_)
  first | rintro e wz rfl hz | rintro e wz ⟨rfl, hz⟩
  replace hz := hi_ hz.drop
  go_wp2_with fail
  exact bodyPost_end (v := .tuple #[]) (results_none (by kernel_rfl) _ _ _) rfl ⟨rfl, hz.out⟩
theorem stmt5_R (w0 : World) (B b : Nat) (v : St) (q : QSt) (t : RS) (he : v.kind = 5) (hv : StAt w0 B v q)  : DoesR w0 B b 19 #[.pointer (some ⟨b, 0, none⟩), .agg (A2_ v q)] t (RS.stmt v (rEx v.expr) (rExs v.deps) (rAcs v.dos) (rAcs v.undo) (rSts v.body) t) := by
 unfold A2_
 intro bx w h hF
 have hL := hi_ hv.lens
 have hs1 := hv.name
 have hs2 := hv.ctx
 have hEq : RS.stmt v (rEx v.expr) (rExs v.deps) (rAcs v.dos) (rAcs v.undo) (rSts v.body) t = RS.fin (RS.runs w25_ v (rExs v.deps) (rAcs v.dos) (rAcs v.undo) (t.put [40])) := by
  unfold RS.stmt
  rw [if_neg (by omega), if_neg (by omega), if_neg (by omega), if_neg (by omega), if_pos he]
 rw [hEq] at hF ⊢
 clear hEq
 have ff := hF.fin
 have f1 : FitR (RS.runs w25_ v (rExs v.deps) (rAcs v.dos) (rAcs v.undo) (t.put [40])) := ff
 have f0 : FitR (t.put [40]) := f1.of (RS.runs_le w25_ (by decide) v (rExs_le _ (fun v _ => rEx_le v) hv.deps.oks) (rAcs_le _ (fun v _ => rAc_le v) hv.dos.oks) (rAcs_le _ (fun v _ => rAc_le v) hv.undo.oks) _)
 obtain ⟨OB, hOB⟩ : ∃ OB : Obj, OB = (O2_ v q) := ⟨_, rfl⟩
 replace hOB := hi_ hOB
 obtain ⟨S, hS⟩ : ∃ S, S = w.alloc ((O2_ v q)) := ⟨_, rfl⟩
 have h0 : RK w0 B b t ((w.heap.size, OB) :: bx) S := by rw [hS, hOB.out]; exact h.alloc _
 have hWS : Hid (S = _) := hS
 clear hS
 replace h := hi_ h
 have c0 := hi_ (open_R w0 B b t _ _ h0 f0)
 have cEnd := hi_ (fun W hW => end_R w0 B b (RS.runs w25_ v (rExs v.deps) (rAcs v.dos) (rAcs v.undo) (t.put [40])) ((w.heap.size, OB) :: bx) W hW hF)
 have c1 := hi_ (fun W hW => runs_R w0 B b v q w25_ (t.put [40]) hv ((w.heap.size, OB) :: bx) W hW f1)
 clear f1
 have hag : Hid (Value.agg #[.int .u8 v.kind, .string v.name, .string v.ctx, .int .u8 v.expr.kind, .int .i64 v.expr.n, .string v.expr.s, .slice q.expr.argsa q.expr.argsn q.expr.argsc, .slice q.expr.namesa q.expr.namesn q.expr.namesc, .slice q.expr.valsa q.expr.valsn q.expr.valsc, .int .u8 v.expr.elem, .slice q.expr.keya q.expr.keyn q.expr.keyc, .slice q.expr.actsa q.expr.actsn q.expr.actsc, .string v.expr.site, .slice q.depsa q.depsn q.depsc, .slice q.dosa q.dosn q.dosc, .slice q.undoa q.undon q.undoc, .slice q.bodya q.bodyn q.bodyc] = .agg #[.int .u8 5, .string v.name, .string v.ctx, .int .u8 v.expr.kind, .int .i64 v.expr.n, .string v.expr.s, .slice q.expr.argsa q.expr.argsn q.expr.argsc, .slice q.expr.namesa q.expr.namesn q.expr.namesc, .slice q.expr.valsa q.expr.valsn q.expr.valsc, .int .u8 v.expr.elem, .slice q.expr.keya q.expr.keyn q.expr.keyc, .slice q.expr.actsa q.expr.actsn q.expr.actsc, .string v.expr.site, .slice q.depsa q.depsn q.depsc, .slice q.dosa q.dosn q.dosc, .slice q.undoa q.undon q.undoc, .slice q.bodya q.bodyn q.bodyc]) := by show _ = _; rw [he]
 replace he := hi_ he
 replace h0 := hi_ h0
 have hv' := hi_ hv
 clear hF ff f0 hv
 go_enter Tryz.func19, Tryz.ntmps19
 go_wp2_with (first | (rw [← hWS.out]) | (go_at_call 16; refine c0.out.mono ?_))
 first | rintro e w1 rfl h1 | rintro e w1 ⟨rfl, h1⟩
 have hq_ := h1.box M0_
 rw [hOB.out] at hq_
 obtain ⟨x0, -⟩ := c17_ hq_
 rw [he.out] at x0
 clear hq_
 clear x0
 have hY := h1.box M0_
 rw [hOB.out] at hY
 obtain ⟨x0, x1, x2, x3, x4, x5, x6, x7, x8, x9, x10, x11, x12, x13, x14, x15, x16⟩ := c17_ hY
 clear hY
 rw [he.out] at x0
 have c1a := c1.out w1 h1
 rw [hag.out] at c1a
 replace c1a := hi_ c1a
 replace h1 := hi_ h1
 go_wp2_with (go_at_call 39; refine c1a.out.mono ?_)
 first | rintro e wy rfl hy | rintro e wy ⟨rfl, hy⟩
 clear x0 x1 x2 x3 x4 x5 x6 x7 x8 x9 x10 x11 x12 x13 x14 x15 x16
 replace hy := hi_ hy
 go_wp2_with (go_at_call 21; refine (cEnd.out wy hy.out).mono ?_)
 first | rintro e wz rfl hz | rintro e wz ⟨rfl, hz⟩
 replace hz := hi_ hz.drop
 go_wp2_with fail
 exact bodyPost_end (v := .tuple #[]) (results_none (by kernel_rfl) _ _ _) rfl ⟨rfl, hz.out⟩
theorem stmt6_R (w0 : World) (B b : Nat) (v : St) (q : QSt) (t : RS) (he : v.kind = 6) (hv : StAt w0 B v q)  : DoesR w0 B b 19 #[.pointer (some ⟨b, 0, none⟩), .agg (A2_ v q)] t (RS.stmt v (rEx v.expr) (rExs v.deps) (rAcs v.dos) (rAcs v.undo) (rSts v.body) t) := by
 unfold A2_
 intro bx w h hF
 have hL := hi_ hv.lens
 have hs1 := hv.name
 have hs2 := hv.ctx
 have hEq : RS.stmt v (rEx v.expr) (rExs v.deps) (rAcs v.dos) (rAcs v.undo) (rSts v.body) t = RS.fin (RS.runs w26_ v (rExs v.deps) (rAcs v.dos) (rAcs v.undo) (t.put [40])) := by
  unfold RS.stmt
  rw [if_neg (by omega), if_neg (by omega), if_neg (by omega), if_neg (by omega), if_neg (by omega), if_pos he]
 rw [hEq] at hF ⊢
 clear hEq
 have ff := hF.fin
 have f1 : FitR (RS.runs w26_ v (rExs v.deps) (rAcs v.dos) (rAcs v.undo) (t.put [40])) := ff
 have f0 : FitR (t.put [40]) := f1.of (RS.runs_le w26_ (by decide) v (rExs_le _ (fun v _ => rEx_le v) hv.deps.oks) (rAcs_le _ (fun v _ => rAc_le v) hv.dos.oks) (rAcs_le _ (fun v _ => rAc_le v) hv.undo.oks) _)
 obtain ⟨OB, hOB⟩ : ∃ OB : Obj, OB = (O2_ v q) := ⟨_, rfl⟩
 replace hOB := hi_ hOB
 obtain ⟨S, hS⟩ : ∃ S, S = w.alloc ((O2_ v q)) := ⟨_, rfl⟩
 have h0 : RK w0 B b t ((w.heap.size, OB) :: bx) S := by rw [hS, hOB.out]; exact h.alloc _
 have hWS : Hid (S = _) := hS
 clear hS
 replace h := hi_ h
 have c0 := hi_ (open_R w0 B b t _ _ h0 f0)
 have cEnd := hi_ (fun W hW => end_R w0 B b (RS.runs w26_ v (rExs v.deps) (rAcs v.dos) (rAcs v.undo) (t.put [40])) ((w.heap.size, OB) :: bx) W hW hF)
 have c1 := hi_ (fun W hW => runs_R w0 B b v q w26_ (t.put [40]) hv ((w.heap.size, OB) :: bx) W hW f1)
 clear f1
 have hag : Hid (Value.agg #[.int .u8 v.kind, .string v.name, .string v.ctx, .int .u8 v.expr.kind, .int .i64 v.expr.n, .string v.expr.s, .slice q.expr.argsa q.expr.argsn q.expr.argsc, .slice q.expr.namesa q.expr.namesn q.expr.namesc, .slice q.expr.valsa q.expr.valsn q.expr.valsc, .int .u8 v.expr.elem, .slice q.expr.keya q.expr.keyn q.expr.keyc, .slice q.expr.actsa q.expr.actsn q.expr.actsc, .string v.expr.site, .slice q.depsa q.depsn q.depsc, .slice q.dosa q.dosn q.dosc, .slice q.undoa q.undon q.undoc, .slice q.bodya q.bodyn q.bodyc] = .agg #[.int .u8 6, .string v.name, .string v.ctx, .int .u8 v.expr.kind, .int .i64 v.expr.n, .string v.expr.s, .slice q.expr.argsa q.expr.argsn q.expr.argsc, .slice q.expr.namesa q.expr.namesn q.expr.namesc, .slice q.expr.valsa q.expr.valsn q.expr.valsc, .int .u8 v.expr.elem, .slice q.expr.keya q.expr.keyn q.expr.keyc, .slice q.expr.actsa q.expr.actsn q.expr.actsc, .string v.expr.site, .slice q.depsa q.depsn q.depsc, .slice q.dosa q.dosn q.dosc, .slice q.undoa q.undon q.undoc, .slice q.bodya q.bodyn q.bodyc]) := by show _ = _; rw [he]
 replace he := hi_ he
 replace h0 := hi_ h0
 have hv' := hi_ hv
 clear hF ff f0 hv
 go_enter Tryz.func19, Tryz.ntmps19
 go_wp2_with (first | (rw [← hWS.out]) | (go_at_call 16; refine c0.out.mono ?_))
 first | rintro e w1 rfl h1 | rintro e w1 ⟨rfl, h1⟩
 have hq_ := h1.box M0_
 rw [hOB.out] at hq_
 obtain ⟨x0, -⟩ := c17_ hq_
 rw [he.out] at x0
 clear hq_
 clear x0
 have hY := h1.box M0_
 rw [hOB.out] at hY
 obtain ⟨x0, x1, x2, x3, x4, x5, x6, x7, x8, x9, x10, x11, x12, x13, x14, x15, x16⟩ := c17_ hY
 clear hY
 rw [he.out] at x0
 have c1a := c1.out w1 h1
 rw [hag.out] at c1a
 replace c1a := hi_ c1a
 replace h1 := hi_ h1
 go_wp2_with (go_at_call 39; refine c1a.out.mono ?_)
 first | rintro e wy rfl hy | rintro e wy ⟨rfl, hy⟩
 clear x0 x1 x2 x3 x4 x5 x6 x7 x8 x9 x10 x11 x12 x13 x14 x15 x16
 replace hy := hi_ hy
 go_wp2_with (go_at_call 21; refine (cEnd.out wy hy.out).mono ?_)
 first | rintro e wz rfl hz | rintro e wz ⟨rfl, hz⟩
 replace hz := hi_ hz.drop
 go_wp2_with fail
 exact bodyPost_end (v := .tuple #[]) (results_none (by kernel_rfl) _ _ _) rfl ⟨rfl, hz.out⟩
end Go.Proofs.YtlppklbmdedipaaGreatDoor
