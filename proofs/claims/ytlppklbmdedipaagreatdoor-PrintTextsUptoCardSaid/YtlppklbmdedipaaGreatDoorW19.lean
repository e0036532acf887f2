/- PrintTexts, part 19. -/
import Derived.Test.YtlppklbmdedipaaGreatDoorW02
import Derived.Test.YtlppklbmdedipaaGreatDoorW18
import Derived.Deep.CutBlock
namespace Go.Proofs.YtlppklbmdedipaaGreatDoor
open Go Go.RowKit
set_option maxHeartbeats 8000000
set_option maxRecDepth 100000
theorem elem1_R (w0 : World) (B b : Nat) (v : Ex) (q : QEx) (t : RS) (he : v.elem = 1) (hv : ExAt w0 B v q) (hA : ExsR w0 B b v.args) (_hV : ExsR w0 B b v.vals) (hK : ExsR w0 B b v.key) (hP : PairsR w0 B b v) : DoesR w0 B b 69 #[.pointer (some ⟨b, 0, none⟩), .agg (A0_ v q)] t (RS.elem v (rExs v.args) (rExs v.vals) (rExs v.key) (RS.pairsF v (rPairs v.vals v.names)) t) := by
 unfold A0_
 intro bx w h hF
 have hL := hi_ hv.lens
 have hmx := ExLens.maxes hv
 have hs := hv.s
 have hEq : RS.elem v (rExs v.args) (rExs v.vals) (rExs v.key) (RS.pairsF v (rPairs v.vals v.names)) t = (rExs v.args ((RS.pairsF v (rPairs v.vals v.names) (((RS.keyF v (rExs v.key) ((t.must (RS.elemOk v)).put w2_)).plain v.s).put [40])).fin)) := by
  unfold RS.elem
  rw [if_neg (by omega)]
  unfold RS.elemB
  rw [if_pos (by omega), he]; rfl
 rw [hEq] at hF ⊢
 clear hEq
 have f6 := FitR.exs hv.args hF
 have f5 : FitR (((RS.keyF v (rExs v.key) ((t.must (RS.elemOk v)).put w2_)).plain v.s).put [40]) := (FitR.pairs hv.vals (show FitR (rPairs v.vals v.names ((((RS.keyF v (rExs v.key) ((t.must (RS.elemOk v)).put w2_)).plain v.s).put [40]).must _)) from f6.fin)).must
 have f4 := f5.put
 have f3 : FitR (RS.keyF v (rExs v.key) ((t.must (RS.elemOk v)).put w2_)) := f4.plain
 have f2 : FitR (if v.key.length = 0 then ((t.must (RS.elemOk v)).put w2_).put [45] else ((t.must (RS.elemOk v)).put w2_)) := FitR.exs hv.key f3
 have f1 : FitR ((t.must (RS.elemOk v)).put w2_) := by
  split at f2
  ·exact f2.put
  ·exact f2
 have f0 : FitR (t.must (RS.elemOk v)) := f1.put
 obtain ⟨S, hS⟩ : ∃ S, S = w.alloc ((O0_ v q)) := ⟨_, rfl⟩
 have h0 : RK w0 B b t ((w.heap.size, (O0_ v q)) :: bx) S := by rw [hS]; exact h.alloc _
 have hWS : Hid (S = _) := hS
 clear hS
 replace h := hi_ h
 have cM := hi_ (must_as w0 B b t (RS.elemOk v) ((w.heap.size, (O0_ v q)) :: bx) f0)
 have c1 := hi_ (fun W hW => put_R w0 B b (t.must (RS.elemOk v)) w2_ ((w.heap.size, (O0_ v q)) :: bx) W hW f1)
 have c2 := hi_ (fun (f : FitR (((t.must (RS.elemOk v)).put w2_).put [45])) W hW => put_R w0 B b ((t.must (RS.elemOk v)).put w2_) [45] ((w.heap.size, (O0_ v q)) :: bx) W hW f)
 obtain ⟨T2, hT2⟩ : ∃ T, T = (if v.key.length = 0 then ((t.must (RS.elemOk v)).put w2_).put [45] else ((t.must (RS.elemOk v)).put w2_)) := ⟨_, rfl⟩
 have f3' : FitR (rExs v.key T2) := by rw [hT2]; exact f3
 have c3 := hi_ (fun W hW => hK _ _ q.keyc T2 hv.key ((w.heap.size, (O0_ v q)) :: bx) W hW f3')
 replace hT2 := hi_ hT2
 clear f3'
 have c4 := hi_ (fun W hW => plain_R w0 B b (RS.keyF v (rExs v.key) ((t.must (RS.elemOk v)).put w2_)) v.s hs ((w.heap.size, (O0_ v q)) :: bx) W hW f4)
 have c5 := hi_ (fun W hW => open_R w0 B b ((RS.keyF v (rExs v.key) ((t.must (RS.elemOk v)).put w2_)).plain v.s) ((w.heap.size, (O0_ v q)) :: bx) W hW f5)
 have c6 := hi_ (fun W hW => hP q (((RS.keyF v (rExs v.key) ((t.must (RS.elemOk v)).put w2_)).plain v.s).put [40]) hv ((w.heap.size, (O0_ v q)) :: bx) W hW f6.fin)
 have c7 := hi_ (fun W hW => end_R w0 B b (RS.pairsF v (rPairs v.vals v.names) (((RS.keyF v (rExs v.key) ((t.must (RS.elemOk v)).put w2_)).plain v.s).put [40])) ((w.heap.size, (O0_ v q)) :: bx) W hW f6)
 have c9 := hi_ (fun W hW => hA _ _ q.argsc ((RS.pairsF v (rPairs v.vals v.names) (((RS.keyF v (rExs v.key) ((t.must (RS.elemOk v)).put w2_)).plain v.s).put [40])).fin) hv.args ((w.heap.size, (O0_ v q)) :: bx) W hW hF)
 have hv' := hi_ hv
 have hkl := hi_ hL.out.key
 replace f2 := hi_ f2
 have f6' := hi_ f6
 have f4' := hi_ f4
 clear hF hv f0 f1 f3 f4 f6 f5
 have hag : Hid (Value.agg #[.int .u8 v.kind, .int .i64 v.n, .string v.s, .slice q.argsa q.argsn q.argsc, .slice q.namesa q.namesn q.namesc, .slice q.valsa q.valsn q.valsc, .int .u8 v.elem, .slice q.keya q.keyn q.keyc, .slice q.actsa q.actsn q.actsc, .string v.site] = .agg #[.int .u8 v.kind, .int .i64 v.n, .string v.s, .slice q.argsa q.argsn q.argsc, .slice q.namesa q.namesn q.namesc, .slice q.valsa q.valsn q.valsc, .int .u8 1, .slice q.keya q.keyn q.keyc, .slice q.actsa q.actsn q.actsc, .string v.site]) := by show _ = _; rw [he]
 replace he := hi_ he
 go_enter Tryz.func69, Tryz.ntmps69
 go_upto_region 1 with (rw [← hWS.out])
 go_cut [] (fun wx => RK w0 B b (t.must (RS.elemOk v)) ((w.heap.size, (O0_ v q)) :: bx) wx)
 case first =>
  obtain ⟨-, x1, -, -, -, -, -, x7, x8, x9⟩ := c10_ (h0.box M0_)
  replace h0 := hi_ h0
  have hok : Hid (RS.elemOk v = (decide (v.n = 0) && decide (q.actsn = 0) && decide (v.site.size = 0) && decide (q.keyn ≤ 1))) := by
   show _ = _
   rw [hL.out.acts, hL.out.key]; rfl
  clear hmx
  by_cases c1 : v.n = 0
  ·skip
   have yc10 : (v.n == 0) = true := by simp [c1]
   replace c1 := hi_ c1
   by_cases c2 : q.actsn = 0
   ·skip
    have yc20 : ((q.actsn : Int) == 0) = true := by simp [c2]
    replace c2 := hi_ c2
    by_cases c3 : v.site.size = 0
    ·skip
     have yc30 : v.site.toList = [] := by rw [size_nil]; exact c3
     have yc31 : v.site.toList.isEmpty = true := by rw [size_emp]; simp [c3]
     replace c3 := hi_ c3
     go_wp2_with (go_at_call 34; refine (cM.out _ _ h0.out (by rw [hok.out]; simp [c1.out, c2.out, c3.out]; try omega)).mono ?_)
     first | rintro e w3 rfl h3 | rintro e w3 ⟨rfl, h3⟩
     replace h3 := hi_ h3
     clear yc10 yc20 yc30 yc31
     go_wp2_with fail
     go_meet
     exact h3.out
    ·skip
     have yc30 : ¬ v.site.toList = [] := by rw [size_nil]; exact c3
     have yc31 : v.site.toList.isEmpty = false := by rw [size_emp]; simp [c3]
     have yc32 : (v.site.toList == []) = false := by rw [size_beq]; simp [c3]
     replace c3 := hi_ c3
     go_wp2_with (go_at_call 34; refine (cM.out _ _ h0.out (by rw [hok.out]; simp [c1.out, c2.out, c3.out]; try omega)).mono ?_)
     first | rintro e w3 rfl h3 | rintro e w3 ⟨rfl, h3⟩
     replace h3 := hi_ h3
     clear yc10 yc20 yc30 yc31 yc32
     go_wp2_with fail
     go_meet
     exact h3.out
   ·skip
    have yc20 : ((q.actsn : Int) == 0) = false := by simp [c2]
    replace c2 := hi_ c2
    go_wp2_with (go_at_call 34; refine (cM.out _ _ h0.out (by rw [hok.out]; simp [c1.out, c2.out]; try omega)).mono ?_)
    first | rintro e w3 rfl h3 | rintro e w3 ⟨rfl, h3⟩
    replace h3 := hi_ h3
    clear yc10 yc20
    go_wp2_with fail
    go_meet
    exact h3.out
  ·skip
   have yc10 : (v.n == 0) = false := by simp [c1]
   replace c1 := hi_ c1
   go_wp2_with (go_at_call 34; refine (cM.out _ _ h0.out (by rw [hok.out]; simp [c1.out]; try omega)).mono ?_)
   first | rintro e w3 rfl h3 | rintro e w3 ⟨rfl, h3⟩
   replace h3 := hi_ h3
   clear yc10
   go_wp2_with fail
   go_meet
   exact h3.out
 case rest =>
  obtain ⟨S2, hS2⟩ : ∃ S2, S2 = wc.alloc (.cells A24_ 9) := ⟨_, rfl⟩
  have h2a := hcut.alloc (.cells A24_ 9)
  rw [← hS2] at h2a
  have xw : S2.cell? ⟨wc.heap.size, 1, none⟩ = some (.string ⟨#[104, 111, 115, 116]⟩) := by
   have := h2a.box M0_
   simp [World.cell?, this]
  have h2 := h2a.drop
  have hW2 : Hid (S2 = _) := hS2
  clear hS2 h2a
  replace hcut := hi_ hcut
  replace h0 := hi_ h0
  have c1a := hi_ (c1.out S2 h2)
  obtain ⟨-, -, -, -, -, -, x6, -⟩ := c10_ (h2.box M0_)
  rw [he.out] at x6
  replace h2 := hi_ h2
  go_wp2_with (first | (rw [← hW2.out]) | (go_at_call 17; refine c1a.out.mono ?_))
  first | rintro e w5 rfl h5 | rintro e w5 ⟨rfl, h5⟩
  clear x6 xw
  obtain ⟨-, -, -, -, -, -, -, x7, -⟩ := c10_ (h5.box M0_)
  go_upto_if 48 with fail
  go_cut [] (fun wx => RK w0 B b T2 ((w.heap.size, (O0_ v q)) :: bx) wx)
  case first =>
   by_cases hk0 : q.keyn = 0
   ·have k9 : v.key.length = 0 := by rw [← hkl.out]; exact hk0
    have f2' := f2.out
    rw [if_pos k9] at f2'
    have c2' := hi_ (c2.out f2' w5 h5)
    have y : ((q.keyn : Int) == 0) = true := by simp [hk0]
    replace k9 := hi_ k9
    replace h5 := hi_ h5
    clear f2' hk0
    go_wp2_with (go_at_call 17; refine c2'.out.mono ?_)
    first | rintro e w6 rfl h6 | rintro e w6 ⟨rfl, h6⟩
    replace h6 := hi_ h6
    go_wp2_with fail
    go_meet
    rw [hT2.out, if_pos k9.out]
    exact h6.out
   ·have k9 : Hid (¬ v.key.length = 0) := by show ¬ _; rw [← hkl.out]; exact hk0
    have y : ((q.keyn : Int) == 0) = false := by simp [hk0]
    replace h5 := hi_ h5
    clear hk0
    go_wp2_with fail
    go_meet
    rw [hT2.out, if_neg k9.out]
    exact h5.out
  case rest =>
   clear x7
   replace h5 := hi_ h5
   obtain ⟨-, -, -, -, -, -, -, x7, -⟩ := c10_ (hcut.box M0_)
   replace hcut := hi_ hcut
   go_wp2_with (go_at_call 37; refine (c3.out wc hcut.out).mono ?_)
   first | rintro e w7 rfl h7 | rintro e w7 ⟨rfl, h7⟩
   clear x7
   have h7 : RK w0 B b (RS.keyF v (rExs v.key) ((t.must (RS.elemOk v)).put w2_)) ((w.heap.size, (O0_ v q)) :: bx) w7 := by
    have h7' := h7
    rw [hT2.out] at h7'
    exact h7'
   obtain ⟨-, -, -, -, -, -, x6, -⟩ := c10_ (h7.box M0_)
   rw [he.out] at x6
   obtain ⟨-, -, x2, -⟩ := c10_ (h7.box M0_)
   replace h7 := hi_ h7
   go_wp2_with (go_at_call 18; refine (c4.out w7 h7.out).mono ?_)
   first | rintro e w8 rfl h8 | rintro e w8 ⟨rfl, h8⟩
   clear x6 x2
   replace h8 := hi_ h8
   go_wp2_with (go_at_call 16; refine (c5.out w8 h8.out).mono ?_)
   first | rintro e w9 rfl h9 | rintro e w9 ⟨rfl, h9⟩
   have c6a := c6.out w9 h9
   obtain ⟨x0, x1, x2, x3, x4, x5, x6, x7, x8, x9⟩ := c10_ (h9.box M0_)
   rw [hag.out] at c6a
   rw [he.out] at x6
   replace c6a := hi_ c6a
   replace h9 := hi_ h9
   go_wp2_with (go_at_call 68; refine c6a.out.mono ?_)
   first | rintro e wa rfl ha | rintro e wa ⟨rfl, ha⟩
   clear x0 x1 x2 x3 x4 x5 x6 x7 x8 x9
   replace ha := hi_ ha
   go_wp2_with (go_at_call 21; refine (c7.out wa ha.out).mono ?_)
   first | rintro e wb rfl hb | rintro e wb ⟨rfl, hb⟩
   obtain ⟨-, -, -, x3, -⟩ := c10_ (hb.box M0_)
   replace hb := hi_ hb
   go_wp2_with (go_at_call 37; refine (c9.out wb hb.out).mono ?_)
   first | rintro e wc9 rfl hc | rintro e wc9 ⟨rfl, hc⟩
   replace hc := hi_ hc.drop
   go_wp2_with fail
   exact bodyPost_end (v := .tuple #[]) (results_none (by kernel_rfl) _ _ _) rfl ⟨rfl, hc.out⟩
theorem elem2_R (w0 : World) (B b : Nat) (v : Ex) (q : QEx) (t : RS) (he : v.elem = 2) (hv : ExAt w0 B v q) (hA : ExsR w0 B b v.args) (_hV : ExsR w0 B b v.vals) (hK : ExsR w0 B b v.key) (hP : PairsR w0 B b v) : DoesR w0 B b 69 #[.pointer (some ⟨b, 0, none⟩), .agg (A0_ v q)] t (RS.elem v (rExs v.args) (rExs v.vals) (rExs v.key) (RS.pairsF v (rPairs v.vals v.names)) t) := by
 unfold A0_
 intro bx w h hF
 have hL := hi_ hv.lens
 have hmx := ExLens.maxes hv
 have hs := hv.s
 have hEq : RS.elem v (rExs v.args) (rExs v.vals) (rExs v.key) (RS.pairsF v (rPairs v.vals v.names)) t = (rExs v.args ((RS.pairsF v (rPairs v.vals v.names) (((RS.keyF v (rExs v.key) ((t.must (RS.elemOk v)).put w3_)).plain v.s).put [40])).fin)) := by
  unfold RS.elem
  rw [if_neg (by omega)]
  unfold RS.elemB
  rw [if_pos (by omega), he]; rfl
 rw [hEq] at hF ⊢
 clear hEq
 have f6 := FitR.exs hv.args hF
 have f5 : FitR (((RS.keyF v (rExs v.key) ((t.must (RS.elemOk v)).put w3_)).plain v.s).put [40]) := (FitR.pairs hv.vals (show FitR (rPairs v.vals v.names ((((RS.keyF v (rExs v.key) ((t.must (RS.elemOk v)).put w3_)).plain v.s).put [40]).must _)) from f6.fin)).must
 have f4 := f5.put
 have f3 : FitR (RS.keyF v (rExs v.key) ((t.must (RS.elemOk v)).put w3_)) := f4.plain
 have f2 : FitR (if v.key.length = 0 then ((t.must (RS.elemOk v)).put w3_).put [45] else ((t.must (RS.elemOk v)).put w3_)) := FitR.exs hv.key f3
 have f1 : FitR ((t.must (RS.elemOk v)).put w3_) := by
  split at f2
  ·exact f2.put
  ·exact f2
 have f0 : FitR (t.must (RS.elemOk v)) := f1.put
 obtain ⟨S, hS⟩ : ∃ S, S = w.alloc ((O0_ v q)) := ⟨_, rfl⟩
 have h0 : RK w0 B b t ((w.heap.size, (O0_ v q)) :: bx) S := by rw [hS]; exact h.alloc _
 have hWS : Hid (S = _) := hS
 clear hS
 replace h := hi_ h
 have cM := hi_ (must_as w0 B b t (RS.elemOk v) ((w.heap.size, (O0_ v q)) :: bx) f0)
 have c1 := hi_ (fun W hW => put_R w0 B b (t.must (RS.elemOk v)) w3_ ((w.heap.size, (O0_ v q)) :: bx) W hW f1)
 have c2 := hi_ (fun (f : FitR (((t.must (RS.elemOk v)).put w3_).put [45])) W hW => put_R w0 B b ((t.must (RS.elemOk v)).put w3_) [45] ((w.heap.size, (O0_ v q)) :: bx) W hW f)
 obtain ⟨T2, hT2⟩ : ∃ T, T = (if v.key.length = 0 then ((t.must (RS.elemOk v)).put w3_).put [45] else ((t.must (RS.elemOk v)).put w3_)) := ⟨_, rfl⟩
 have f3' : FitR (rExs v.key T2) := by rw [hT2]; exact f3
 have c3 := hi_ (fun W hW => hK _ _ q.keyc T2 hv.key ((w.heap.size, (O0_ v q)) :: bx) W hW f3')
 replace hT2 := hi_ hT2
 clear f3'
 have c4 := hi_ (fun W hW => plain_R w0 B b (RS.keyF v (rExs v.key) ((t.must (RS.elemOk v)).put w3_)) v.s hs ((w.heap.size, (O0_ v q)) :: bx) W hW f4)
 have c5 := hi_ (fun W hW => open_R w0 B b ((RS.keyF v (rExs v.key) ((t.must (RS.elemOk v)).put w3_)).plain v.s) ((w.heap.size, (O0_ v q)) :: bx) W hW f5)
 have c6 := hi_ (fun W hW => hP q (((RS.keyF v (rExs v.key) ((t.must (RS.elemOk v)).put w3_)).plain v.s).put [40]) hv ((w.heap.size, (O0_ v q)) :: bx) W hW f6.fin)
 have c7 := hi_ (fun W hW => end_R w0 B b (RS.pairsF v (rPairs v.vals v.names) (((RS.keyF v (rExs v.key) ((t.must (RS.elemOk v)).put w3_)).plain v.s).put [40])) ((w.heap.size, (O0_ v q)) :: bx) W hW f6)
 have c9 := hi_ (fun W hW => hA _ _ q.argsc ((RS.pairsF v (rPairs v.vals v.names) (((RS.keyF v (rExs v.key) ((t.must (RS.elemOk v)).put w3_)).plain v.s).put [40])).fin) hv.args ((w.heap.size, (O0_ v q)) :: bx) W hW hF)
 have hv' := hi_ hv
 have hkl := hi_ hL.out.key
 replace f2 := hi_ f2
 have f6' := hi_ f6
 have f4' := hi_ f4
 clear hF hv f0 f1 f3 f4 f6 f5
 have hag : Hid (Value.agg #[.int .u8 v.kind, .int .i64 v.n, .string v.s, .slice q.argsa q.argsn q.argsc, .slice q.namesa q.namesn q.namesc, .slice q.valsa q.valsn q.valsc, .int .u8 v.elem, .slice q.keya q.keyn q.keyc, .slice q.actsa q.actsn q.actsc, .string v.site] = .agg #[.int .u8 v.kind, .int .i64 v.n, .string v.s, .slice q.argsa q.argsn q.argsc, .slice q.namesa q.namesn q.namesc, .slice q.valsa q.valsn q.valsc, .int .u8 2, .slice q.keya q.keyn q.keyc, .slice q.actsa q.actsn q.actsc, .string v.site]) := by show _ = _; rw [he]
 replace he := hi_ he
 go_enter Tryz.func69, Tryz.ntmps69
 go_upto_region 1 with (rw [← hWS.out])
 go_cut [] (fun wx => RK w0 B b (t.must (RS.elemOk v)) ((w.heap.size, (O0_ v q)) :: bx) wx)
 case first =>
  obtain ⟨-, x1, -, -, -, -, -, x7, x8, x9⟩ := c10_ (h0.box M0_)
  replace h0 := hi_ h0
  have hok : Hid (RS.elemOk v = (decide (v.n = 0) && decide (q.actsn = 0) && decide (v.site.size = 0) && decide (q.keyn ≤ 1))) := by
   show _ = _
   rw [hL.out.acts, hL.out.key]; rfl
  clear hmx
  by_cases c1 : v.n = 0
  ·skip
   have yc10 : (v.n == 0) = true := by simp [c1]
   replace c1 := hi_ c1
   by_cases c2 : q.actsn = 0
   ·skip
    have yc20 : ((q.actsn : Int) == 0) = true := by simp [c2]
    replace c2 := hi_ c2
    by_cases c3 : v.site.size = 0
    ·skip
     have yc30 : v.site.toList = [] := by rw [size_nil]; exact c3
     have yc31 : v.site.toList.isEmpty = true := by rw [size_emp]; simp [c3]
     replace c3 := hi_ c3
     go_wp2_with (go_at_call 34; refine (cM.out _ _ h0.out (by rw [hok.out]; simp [c1.out, c2.out, c3.out]; try omega)).mono ?_)
     first | rintro e w3 rfl h3 | rintro e w3 ⟨rfl, h3⟩
     replace h3 := hi_ h3
     clear yc10 yc20 yc30 yc31
     go_wp2_with fail
     go_meet
     exact h3.out
    ·skip
     have yc30 : ¬ v.site.toList = [] := by rw [size_nil]; exact c3
     have yc31 : v.site.toList.isEmpty = false := by rw [size_emp]; simp [c3]
     have yc32 : (v.site.toList == []) = false := by rw [size_beq]; simp [c3]
     replace c3 := hi_ c3
     go_wp2_with (go_at_call 34; refine (cM.out _ _ h0.out (by rw [hok.out]; simp [c1.out, c2.out, c3.out]; try omega)).mono ?_)
     first | rintro e w3 rfl h3 | rintro e w3 ⟨rfl, h3⟩
     replace h3 := hi_ h3
     clear yc10 yc20 yc30 yc31 yc32
     go_wp2_with fail
     go_meet
     exact h3.out
   ·skip
    have yc20 : ((q.actsn : Int) == 0) = false := by simp [c2]
    replace c2 := hi_ c2
    go_wp2_with (go_at_call 34; refine (cM.out _ _ h0.out (by rw [hok.out]; simp [c1.out, c2.out]; try omega)).mono ?_)
    first | rintro e w3 rfl h3 | rintro e w3 ⟨rfl, h3⟩
    replace h3 := hi_ h3
    clear yc10 yc20
    go_wp2_with fail
    go_meet
    exact h3.out
  ·skip
   have yc10 : (v.n == 0) = false := by simp [c1]
   replace c1 := hi_ c1
   go_wp2_with (go_at_call 34; refine (cM.out _ _ h0.out (by rw [hok.out]; simp [c1.out]; try omega)).mono ?_)
   first | rintro e w3 rfl h3 | rintro e w3 ⟨rfl, h3⟩
   replace h3 := hi_ h3
   clear yc10
   go_wp2_with fail
   go_meet
   exact h3.out
 case rest =>
  obtain ⟨S2, hS2⟩ : ∃ S2, S2 = wc.alloc (.cells A24_ 9) := ⟨_, rfl⟩
  have h2a := hcut.alloc (.cells A24_ 9)
  rw [← hS2] at h2a
  have xw : S2.cell? ⟨wc.heap.size, 2, none⟩ = some (.string ⟨#[110, 101, 119]⟩) := by
   have := h2a.box M0_
   simp [World.cell?, this]
  have h2 := h2a.drop
  have hW2 : Hid (S2 = _) := hS2
  clear hS2 h2a
  replace hcut := hi_ hcut
  replace h0 := hi_ h0
  have c1a := hi_ (c1.out S2 h2)
  obtain ⟨-, -, -, -, -, -, x6, -⟩ := c10_ (h2.box M0_)
  rw [he.out] at x6
  replace h2 := hi_ h2
  go_wp2_with (first | (rw [← hW2.out]) | (go_at_call 17; refine c1a.out.mono ?_))
  first | rintro e w5 rfl h5 | rintro e w5 ⟨rfl, h5⟩
  clear x6 xw
  obtain ⟨-, -, -, -, -, -, -, x7, -⟩ := c10_ (h5.box M0_)
  go_upto_if 48 with fail
  go_cut [] (fun wx => RK w0 B b T2 ((w.heap.size, (O0_ v q)) :: bx) wx)
  case first =>
   by_cases hk0 : q.keyn = 0
   ·have k9 : v.key.length = 0 := by rw [← hkl.out]; exact hk0
    have f2' := f2.out
    rw [if_pos k9] at f2'
    have c2' := hi_ (c2.out f2' w5 h5)
    have y : ((q.keyn : Int) == 0) = true := by simp [hk0]
    replace k9 := hi_ k9
    replace h5 := hi_ h5
    clear f2' hk0
    go_wp2_with (go_at_call 17; refine c2'.out.mono ?_)
    first | rintro e w6 rfl h6 | rintro e w6 ⟨rfl, h6⟩
    replace h6 := hi_ h6
    go_wp2_with fail
    go_meet
    rw [hT2.out, if_pos k9.out]
    exact h6.out
   ·have k9 : Hid (¬ v.key.length = 0) := by show ¬ _; rw [← hkl.out]; exact hk0
    have y : ((q.keyn : Int) == 0) = false := by simp [hk0]
    replace h5 := hi_ h5
    clear hk0
    go_wp2_with fail
    go_meet
    rw [hT2.out, if_neg k9.out]
    exact h5.out
  case rest =>
   clear x7
   replace h5 := hi_ h5
   obtain ⟨-, -, -, -, -, -, -, x7, -⟩ := c10_ (hcut.box M0_)
   replace hcut := hi_ hcut
   go_wp2_with (go_at_call 37; refine (c3.out wc hcut.out).mono ?_)
   first | rintro e w7 rfl h7 | rintro e w7 ⟨rfl, h7⟩
   clear x7
   have h7 : RK w0 B b (RS.keyF v (rExs v.key) ((t.must (RS.elemOk v)).put w3_)) ((w.heap.size, (O0_ v q)) :: bx) w7 := by
    have h7' := h7
    rw [hT2.out] at h7'
    exact h7'
   obtain ⟨-, -, -, -, -, -, x6, -⟩ := c10_ (h7.box M0_)
   rw [he.out] at x6
   obtain ⟨-, -, x2, -⟩ := c10_ (h7.box M0_)
   replace h7 := hi_ h7
   go_wp2_with (go_at_call 18; refine (c4.out w7 h7.out).mono ?_)
   first | rintro e w8 rfl h8 | rintro e w8 ⟨rfl, h8⟩
   clear x6 x2
   replace h8 := hi_ h8
   go_wp2_with (go_at_call 16; refine (c5.out w8 h8.out).mono ?_)
   first | rintro e w9 rfl h9 | rintro e w9 ⟨rfl, h9⟩
   have c6a := c6.out w9 h9
   obtain ⟨x0, x1, x2, x3, x4, x5, x6, x7, x8, x9⟩ := c10_ (h9.box M0_)
   rw [hag.out] at c6a
   rw [he.out] at x6
   replace c6a := hi_ c6a
   replace h9 := hi_ h9
   go_wp2_with (go_at_call 68; refine c6a.out.mono ?_)
   first | rintro e wa rfl ha | rintro e wa ⟨rfl, ha⟩
   clear x0 x1 x2 x3 x4 x5 x6 x7 x8 x9
   replace ha := hi_ ha
   go_wp2_with (go_at_call 21; refine (c7.out wa ha.out).mono ?_)
   first | rintro e wb rfl hb | rintro e wb ⟨rfl, hb⟩
   obtain ⟨-, -, -, x3, -⟩ := c10_ (hb.box M0_)
   replace hb := hi_ hb
   go_wp2_with (go_at_call 37; refine (c9.out wb hb.out).mono ?_)
   first | rintro e wc9 rfl hc | rintro e wc9 ⟨rfl, hc⟩
   replace hc := hi_ hc.drop
   go_wp2_with fail
   exact bodyPost_end (v := .tuple #[]) (results_none (by kernel_rfl) _ _ _) rfl ⟨rfl, hc.out⟩
theorem elem3_R (w0 : World) (B b : Nat) (v : Ex) (q : QEx) (t : RS) (he : v.elem = 3) (hv : ExAt w0 B v q) (hA : ExsR w0 B b v.args) (_hV : ExsR w0 B b v.vals) (hK : ExsR w0 B b v.key) (hP : PairsR w0 B b v) : DoesR w0 B b 69 #[.pointer (some ⟨b, 0, none⟩), .agg (A0_ v q)] t (RS.elem v (rExs v.args) (rExs v.vals) (rExs v.key) (RS.pairsF v (rPairs v.vals v.names)) t) := by
 unfold A0_
 intro bx w h hF
 have hL := hi_ hv.lens
 have hmx := ExLens.maxes hv
 have hs := hv.s
 have hEq : RS.elem v (rExs v.args) (rExs v.vals) (rExs v.key) (RS.pairsF v (rPairs v.vals v.names)) t = (rExs v.args ((RS.pairsF v (rPairs v.vals v.names) (((RS.keyF v (rExs v.key) ((t.must (RS.elemOk v)).put w4_)).plain v.s).put [40])).fin)) := by
  unfold RS.elem
  rw [if_neg (by omega)]
  unfold RS.elemB
  rw [if_pos (by omega), he]; rfl
 rw [hEq] at hF ⊢
 clear hEq
 have f6 := FitR.exs hv.args hF
 have f5 : FitR (((RS.keyF v (rExs v.key) ((t.must (RS.elemOk v)).put w4_)).plain v.s).put [40]) := (FitR.pairs hv.vals (show FitR (rPairs v.vals v.names ((((RS.keyF v (rExs v.key) ((t.must (RS.elemOk v)).put w4_)).plain v.s).put [40]).must _)) from f6.fin)).must
 have f4 := f5.put
 have f3 : FitR (RS.keyF v (rExs v.key) ((t.must (RS.elemOk v)).put w4_)) := f4.plain
 have f2 : FitR (if v.key.length = 0 then ((t.must (RS.elemOk v)).put w4_).put [45] else ((t.must (RS.elemOk v)).put w4_)) := FitR.exs hv.key f3
 have f1 : FitR ((t.must (RS.elemOk v)).put w4_) := by
  split at f2
  ·exact f2.put
  ·exact f2
 have f0 : FitR (t.must (RS.elemOk v)) := f1.put
 obtain ⟨S, hS⟩ : ∃ S, S = w.alloc ((O0_ v q)) := ⟨_, rfl⟩
 have h0 : RK w0 B b t ((w.heap.size, (O0_ v q)) :: bx) S := by rw [hS]; exact h.alloc _
 have hWS : Hid (S = _) := hS
 clear hS
 replace h := hi_ h
 have cM := hi_ (must_as w0 B b t (RS.elemOk v) ((w.heap.size, (O0_ v q)) :: bx) f0)
 have c1 := hi_ (fun W hW => put_R w0 B b (t.must (RS.elemOk v)) w4_ ((w.heap.size, (O0_ v q)) :: bx) W hW f1)
 have c2 := hi_ (fun (f : FitR (((t.must (RS.elemOk v)).put w4_).put [45])) W hW => put_R w0 B b ((t.must (RS.elemOk v)).put w4_) [45] ((w.heap.size, (O0_ v q)) :: bx) W hW f)
 obtain ⟨T2, hT2⟩ : ∃ T, T = (if v.key.length = 0 then ((t.must (RS.elemOk v)).put w4_).put [45] else ((t.must (RS.elemOk v)).put w4_)) := ⟨_, rfl⟩
 have f3' : FitR (rExs v.key T2) := by rw [hT2]; exact f3
 have c3 := hi_ (fun W hW => hK _ _ q.keyc T2 hv.key ((w.heap.size, (O0_ v q)) :: bx) W hW f3')
 replace hT2 := hi_ hT2
 clear f3'
 have c4 := hi_ (fun W hW => plain_R w0 B b (RS.keyF v (rExs v.key) ((t.must (RS.elemOk v)).put w4_)) v.s hs ((w.heap.size, (O0_ v q)) :: bx) W hW f4)
 have c5 := hi_ (fun W hW => open_R w0 B b ((RS.keyF v (rExs v.key) ((t.must (RS.elemOk v)).put w4_)).plain v.s) ((w.heap.size, (O0_ v q)) :: bx) W hW f5)
 have c6 := hi_ (fun W hW => hP q (((RS.keyF v (rExs v.key) ((t.must (RS.elemOk v)).put w4_)).plain v.s).put [40]) hv ((w.heap.size, (O0_ v q)) :: bx) W hW f6.fin)
 have c7 := hi_ (fun W hW => end_R w0 B b (RS.pairsF v (rPairs v.vals v.names) (((RS.keyF v (rExs v.key) ((t.must (RS.elemOk v)).put w4_)).plain v.s).put [40])) ((w.heap.size, (O0_ v q)) :: bx) W hW f6)
 have c9 := hi_ (fun W hW => hA _ _ q.argsc ((RS.pairsF v (rPairs v.vals v.names) (((RS.keyF v (rExs v.key) ((t.must (RS.elemOk v)).put w4_)).plain v.s).put [40])).fin) hv.args ((w.heap.size, (O0_ v q)) :: bx) W hW hF)
 have hv' := hi_ hv
 have hkl := hi_ hL.out.key
 replace f2 := hi_ f2
 have f6' := hi_ f6
 have f4' := hi_ f4
 clear hF hv f0 f1 f3 f4 f6 f5
 have hag : Hid (Value.agg #[.int .u8 v.kind, .int .i64 v.n, .string v.s, .slice q.argsa q.argsn q.argsc, .slice q.namesa q.namesn q.namesc, .slice q.valsa q.valsn q.valsc, .int .u8 v.elem, .slice q.keya q.keyn q.keyc, .slice q.actsa q.actsn q.actsc, .string v.site] = .agg #[.int .u8 v.kind, .int .i64 v.n, .string v.s, .slice q.argsa q.argsn q.argsc, .slice q.namesa q.namesn q.namesc, .slice q.valsa q.valsn q.valsc, .int .u8 3, .slice q.keya q.keyn q.keyc, .slice q.actsa q.actsn q.actsc, .string v.site]) := by show _ = _; rw [he]
 replace he := hi_ he
 go_enter Tryz.func69, Tryz.ntmps69
 go_upto_region 1 with (rw [← hWS.out])
 go_cut [] (fun wx => RK w0 B b (t.must (RS.elemOk v)) ((w.heap.size, (O0_ v q)) :: bx) wx)
 case first =>
  obtain ⟨-, x1, -, -, -, -, -, x7, x8, x9⟩ := c10_ (h0.box M0_)
  replace h0 := hi_ h0
  have hok : Hid (RS.elemOk v = (decide (v.n = 0) && decide (q.actsn = 0) && decide (v.site.size = 0) && decide (q.keyn ≤ 1))) := by
   show _ = _
   rw [hL.out.acts, hL.out.key]; rfl
  clear hmx
  by_cases c1 : v.n = 0
  ·skip
   have yc10 : (v.n == 0) = true := by simp [c1]
   replace c1 := hi_ c1
   by_cases c2 : q.actsn = 0
   ·skip
    have yc20 : ((q.actsn : Int) == 0) = true := by simp [c2]
    replace c2 := hi_ c2
    by_cases c3 : v.site.size = 0
    ·skip
     have yc30 : v.site.toList = [] := by rw [size_nil]; exact c3
     have yc31 : v.site.toList.isEmpty = true := by rw [size_emp]; simp [c3]
     replace c3 := hi_ c3
     go_wp2_with (go_at_call 34; refine (cM.out _ _ h0.out (by rw [hok.out]; simp [c1.out, c2.out, c3.out]; try omega)).mono ?_)
     first | rintro e w3 rfl h3 | rintro e w3 ⟨rfl, h3⟩
     replace h3 := hi_ h3
     clear yc10 yc20 yc30 yc31
     go_wp2_with fail
     go_meet
     exact h3.out
    ·skip
     have yc30 : ¬ v.site.toList = [] := by rw [size_nil]; exact c3
     have yc31 : v.site.toList.isEmpty = false := by rw [size_emp]; simp [c3]
     have yc32 : (v.site.toList == []) = false := by rw [size_beq]; simp [c3]
     replace c3 := hi_ c3
     go_wp2_with (go_at_call 34; refine (cM.out _ _ h0.out (by rw [hok.out]; simp [c1.out, c2.out, c3.out]; try omega)).mono ?_)
     first | rintro e w3 rfl h3 | rintro e w3 ⟨rfl, h3⟩
     replace h3 := hi_ h3
     clear yc10 yc20 yc30 yc31 yc32
     go_wp2_with fail
     go_meet
     exact h3.out
   ·skip
    have yc20 : ((q.actsn : Int) == 0) = false := by simp [c2]
    replace c2 := hi_ c2
    go_wp2_with (go_at_call 34; refine (cM.out _ _ h0.out (by rw [hok.out]; simp [c1.out, c2.out]; try omega)).mono ?_)
    first | rintro e w3 rfl h3 | rintro e w3 ⟨rfl, h3⟩
    replace h3 := hi_ h3
    clear yc10 yc20
    go_wp2_with fail
    go_meet
    exact h3.out
  ·skip
   have yc10 : (v.n == 0) = false := by simp [c1]
   replace c1 := hi_ c1
   go_wp2_with (go_at_call 34; refine (cM.out _ _ h0.out (by rw [hok.out]; simp [c1.out]; try omega)).mono ?_)
   first | rintro e w3 rfl h3 | rintro e w3 ⟨rfl, h3⟩
   replace h3 := hi_ h3
   clear yc10
   go_wp2_with fail
   go_meet
   exact h3.out
 case rest =>
  obtain ⟨S2, hS2⟩ : ∃ S2, S2 = wc.alloc (.cells A24_ 9) := ⟨_, rfl⟩
  have h2a := hcut.alloc (.cells A24_ 9)
  rw [← hS2] at h2a
  have xw : S2.cell? ⟨wc.heap.size, 3, none⟩ = some (.string ⟨#[112, 117, 114, 101]⟩) := by
   have := h2a.box M0_
   simp [World.cell?, this]
  have h2 := h2a.drop
  have hW2 : Hid (S2 = _) := hS2
  clear hS2 h2a
  replace hcut := hi_ hcut
  replace h0 := hi_ h0
  have c1a := hi_ (c1.out S2 h2)
  obtain ⟨-, -, -, -, -, -, x6, -⟩ := c10_ (h2.box M0_)
  rw [he.out] at x6
  replace h2 := hi_ h2
  go_wp2_with (first | (rw [← hW2.out]) | (go_at_call 17; refine c1a.out.mono ?_))
  first | rintro e w5 rfl h5 | rintro e w5 ⟨rfl, h5⟩
  clear x6 xw
  obtain ⟨-, -, -, -, -, -, -, x7, -⟩ := c10_ (h5.box M0_)
  go_upto_if 48 with fail
  go_cut [] (fun wx => RK w0 B b T2 ((w.heap.size, (O0_ v q)) :: bx) wx)
  case first =>
   by_cases hk0 : q.keyn = 0
   ·have k9 : v.key.length = 0 := by rw [← hkl.out]; exact hk0
    have f2' := f2.out
    rw [if_pos k9] at f2'
    have c2' := hi_ (c2.out f2' w5 h5)
    have y : ((q.keyn : Int) == 0) = true := by simp [hk0]
    replace k9 := hi_ k9
    replace h5 := hi_ h5
    clear f2' hk0
    go_wp2_with (go_at_call 17; refine c2'.out.mono ?_)
    first | rintro e w6 rfl h6 | rintro e w6 ⟨rfl, h6⟩
    replace h6 := hi_ h6
    go_wp2_with fail
    go_meet
    rw [hT2.out, if_pos k9.out]
    exact h6.out
   ·have k9 : Hid (¬ v.key.length = 0) := by show ¬ _; rw [← hkl.out]; exact hk0
    have y : ((q.keyn : Int) == 0) = false := by simp [hk0]
    replace h5 := hi_ h5
    clear hk0
    go_wp2_with fail
    go_meet
    rw [hT2.out, if_neg k9.out]
    exact h5.out
  case rest =>
   clear x7
   replace h5 := hi_ h5
   obtain ⟨-, -, -, -, -, -, -, x7, -⟩ := c10_ (hcut.box M0_)
   replace hcut := hi_ hcut
   go_wp2_with (go_at_call 37; refine (c3.out wc hcut.out).mono ?_)
   first | rintro e w7 rfl h7 | rintro e w7 ⟨rfl, h7⟩
   clear x7
   have h7 : RK w0 B b (RS.keyF v (rExs v.key) ((t.must (RS.elemOk v)).put w4_)) ((w.heap.size, (O0_ v q)) :: bx) w7 := by
    have h7' := h7
    rw [hT2.out] at h7'
    exact h7'
   obtain ⟨-, -, -, -, -, -, x6, -⟩ := c10_ (h7.box M0_)
   rw [he.out] at x6
   obtain ⟨-, -, x2, -⟩ := c10_ (h7.box M0_)
   replace h7 := hi_ h7
   go_wp2_with (go_at_call 18; refine (c4.out w7 h7.out).mono ?_)
   first | rintro e w8 rfl h8 | rintro e w8 ⟨rfl, h8⟩
   clear x6 x2
   replace h8 := hi_ h8
   go_wp2_with (go_at_call 16; refine (c5.out w8 h8.out).mono ?_)
   first | rintro e w9 rfl h9 | rintro e w9 ⟨rfl, h9⟩
   have c6a := c6.out w9 h9
   obtain ⟨x0, x1, x2, x3, x4, x5, x6, x7, x8, x9⟩ := c10_ (h9.box M0_)
   rw [hag.out] at c6a
   rw [he.out] at x6
   replace c6a := hi_ c6a
   replace h9 := hi_ h9
   go_wp2_with (go_at_call 68; refine c6a.out.mono ?_)
   first | rintro e wa rfl ha | rintro e wa ⟨rfl, ha⟩
   clear x0 x1 x2 x3 x4 x5 x6 x7 x8 x9
   replace ha := hi_ ha
   go_wp2_with (go_at_call 21; refine (c7.out wa ha.out).mono ?_)
   first | rintro e wb rfl hb | rintro e wb ⟨rfl, hb⟩
   obtain ⟨-, -, -, x3, -⟩ := c10_ (hb.box M0_)
   replace hb := hi_ hb
   go_wp2_with (go_at_call 37; refine (c9.out wb hb.out).mono ?_)
   first | rintro e wc9 rfl hc | rintro e wc9 ⟨rfl, hc⟩
   replace hc := hi_ hc.drop
   go_wp2_with fail
   exact bodyPost_end (v := .tuple #[]) (results_none (by kernel_rfl) _ _ _) rfl ⟨rfl, hc.out⟩
theorem elem4_R (w0 : World) (B b : Nat) (v : Ex) (q : QEx) (t : RS) (he : v.elem = 4) (hv : ExAt w0 B v q) (hA : ExsR w0 B b v.args) (hV : ExsR w0 B b v.vals) (hK : ExsR w0 B b v.key) (_hP : PairsR w0 B b v) : DoesR w0 B b 69 #[.pointer (some ⟨b, 0, none⟩), .agg (A0_ v q)] t (RS.elem v (rExs v.args) (rExs v.vals) (rExs v.key) (RS.pairsF v (rPairs v.vals v.names)) t) := by
 unfold A0_
 intro bx w h hF
 have hL := hi_ hv.lens
 have hmx := ExLens.maxes hv
 have hs := hv.s
 have hEq : RS.elem v (rExs v.args) (rExs v.vals) (rExs v.key) (RS.pairsF v (rPairs v.vals v.names)) t = (rExs v.args (RS.named v [] (rExs v.vals) ((RS.keyF v (rExs v.key) ((t.must (RS.elemOk v)).put w5_)).must (decide (v.s.size = 0))))) := by
  unfold RS.elem
  rw [if_neg (by omega)]
  unfold RS.elemB
  rw [if_neg (by omega), if_pos he, he]; rfl
 rw [hEq] at hF ⊢
 clear hEq
 have f6 := FitR.exs hv.args hF
 have f4 : FitR ((RS.keyF v (rExs v.key) ((t.must (RS.elemOk v)).put w5_)).must (decide (v.s.size = 0))) := (FitR.exs hv.vals (show FitR (rExs v.vals (((RS.keyF v (rExs v.key) ((t.must (RS.elemOk v)).put w5_)).must (decide (v.s.size = 0))).must _)) from f6)).must
 have f3 : FitR (RS.keyF v (rExs v.key) ((t.must (RS.elemOk v)).put w5_)) := f4.must
 have f2 : FitR (if v.key.length = 0 then ((t.must (RS.elemOk v)).put w5_).put [45] else ((t.must (RS.elemOk v)).put w5_)) := FitR.exs hv.key f3
 have f1 : FitR ((t.must (RS.elemOk v)).put w5_) := by
  split at f2
  ·exact f2.put
  ·exact f2
 have f0 : FitR (t.must (RS.elemOk v)) := f1.put
 obtain ⟨S, hS⟩ : ∃ S, S = w.alloc ((O0_ v q)) := ⟨_, rfl⟩
 have h0 : RK w0 B b t ((w.heap.size, (O0_ v q)) :: bx) S := by rw [hS]; exact h.alloc _
 have hWS : Hid (S = _) := hS
 clear hS
 replace h := hi_ h
 have cM := hi_ (must_as w0 B b t (RS.elemOk v) ((w.heap.size, (O0_ v q)) :: bx) f0)
 have c1 := hi_ (fun W hW => put_R w0 B b (t.must (RS.elemOk v)) w5_ ((w.heap.size, (O0_ v q)) :: bx) W hW f1)
 have c2 := hi_ (fun (f : FitR (((t.must (RS.elemOk v)).put w5_).put [45])) W hW => put_R w0 B b ((t.must (RS.elemOk v)).put w5_) [45] ((w.heap.size, (O0_ v q)) :: bx) W hW f)
 obtain ⟨T2, hT2⟩ : ∃ T, T = (if v.key.length = 0 then ((t.must (RS.elemOk v)).put w5_).put [45] else ((t.must (RS.elemOk v)).put w5_)) := ⟨_, rfl⟩
 have f3' : FitR (rExs v.key T2) := by rw [hT2]; exact f3
 have c3 := hi_ (fun W hW => hK _ _ q.keyc T2 hv.key ((w.heap.size, (O0_ v q)) :: bx) W hW f3')
 replace hT2 := hi_ hT2
 clear f3'
 have c4 := hi_ (must_as w0 B b (RS.keyF v (rExs v.key) ((t.must (RS.elemOk v)).put w5_)) (decide (v.s.size = 0)) ((w.heap.size, (O0_ v q)) :: bx) f4)
 have c9 := hi_ (fun W hW => hA _ _ q.argsc (RS.named v [] (rExs v.vals) ((RS.keyF v (rExs v.key) ((t.must (RS.elemOk v)).put w5_)).must (decide (v.s.size = 0)))) hv.args ((w.heap.size, (O0_ v q)) :: bx) W hW hF)
 have hv' := hi_ hv
 have hkl := hi_ hL.out.key
 replace f2 := hi_ f2
 have f6' := hi_ f6
 have f4' := hi_ f4
 clear hF hv f0 f1 f3 f4 f6 
 have hag : Hid (Value.agg #[.int .u8 v.kind, .int .i64 v.n, .string v.s, .slice q.argsa q.argsn q.argsc, .slice q.namesa q.namesn q.namesc, .slice q.valsa q.valsn q.valsc, .int .u8 v.elem, .slice q.keya q.keyn q.keyc, .slice q.actsa q.actsn q.actsc, .string v.site] = .agg #[.int .u8 v.kind, .int .i64 v.n, .string v.s, .slice q.argsa q.argsn q.argsc, .slice q.namesa q.namesn q.namesc, .slice q.valsa q.valsn q.valsc, .int .u8 4, .slice q.keya q.keyn q.keyc, .slice q.actsa q.actsn q.actsc, .string v.site]) := by show _ = _; rw [he]
 replace he := hi_ he
 go_enter Tryz.func69, Tryz.ntmps69
 go_upto_region 1 with (rw [← hWS.out])
 go_cut [] (fun wx => RK w0 B b (t.must (RS.elemOk v)) ((w.heap.size, (O0_ v q)) :: bx) wx)
 case first =>
  obtain ⟨-, x1, -, -, -, -, -, x7, x8, x9⟩ := c10_ (h0.box M0_)
  replace h0 := hi_ h0
  have hok : Hid (RS.elemOk v = (decide (v.n = 0) && decide (q.actsn = 0) && decide (v.site.size = 0) && decide (q.keyn ≤ 1))) := by
   show _ = _
   rw [hL.out.acts, hL.out.key]; rfl
  clear hmx
  by_cases c1 : v.n = 0
  ·skip
   have yc10 : (v.n == 0) = true := by simp [c1]
   replace c1 := hi_ c1
   by_cases c2 : q.actsn = 0
   ·skip
    have yc20 : ((q.actsn : Int) == 0) = true := by simp [c2]
    replace c2 := hi_ c2
    by_cases c3 : v.site.size = 0
    ·skip
     have yc30 : v.site.toList = [] := by rw [size_nil]; exact c3
     have yc31 : v.site.toList.isEmpty = true := by rw [size_emp]; simp [c3]
     replace c3 := hi_ c3
     go_wp2_with (go_at_call 34; refine (cM.out _ _ h0.out (by rw [hok.out]; simp [c1.out, c2.out, c3.out]; try omega)).mono ?_)
     first | rintro e w3 rfl h3 | rintro e w3 ⟨rfl, h3⟩
     replace h3 := hi_ h3
     clear yc10 yc20 yc30 yc31
     go_wp2_with fail
     go_meet
     exact h3.out
    ·skip
     have yc30 : ¬ v.site.toList = [] := by rw [size_nil]; exact c3
     have yc31 : v.site.toList.isEmpty = false := by rw [size_emp]; simp [c3]
     have yc32 : (v.site.toList == []) = false := by rw [size_beq]; simp [c3]
     replace c3 := hi_ c3
     go_wp2_with (go_at_call 34; refine (cM.out _ _ h0.out (by rw [hok.out]; simp [c1.out, c2.out, c3.out]; try omega)).mono ?_)
     first | rintro e w3 rfl h3 | rintro e w3 ⟨rfl, h3⟩
     replace h3 := hi_ h3
     clear yc10 yc20 yc30 yc31 yc32
     go_wp2_with fail
     go_meet
     exact h3.out
   ·skip
    have yc20 : ((q.actsn : Int) == 0) = false := by simp [c2]
    replace c2 := hi_ c2
    go_wp2_with (go_at_call 34; refine (cM.out _ _ h0.out (by rw [hok.out]; simp [c1.out, c2.out]; try omega)).mono ?_)
    first | rintro e w3 rfl h3 | rintro e w3 ⟨rfl, h3⟩
    replace h3 := hi_ h3
    clear yc10 yc20
    go_wp2_with fail
    go_meet
    exact h3.out
  ·skip
   have yc10 : (v.n == 0) = false := by simp [c1]
   replace c1 := hi_ c1
   go_wp2_with (go_at_call 34; refine (cM.out _ _ h0.out (by rw [hok.out]; simp [c1.out]; try omega)).mono ?_)
   first | rintro e w3 rfl h3 | rintro e w3 ⟨rfl, h3⟩
   replace h3 := hi_ h3
   clear yc10
   go_wp2_with fail
   go_meet
   exact h3.out
 case rest =>
  obtain ⟨S2, hS2⟩ : ∃ S2, S2 = wc.alloc (.cells A24_ 9) := ⟨_, rfl⟩
  have h2a := hcut.alloc (.cells A24_ 9)
  rw [← hS2] at h2a
  have xw : S2.cell? ⟨wc.heap.size, 4, none⟩ = some (.string ⟨#[102, 114, 97, 103]⟩) := by
   have := h2a.box M0_
   simp [World.cell?, this]
  have h2 := h2a.drop
  have hW2 : Hid (S2 = _) := hS2
  clear hS2 h2a
  replace hcut := hi_ hcut
  replace h0 := hi_ h0
  have c1a := hi_ (c1.out S2 h2)
  obtain ⟨-, -, -, -, -, -, x6, -⟩ := c10_ (h2.box M0_)
  rw [he.out] at x6
  replace h2 := hi_ h2
  go_wp2_with (first | (rw [← hW2.out]) | (go_at_call 17; refine c1a.out.mono ?_))
  first | rintro e w5 rfl h5 | rintro e w5 ⟨rfl, h5⟩
  clear x6 xw
  obtain ⟨-, -, -, -, -, -, -, x7, -⟩ := c10_ (h5.box M0_)
  go_upto_if 48 with fail
  go_cut [] (fun wx => RK w0 B b T2 ((w.heap.size, (O0_ v q)) :: bx) wx)
  case first =>
   by_cases hk0 : q.keyn = 0
   ·have k9 : v.key.length = 0 := by rw [← hkl.out]; exact hk0
    have f2' := f2.out
    rw [if_pos k9] at f2'
    have c2' := hi_ (c2.out f2' w5 h5)
    have y : ((q.keyn : Int) == 0) = true := by simp [hk0]
    replace k9 := hi_ k9
    replace h5 := hi_ h5
    clear f2' hk0
    go_wp2_with (go_at_call 17; refine c2'.out.mono ?_)
    first | rintro e w6 rfl h6 | rintro e w6 ⟨rfl, h6⟩
    replace h6 := hi_ h6
    go_wp2_with fail
    go_meet
    rw [hT2.out, if_pos k9.out]
    exact h6.out
   ·have k9 : Hid (¬ v.key.length = 0) := by show ¬ _; rw [← hkl.out]; exact hk0
    have y : ((q.keyn : Int) == 0) = false := by simp [hk0]
    replace h5 := hi_ h5
    clear hk0
    go_wp2_with fail
    go_meet
    rw [hT2.out, if_neg k9.out]
    exact h5.out
  case rest =>
   clear x7
   replace h5 := hi_ h5
   obtain ⟨-, -, -, -, -, -, -, x7, -⟩ := c10_ (hcut.box M0_)
   replace hcut := hi_ hcut
   go_wp2_with (go_at_call 37; refine (c3.out wc hcut.out).mono ?_)
   first | rintro e w7 rfl h7 | rintro e w7 ⟨rfl, h7⟩
   clear x7
   have h7 : RK w0 B b (RS.keyF v (rExs v.key) ((t.must (RS.elemOk v)).put w5_)) ((w.heap.size, (O0_ v q)) :: bx) w7 := by
    have h7' := h7
    rw [hT2.out] at h7'
    exact h7'
   obtain ⟨-, -, -, -, -, -, x6, -⟩ := c10_ (h7.box M0_)
   rw [he.out] at x6
   obtain ⟨-, -, x2, -⟩ := c10_ (h7.box M0_)
   replace h7 := hi_ h7
   go_wp2_with (go_at_call 34; refine (c4.out _ _ h7.out (by (first | rw [size_beq] | rw [size_emp] | simp [size_nil]))).mono ?_)
   first | rintro e w8 rfl h8 | rintro e w8 ⟨rfl, h8⟩
   clear x6 x2
   have c6a := named_R w0 B b v q [] none 0 ((RS.keyF v (rExs v.key) ((t.must (RS.elemOk v)).put w5_)).must (decide (v.s.size = 0))) ((w.heap.size, (O0_ v q)) :: bx) w8 hv'.out hV (by decide) h8 (.inl rfl) (show FitR (RS.named v [] (rExs v.vals) ((RS.keyF v (rExs v.key) ((t.must (RS.elemOk v)).put w5_)).must (decide (v.s.size = 0)))) from f6'.out)
   obtain ⟨x0, x1, x2, x3, x4, x5, x6, x7, x8, x9⟩ := c10_ (h8.box M0_)
   rw [hag.out] at c6a
   rw [he.out] at x6
   replace c6a := hi_ c6a
   replace h8 := hi_ h8
   go_wp2_with (go_at_call 98; refine c6a.out.mono ?_)
   first | rintro e wb rfl hb | rintro e wb ⟨rfl, hb⟩
   clear x0 x1 x2 x3 x4 x5 x6 x7 x8 x9
   obtain ⟨-, -, -, x3, -⟩ := c10_ (hb.box M0_)
   replace hb := hi_ hb
   go_wp2_with (go_at_call 37; refine (c9.out wb hb.out).mono ?_)
   first | rintro e wc9 rfl hc | rintro e wc9 ⟨rfl, hc⟩
   replace hc := hi_ hc.drop
   go_wp2_with fail
   exact bodyPost_end (v := .tuple #[]) (results_none (by kernel_rfl) _ _ _) rfl ⟨rfl, hc.out⟩
theorem elem5_R (w0 : World) (B b : Nat) (v : Ex) (q : QEx) (t : RS) (he : v.elem = 5) (hv : ExAt w0 B v q) (hA : ExsR w0 B b v.args) (hV : ExsR w0 B b v.vals) (hK : ExsR w0 B b v.key) (_hP : PairsR w0 B b v) : DoesR w0 B b 69 #[.pointer (some ⟨b, 0, none⟩), .agg (A0_ v q)] t (RS.elem v (rExs v.args) (rExs v.vals) (rExs v.key) (RS.pairsF v (rPairs v.vals v.names)) t) := by
 unfold A0_
 intro bx w h hF
 have hL := hi_ hv.lens
 have hmx := ExLens.maxes hv
 have hs := hv.s
 have hEq : RS.elem v (rExs v.args) (rExs v.vals) (rExs v.key) (RS.pairsF v (rPairs v.vals v.names)) t = (rExs v.args (RS.named v [] (rExs v.vals) ((RS.keyF v (rExs v.key) ((t.must (RS.elemOk v)).put w6_)).plain v.s))) := by
  unfold RS.elem
  rw [if_neg (by omega)]
  unfold RS.elemB
  rw [if_neg (by omega), if_neg (by omega), if_pos he, he]; rfl
 rw [hEq] at hF ⊢
 clear hEq
 have f6 := FitR.exs hv.args hF
 have f4 : FitR ((RS.keyF v (rExs v.key) ((t.must (RS.elemOk v)).put w6_)).plain v.s) := (FitR.exs hv.vals (show FitR (rExs v.vals (((RS.keyF v (rExs v.key) ((t.must (RS.elemOk v)).put w6_)).plain v.s).must _)) from f6)).must
 have f3 : FitR (RS.keyF v (rExs v.key) ((t.must (RS.elemOk v)).put w6_)) := f4.plain
 have f2 : FitR (if v.key.length = 0 then ((t.must (RS.elemOk v)).put w6_).put [45] else ((t.must (RS.elemOk v)).put w6_)) := FitR.exs hv.key f3
 have f1 : FitR ((t.must (RS.elemOk v)).put w6_) := by
  split at f2
  ·exact f2.put
  ·exact f2
 have f0 : FitR (t.must (RS.elemOk v)) := f1.put
 obtain ⟨S, hS⟩ : ∃ S, S = w.alloc ((O0_ v q)) := ⟨_, rfl⟩
 have h0 : RK w0 B b t ((w.heap.size, (O0_ v q)) :: bx) S := by rw [hS]; exact h.alloc _
 have hWS : Hid (S = _) := hS
 clear hS
 replace h := hi_ h
 have cM := hi_ (must_as w0 B b t (RS.elemOk v) ((w.heap.size, (O0_ v q)) :: bx) f0)
 have c1 := hi_ (fun W hW => put_R w0 B b (t.must (RS.elemOk v)) w6_ ((w.heap.size, (O0_ v q)) :: bx) W hW f1)
 have c2 := hi_ (fun (f : FitR (((t.must (RS.elemOk v)).put w6_).put [45])) W hW => put_R w0 B b ((t.must (RS.elemOk v)).put w6_) [45] ((w.heap.size, (O0_ v q)) :: bx) W hW f)
 obtain ⟨T2, hT2⟩ : ∃ T, T = (if v.key.length = 0 then ((t.must (RS.elemOk v)).put w6_).put [45] else ((t.must (RS.elemOk v)).put w6_)) := ⟨_, rfl⟩
 have f3' : FitR (rExs v.key T2) := by rw [hT2]; exact f3
 have c3 := hi_ (fun W hW => hK _ _ q.keyc T2 hv.key ((w.heap.size, (O0_ v q)) :: bx) W hW f3')
 replace hT2 := hi_ hT2
 clear f3'
 have c4 := hi_ (fun W hW => plain_R w0 B b (RS.keyF v (rExs v.key) ((t.must (RS.elemOk v)).put w6_)) v.s hs ((w.heap.size, (O0_ v q)) :: bx) W hW f4)
 have c9 := hi_ (fun W hW => hA _ _ q.argsc (RS.named v [] (rExs v.vals) ((RS.keyF v (rExs v.key) ((t.must (RS.elemOk v)).put w6_)).plain v.s)) hv.args ((w.heap.size, (O0_ v q)) :: bx) W hW hF)
 have hv' := hi_ hv
 have hkl := hi_ hL.out.key
 replace f2 := hi_ f2
 have f6' := hi_ f6
 have f4' := hi_ f4
 clear hF hv f0 f1 f3 f4 f6 
 have hag : Hid (Value.agg #[.int .u8 v.kind, .int .i64 v.n, .string v.s, .slice q.argsa q.argsn q.argsc, .slice q.namesa q.namesn q.namesc, .slice q.valsa q.valsn q.valsc, .int .u8 v.elem, .slice q.keya q.keyn q.keyc, .slice q.actsa q.actsn q.actsc, .string v.site] = .agg #[.int .u8 v.kind, .int .i64 v.n, .string v.s, .slice q.argsa q.argsn q.argsc, .slice q.namesa q.namesn q.namesc, .slice q.valsa q.valsn q.valsc, .int .u8 5, .slice q.keya q.keyn q.keyc, .slice q.actsa q.actsn q.actsc, .string v.site]) := by show _ = _; rw [he]
 replace he := hi_ he
 go_enter Tryz.func69, Tryz.ntmps69
 go_upto_region 1 with (rw [← hWS.out])
 go_cut [] (fun wx => RK w0 B b (t.must (RS.elemOk v)) ((w.heap.size, (O0_ v q)) :: bx) wx)
 case first =>
  obtain ⟨-, x1, -, -, -, -, -, x7, x8, x9⟩ := c10_ (h0.box M0_)
  replace h0 := hi_ h0
  have hok : Hid (RS.elemOk v = (decide (v.n = 0) && decide (q.actsn = 0) && decide (v.site.size = 0) && decide (q.keyn ≤ 1))) := by
   show _ = _
   rw [hL.out.acts, hL.out.key]; rfl
  clear hmx
  by_cases c1 : v.n = 0
  ·skip
   have yc10 : (v.n == 0) = true := by simp [c1]
   replace c1 := hi_ c1
   by_cases c2 : q.actsn = 0
   ·skip
    have yc20 : ((q.actsn : Int) == 0) = true := by simp [c2]
    replace c2 := hi_ c2
    by_cases c3 : v.site.size = 0
    ·skip
     have yc30 : v.site.toList = [] := by rw [size_nil]; exact c3
     have yc31 : v.site.toList.isEmpty = true := by rw [size_emp]; simp [c3]
     replace c3 := hi_ c3
     go_wp2_with (go_at_call 34; refine (cM.out _ _ h0.out (by rw [hok.out]; simp [c1.out, c2.out, c3.out]; try omega)).mono ?_)
     first | rintro e w3 rfl h3 | rintro e w3 ⟨rfl, h3⟩
     replace h3 := hi_ h3
     clear yc10 yc20 yc30 yc31
     go_wp2_with fail
     go_meet
     exact h3.out
    ·skip
     have yc30 : ¬ v.site.toList = [] := by rw [size_nil]; exact c3
     have yc31 : v.site.toList.isEmpty = false := by rw [size_emp]; simp [c3]
     have yc32 : (v.site.toList == []) = false := by rw [size_beq]; simp [c3]
     replace c3 := hi_ c3
     go_wp2_with (go_at_call 34; refine (cM.out _ _ h0.out (by rw [hok.out]; simp [c1.out, c2.out, c3.out]; try omega)).mono ?_)
     first | rintro e w3 rfl h3 | rintro e w3 ⟨rfl, h3⟩
     replace h3 := hi_ h3
     clear yc10 yc20 yc30 yc31 yc32
     go_wp2_with fail
     go_meet
     exact h3.out
   ·skip
    have yc20 : ((q.actsn : Int) == 0) = false := by simp [c2]
    replace c2 := hi_ c2
    go_wp2_with (go_at_call 34; refine (cM.out _ _ h0.out (by rw [hok.out]; simp [c1.out, c2.out]; try omega)).mono ?_)
    first | rintro e w3 rfl h3 | rintro e w3 ⟨rfl, h3⟩
    replace h3 := hi_ h3
    clear yc10 yc20
    go_wp2_with fail
    go_meet
    exact h3.out
  ·skip
   have yc10 : (v.n == 0) = false := by simp [c1]
   replace c1 := hi_ c1
   go_wp2_with (go_at_call 34; refine (cM.out _ _ h0.out (by rw [hok.out]; simp [c1.out]; try omega)).mono ?_)
   first | rintro e w3 rfl h3 | rintro e w3 ⟨rfl, h3⟩
   replace h3 := hi_ h3
   clear yc10
   go_wp2_with fail
   go_meet
   exact h3.out
 case rest =>
  obtain ⟨S2, hS2⟩ : ∃ S2, S2 = wc.alloc (.cells A24_ 9) := ⟨_, rfl⟩
  have h2a := hcut.alloc (.cells A24_ 9)
  rw [← hS2] at h2a
  have xw : S2.cell? ⟨wc.heap.size, 5, none⟩ = some (.string ⟨#[112, 111, 114, 116, 97, 108]⟩) := by
   have := h2a.box M0_
   simp [World.cell?, this]
  have h2 := h2a.drop
  have hW2 : Hid (S2 = _) := hS2
  clear hS2 h2a
  replace hcut := hi_ hcut
  replace h0 := hi_ h0
  have c1a := hi_ (c1.out S2 h2)
  obtain ⟨-, -, -, -, -, -, x6, -⟩ := c10_ (h2.box M0_)
  rw [he.out] at x6
  replace h2 := hi_ h2
  go_wp2_with (first | (rw [← hW2.out]) | (go_at_call 17; refine c1a.out.mono ?_))
  first | rintro e w5 rfl h5 | rintro e w5 ⟨rfl, h5⟩
  clear x6 xw
  obtain ⟨-, -, -, -, -, -, -, x7, -⟩ := c10_ (h5.box M0_)
  go_upto_if 48 with fail
  go_cut [] (fun wx => RK w0 B b T2 ((w.heap.size, (O0_ v q)) :: bx) wx)
  case first =>
   by_cases hk0 : q.keyn = 0
   ·have k9 : v.key.length = 0 := by rw [← hkl.out]; exact hk0
    have f2' := f2.out
    rw [if_pos k9] at f2'
    have c2' := hi_ (c2.out f2' w5 h5)
    have y : ((q.keyn : Int) == 0) = true := by simp [hk0]
    replace k9 := hi_ k9
    replace h5 := hi_ h5
    clear f2' hk0
    go_wp2_with (go_at_call 17; refine c2'.out.mono ?_)
    first | rintro e w6 rfl h6 | rintro e w6 ⟨rfl, h6⟩
    replace h6 := hi_ h6
    go_wp2_with fail
    go_meet
    rw [hT2.out, if_pos k9.out]
    exact h6.out
   ·have k9 : Hid (¬ v.key.length = 0) := by show ¬ _; rw [← hkl.out]; exact hk0
    have y : ((q.keyn : Int) == 0) = false := by simp [hk0]
    replace h5 := hi_ h5
    clear hk0
    go_wp2_with fail
    go_meet
    rw [hT2.out, if_neg k9.out]
    exact h5.out
  case rest =>
   clear x7
   replace h5 := hi_ h5
   obtain ⟨-, -, -, -, -, -, -, x7, -⟩ := c10_ (hcut.box M0_)
   replace hcut := hi_ hcut
   go_wp2_with (go_at_call 37; refine (c3.out wc hcut.out).mono ?_)
   first | rintro e w7 rfl h7 | rintro e w7 ⟨rfl, h7⟩
   clear x7
   have h7 : RK w0 B b (RS.keyF v (rExs v.key) ((t.must (RS.elemOk v)).put w6_)) ((w.heap.size, (O0_ v q)) :: bx) w7 := by
    have h7' := h7
    rw [hT2.out] at h7'
    exact h7'
   obtain ⟨-, -, -, -, -, -, x6, -⟩ := c10_ (h7.box M0_)
   rw [he.out] at x6
   obtain ⟨-, -, x2, -⟩ := c10_ (h7.box M0_)
   replace h7 := hi_ h7
   go_wp2_with (go_at_call 18; refine (c4.out w7 h7.out).mono ?_)
   first | rintro e w8 rfl h8 | rintro e w8 ⟨rfl, h8⟩
   clear x6 x2
   have c6a := named_R w0 B b v q [] none 0 ((RS.keyF v (rExs v.key) ((t.must (RS.elemOk v)).put w6_)).plain v.s) ((w.heap.size, (O0_ v q)) :: bx) w8 hv'.out hV (by decide) h8 (.inl rfl) (show FitR (RS.named v [] (rExs v.vals) ((RS.keyF v (rExs v.key) ((t.must (RS.elemOk v)).put w6_)).plain v.s)) from f6'.out)
   obtain ⟨x0, x1, x2, x3, x4, x5, x6, x7, x8, x9⟩ := c10_ (h8.box M0_)
   rw [hag.out] at c6a
   rw [he.out] at x6
   replace c6a := hi_ c6a
   replace h8 := hi_ h8
   go_wp2_with (go_at_call 98; refine c6a.out.mono ?_)
   first | rintro e wb rfl hb | rintro e wb ⟨rfl, hb⟩
   clear x0 x1 x2 x3 x4 x5 x6 x7 x8 x9
   obtain ⟨-, -, -, x3, -⟩ := c10_ (hb.box M0_)
   replace hb := hi_ hb
   go_wp2_with (go_at_call 37; refine (c9.out wb hb.out).mono ?_)
   first | rintro e wc9 rfl hc | rintro e wc9 ⟨rfl, hc⟩
   replace hc := hi_ hc.drop
   go_wp2_with fail
   exact bodyPost_end (v := .tuple #[]) (results_none (by kernel_rfl) _ _ _) rfl ⟨rfl, hc.out⟩
theorem elem6_R (w0 : World) (B b : Nat) (v : Ex) (q : QEx) (t : RS) (he : v.elem = 6) (hv : ExAt w0 B v q) (hA : ExsR w0 B b v.args) (hV : ExsR w0 B b v.vals) (hK : ExsR w0 B b v.key) (_hP : PairsR w0 B b v) : DoesR w0 B b 69 #[.pointer (some ⟨b, 0, none⟩), .agg (A0_ v q)] t (RS.elem v (rExs v.args) (rExs v.vals) (rExs v.key) (RS.pairsF v (rPairs v.vals v.names)) t) := by
 unfold A0_
 intro bx w h hF
 have hL := hi_ hv.lens
 have hmx := ExLens.maxes hv
 have hs := hv.s
 have hEq : RS.elem v (rExs v.args) (rExs v.vals) (rExs v.key) (RS.pairsF v (rPairs v.vals v.names)) t = (rExs v.args (RS.named v [bs w7_] (rExs v.vals) ((RS.keyF v (rExs v.key) ((t.must (RS.elemOk v)).put w8_)).plain v.s))) := by
  unfold RS.elem
  rw [if_neg (by omega)]
  unfold RS.elemB
  rw [if_neg (by omega), if_neg (by omega), if_neg (by omega), if_pos he, he]; rfl
 rw [hEq] at hF ⊢
 clear hEq
 have f6 := FitR.exs hv.args hF
 have f4 : FitR ((RS.keyF v (rExs v.key) ((t.must (RS.elemOk v)).put w8_)).plain v.s) := (FitR.exs hv.vals (show FitR (rExs v.vals (((RS.keyF v (rExs v.key) ((t.must (RS.elemOk v)).put w8_)).plain v.s).must _)) from f6)).must
 have f3 : FitR (RS.keyF v (rExs v.key) ((t.must (RS.elemOk v)).put w8_)) := f4.plain
 have f2 : FitR (if v.key.length = 0 then ((t.must (RS.elemOk v)).put w8_).put [45] else ((t.must (RS.elemOk v)).put w8_)) := FitR.exs hv.key f3
 have f1 : FitR ((t.must (RS.elemOk v)).put w8_) := by
  split at f2
  ·exact f2.put
  ·exact f2
 have f0 : FitR (t.must (RS.elemOk v)) := f1.put
 obtain ⟨S, hS⟩ : ∃ S, S = w.alloc ((O0_ v q)) := ⟨_, rfl⟩
 have h0 : RK w0 B b t ((w.heap.size, (O0_ v q)) :: bx) S := by rw [hS]; exact h.alloc _
 have hWS : Hid (S = _) := hS
 clear hS
 replace h := hi_ h
 have cM := hi_ (must_as w0 B b t (RS.elemOk v) ((w.heap.size, (O0_ v q)) :: bx) f0)
 have c1 := hi_ (fun W hW => put_R w0 B b (t.must (RS.elemOk v)) w8_ ((w.heap.size, (O0_ v q)) :: bx) W hW f1)
 have c2 := hi_ (fun (f : FitR (((t.must (RS.elemOk v)).put w8_).put [45])) W hW => put_R w0 B b ((t.must (RS.elemOk v)).put w8_) [45] ((w.heap.size, (O0_ v q)) :: bx) W hW f)
 obtain ⟨T2, hT2⟩ : ∃ T, T = (if v.key.length = 0 then ((t.must (RS.elemOk v)).put w8_).put [45] else ((t.must (RS.elemOk v)).put w8_)) := ⟨_, rfl⟩
 have f3' : FitR (rExs v.key T2) := by rw [hT2]; exact f3
 have c3 := hi_ (fun W hW => hK _ _ q.keyc T2 hv.key ((w.heap.size, (O0_ v q)) :: bx) W hW f3')
 replace hT2 := hi_ hT2
 clear f3'
 have c4 := hi_ (fun W hW => plain_R w0 B b (RS.keyF v (rExs v.key) ((t.must (RS.elemOk v)).put w8_)) v.s hs ((w.heap.size, (O0_ v q)) :: bx) W hW f4)
 have c9 := hi_ (fun W hW => hA _ _ q.argsc (RS.named v [bs w7_] (rExs v.vals) ((RS.keyF v (rExs v.key) ((t.must (RS.elemOk v)).put w8_)).plain v.s)) hv.args ((w.heap.size, (O0_ v q)) :: bx) W hW hF)
 have hv' := hi_ hv
 have hkl := hi_ hL.out.key
 replace f2 := hi_ f2
 have f6' := hi_ f6
 have f4' := hi_ f4
 clear hF hv f0 f1 f3 f4 f6 
 have hag : Hid (Value.agg #[.int .u8 v.kind, .int .i64 v.n, .string v.s, .slice q.argsa q.argsn q.argsc, .slice q.namesa q.namesn q.namesc, .slice q.valsa q.valsn q.valsc, .int .u8 v.elem, .slice q.keya q.keyn q.keyc, .slice q.actsa q.actsn q.actsc, .string v.site] = .agg #[.int .u8 v.kind, .int .i64 v.n, .string v.s, .slice q.argsa q.argsn q.argsc, .slice q.namesa q.namesn q.namesc, .slice q.valsa q.valsn q.valsc, .int .u8 6, .slice q.keya q.keyn q.keyc, .slice q.actsa q.actsn q.actsc, .string v.site]) := by show _ = _; rw [he]
 replace he := hi_ he
 go_enter Tryz.func69, Tryz.ntmps69
 go_upto_region 1 with (rw [← hWS.out])
 go_cut [] (fun wx => RK w0 B b (t.must (RS.elemOk v)) ((w.heap.size, (O0_ v q)) :: bx) wx)
 case first =>
  obtain ⟨-, x1, -, -, -, -, -, x7, x8, x9⟩ := c10_ (h0.box M0_)
  replace h0 := hi_ h0
  have hok : Hid (RS.elemOk v = (decide (v.n = 0) && decide (q.actsn = 0) && decide (v.site.size = 0) && decide (q.keyn ≤ 1))) := by
   show _ = _
   rw [hL.out.acts, hL.out.key]; rfl
  clear hmx
  by_cases c1 : v.n = 0
  ·skip
   have yc10 : (v.n == 0) = true := by simp [c1]
   replace c1 := hi_ c1
   by_cases c2 : q.actsn = 0
   ·skip
    have yc20 : ((q.actsn : Int) == 0) = true := by simp [c2]
    replace c2 := hi_ c2
    by_cases c3 : v.site.size = 0
    ·skip
     have yc30 : v.site.toList = [] := by rw [size_nil]; exact c3
     have yc31 : v.site.toList.isEmpty = true := by rw [size_emp]; simp [c3]
     replace c3 := hi_ c3
     go_wp2_with (go_at_call 34; refine (cM.out _ _ h0.out (by rw [hok.out]; simp [c1.out, c2.out, c3.out]; try omega)).mono ?_)
     first | rintro e w3 rfl h3 | rintro e w3 ⟨rfl, h3⟩
     replace h3 := hi_ h3
     clear yc10 yc20 yc30 yc31
     go_wp2_with fail
     go_meet
     exact h3.out
    ·skip
     have yc30 : ¬ v.site.toList = [] := by rw [size_nil]; exact c3
     have yc31 : v.site.toList.isEmpty = false := by rw [size_emp]; simp [c3]
     have yc32 : (v.site.toList == []) = false := by rw [size_beq]; simp [c3]
     replace c3 := hi_ c3
     go_wp2_with (go_at_call 34; refine (cM.out _ _ h0.out (by rw [hok.out]; simp [c1.out, c2.out, c3.out]; try omega)).mono ?_)
     first | rintro e w3 rfl h3 | rintro e w3 ⟨rfl, h3⟩
     replace h3 := hi_ h3
     clear yc10 yc20 yc30 yc31 yc32
     go_wp2_with fail
     go_meet
     exact h3.out
   ·skip
    have yc20 : ((q.actsn : Int) == 0) = false := by simp [c2]
    replace c2 := hi_ c2
    go_wp2_with (go_at_call 34; refine (cM.out _ _ h0.out (by rw [hok.out]; simp [c1.out, c2.out]; try omega)).mono ?_)
    first | rintro e w3 rfl h3 | rintro e w3 ⟨rfl, h3⟩
    replace h3 := hi_ h3
    clear yc10 yc20
    go_wp2_with fail
    go_meet
    exact h3.out
  ·skip
   have yc10 : (v.n == 0) = false := by simp [c1]
   replace c1 := hi_ c1
   go_wp2_with (go_at_call 34; refine (cM.out _ _ h0.out (by rw [hok.out]; simp [c1.out]; try omega)).mono ?_)
   first | rintro e w3 rfl h3 | rintro e w3 ⟨rfl, h3⟩
   replace h3 := hi_ h3
   clear yc10
   go_wp2_with fail
   go_meet
   exact h3.out
 case rest =>
  obtain ⟨S2, hS2⟩ : ∃ S2, S2 = wc.alloc (.cells A24_ 9) := ⟨_, rfl⟩
  have h2a := hcut.alloc (.cells A24_ 9)
  rw [← hS2] at h2a
  have xw : S2.cell? ⟨wc.heap.size, 6, none⟩ = some (.string ⟨#[103, 105, 118, 101]⟩) := by
   have := h2a.box M0_
   simp [World.cell?, this]
  have h2 := h2a.drop
  have hW2 : Hid (S2 = _) := hS2
  clear hS2 h2a
  replace hcut := hi_ hcut
  replace h0 := hi_ h0
  have c1a := hi_ (c1.out S2 h2)
  obtain ⟨-, -, -, -, -, -, x6, -⟩ := c10_ (h2.box M0_)
  rw [he.out] at x6
  replace h2 := hi_ h2
  go_wp2_with (first | (rw [← hW2.out]) | (go_at_call 17; refine c1a.out.mono ?_))
  first | rintro e w5 rfl h5 | rintro e w5 ⟨rfl, h5⟩
  clear x6 xw
  obtain ⟨-, -, -, -, -, -, -, x7, -⟩ := c10_ (h5.box M0_)
  go_upto_if 48 with fail
  go_cut [] (fun wx => RK w0 B b T2 ((w.heap.size, (O0_ v q)) :: bx) wx)
  case first =>
   by_cases hk0 : q.keyn = 0
   ·have k9 : v.key.length = 0 := by rw [← hkl.out]; exact hk0
    have f2' := f2.out
    rw [if_pos k9] at f2'
    have c2' := hi_ (c2.out f2' w5 h5)
    have y : ((q.keyn : Int) == 0) = true := by simp [hk0]
    replace k9 := hi_ k9
    replace h5 := hi_ h5
    clear f2' hk0
    go_wp2_with (go_at_call 17; refine c2'.out.mono ?_)
    first | rintro e w6 rfl h6 | rintro e w6 ⟨rfl, h6⟩
    replace h6 := hi_ h6
    go_wp2_with fail
    go_meet
    rw [hT2.out, if_pos k9.out]
    exact h6.out
   ·have k9 : Hid (¬ v.key.length = 0) := by show ¬ _; rw [← hkl.out]; exact hk0
    have y : ((q.keyn : Int) == 0) = false := by simp [hk0]
    replace h5 := hi_ h5
    clear hk0
    go_wp2_with fail
    go_meet
    rw [hT2.out, if_neg k9.out]
    exact h5.out
  case rest =>
   clear x7
   replace h5 := hi_ h5
   obtain ⟨-, -, -, -, -, -, -, x7, -⟩ := c10_ (hcut.box M0_)
   replace hcut := hi_ hcut
   go_wp2_with (go_at_call 37; refine (c3.out wc hcut.out).mono ?_)
   first | rintro e w7 rfl h7 | rintro e w7 ⟨rfl, h7⟩
   clear x7
   have h7 : RK w0 B b (RS.keyF v (rExs v.key) ((t.must (RS.elemOk v)).put w8_)) ((w.heap.size, (O0_ v q)) :: bx) w7 := by
    have h7' := h7
    rw [hT2.out] at h7'
    exact h7'
   obtain ⟨-, -, -, -, -, -, x6, -⟩ := c10_ (h7.box M0_)
   rw [he.out] at x6
   obtain ⟨-, -, x2, -⟩ := c10_ (h7.box M0_)
   replace h7 := hi_ h7
   go_wp2_with (go_at_call 18; refine (c4.out w7 h7.out).mono ?_)
   first | rintro e w8 rfl h8 | rintro e w8 ⟨rfl, h8⟩
   clear x6 x2
   obtain ⟨S3, hS3⟩ : ∃ S3, S3 = w8.alloc (.cells #[.string ⟨#[118, 97, 108, 117, 101]⟩] 9) := ⟨_, rfl⟩
   have hs3 : RK w0 B b ((RS.keyF v (rExs v.key) ((t.must (RS.elemOk v)).put w8_)).plain v.s) ((w8.heap.size, .cells #[.string ⟨#[118, 97, 108, 117, 101]⟩] 9 (0, 0)) :: ((w.heap.size, (O0_ v q)) :: bx)) S3 := by rw [hS3]; exact h8.alloc _
   have hW3 : Hid (S3 = _) := hS3
   clear hS3
   have c6a := named_R w0 B b v q [bs w7_] (some ⟨w8.heap.size, 0, none⟩) 1 ((RS.keyF v (rExs v.key) ((t.must (RS.elemOk v)).put w8_)).plain v.s) _ S3 hv'.out hV (by decide) hs3 (.inr ⟨w8.heap.size, rfl, List.mem_cons_self ..⟩) (show FitR (RS.named v [bs w7_] (rExs v.vals) ((RS.keyF v (rExs v.key) ((t.must (RS.elemOk v)).put w8_)).plain v.s)) from f6'.out)
   obtain ⟨x0, x1, x2, x3, x4, x5, x6, x7, x8, x9⟩ := c10_ (hs3.drop.box M0_)
   obtain ⟨z0, z1, z2, z3, z4, z5, z6, z7, z8, z9⟩ := c10_ (h8.box M0_)
   rw [hag.out] at c6a
   rw [he.out] at x6 z6
   replace c6a := hi_ c6a
   replace h8 := hi_ h8
   replace hs3 := hi_ hs3
   go_wp2_with (first | (rw [← hW3.out]) | (go_at_call 98; refine c6a.out.mono ?_))
   first | rintro e wb rfl hb | rintro e wb ⟨rfl, hb⟩
   replace hb := hb.drop
   clear x0 x1 x2 x3 x4 x5 x6 x7 x8 x9 z0 z1 z2 z3 z4 z5 z6 z7 z8 z9
   obtain ⟨-, -, -, x3, -⟩ := c10_ (hb.box M0_)
   replace hb := hi_ hb
   go_wp2_with (go_at_call 37; refine (c9.out wb hb.out).mono ?_)
   first | rintro e wc9 rfl hc | rintro e wc9 ⟨rfl, hc⟩
   replace hc := hi_ hc.drop
   go_wp2_with fail
   exact bodyPost_end (v := .tuple #[]) (results_none (by kernel_rfl) _ _ _) rfl ⟨rfl, hc.out⟩
end Go.Proofs.YtlppklbmdedipaaGreatDoor
