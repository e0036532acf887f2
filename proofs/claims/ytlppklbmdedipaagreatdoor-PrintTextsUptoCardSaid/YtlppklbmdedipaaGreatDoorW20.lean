/- PrintTexts, part 20. -/
import Derived.Test.YtlppklbmdedipaaGreatDoorW02
import Derived.Test.YtlppklbmdedipaaGreatDoorW18
import Derived.Deep.CutBlock
import Derived.Test.YtlppklbmdedipaaGreatDoorW19
namespace Go.Proofs.YtlppklbmdedipaaGreatDoor
open Go Go.RowKit
set_option maxHeartbeats 8000000
set_option maxRecDepth 100000
theorem elem7_R (w0 : World) (B b : Nat) (v : Ex) (q : QEx) (t : RS) (he : v.elem = 7) (hv : ExAt w0 B v q) (hA : ExsR w0 B b v.args) (hV : ExsR w0 B b v.vals) (hK : ExsR w0 B b v.key) (_hP : PairsR w0 B b v) : DoesR w0 B b 69 #[.pointer (some ⟨b, 0, none⟩), .agg (A0_ v q)] t (RS.elem v (rExs v.args) (rExs v.vals) (rExs v.key) (RS.pairsF v (rPairs v.vals v.names)) t) := by
 unfold A0_
 intro bx w h hF
 have hL := hi_ hv.lens
 have hmx := ExLens.maxes hv
 have hs := hv.s
 have hEq : RS.elem v (rExs v.args) (rExs v.vals) (rExs v.key) (RS.pairsF v (rPairs v.vals v.names)) t = (rExs v.args (RS.named v [bs w9_, bs w10_] (rExs v.vals) ((RS.keyF v (rExs v.key) ((t.must (RS.elemOk v)).put w11_)).must (decide (v.s.size = 0))))) := by
  unfold RS.elem
  rw [if_neg (by omega)]
  unfold RS.elemB
  rw [if_neg (by omega), if_neg (by omega), if_neg (by omega), if_neg (by omega), if_pos he, he]; rfl
 rw [hEq] at hF ⊢
 clear hEq
 have f6 := FitR.exs hv.args hF
 have f4 : FitR ((RS.keyF v (rExs v.key) ((t.must (RS.elemOk v)).put w11_)).must (decide (v.s.size = 0))) := (FitR.exs hv.vals (show FitR (rExs v.vals (((RS.keyF v (rExs v.key) ((t.must (RS.elemOk v)).put w11_)).must (decide (v.s.size = 0))).must _)) from f6)).must
 have f3 : FitR (RS.keyF v (rExs v.key) ((t.must (RS.elemOk v)).put w11_)) := f4.must
 have f2 : FitR (if v.key.length = 0 then ((t.must (RS.elemOk v)).put w11_).put [45] else ((t.must (RS.elemOk v)).put w11_)) := FitR.exs hv.key f3
 have f1 : FitR ((t.must (RS.elemOk v)).put w11_) := by
  split at f2
  ·exact f2.put
  ·exact f2
 have f0 : FitR (t.must (RS.elemOk v)) := f1.put
 obtain ⟨S, hS⟩ : ∃ S, S = w.alloc ((O0_ v q)) := ⟨_, rfl⟩
 have h0 : RK w0 B b t ((w.heap.size, (O0_ v q)) :: bx) S := by rw [hS]; exact h.alloc _
 have hWS : Hid (S = _) := hS
 clear hS
 replace h := hi_ h
 have cM := hi_ (must_as w0 B b t (RS.elemOk v) ((w.heap.size, (O0_ v q)) :: bx) f0)
 have c1 := hi_ (fun W hW => put_R w0 B b (t.must (RS.elemOk v)) w11_ ((w.heap.size, (O0_ v q)) :: bx) W hW f1)
 have c2 := hi_ (fun (f : FitR (((t.must (RS.elemOk v)).put w11_).put [45])) W hW => put_R w0 B b ((t.must (RS.elemOk v)).put w11_) [45] ((w.heap.size, (O0_ v q)) :: bx) W hW f)
 obtain ⟨T2, hT2⟩ : ∃ T, T = (if v.key.length = 0 then ((t.must (RS.elemOk v)).put w11_).put [45] else ((t.must (RS.elemOk v)).put w11_)) := ⟨_, rfl⟩
 have f3' : FitR (rExs v.key T2) := by rw [hT2]; exact f3
 have c3 := hi_ (fun W hW => hK _ _ q.keyc T2 hv.key ((w.heap.size, (O0_ v q)) :: bx) W hW f3')
 replace hT2 := hi_ hT2
 clear f3'
 have c4 := hi_ (must_as w0 B b (RS.keyF v (rExs v.key) ((t.must (RS.elemOk v)).put w11_)) (decide (v.s.size = 0)) ((w.heap.size, (O0_ v q)) :: bx) f4)
 have c9 := hi_ (fun W hW => hA _ _ q.argsc (RS.named v [bs w9_, bs w10_] (rExs v.vals) ((RS.keyF v (rExs v.key) ((t.must (RS.elemOk v)).put w11_)).must (decide (v.s.size = 0)))) hv.args ((w.heap.size, (O0_ v q)) :: bx) W hW hF)
 have hv' := hi_ hv
 have hkl := hi_ hL.out.key
 replace f2 := hi_ f2
 have f6' := hi_ f6
 have f4' := hi_ f4
 clear hF hv f0 f1 f3 f4 f6 
 have hag : Hid (Value.agg #[.int .u8 v.kind, .int .i64 v.n, .string v.s, .slice q.argsa q.argsn q.argsc, .slice q.namesa q.namesn q.namesc, .slice q.valsa q.valsn q.valsc, .int .u8 v.elem, .slice q.keya q.keyn q.keyc, .slice q.actsa q.actsn q.actsc, .string v.site] = .agg #[.int .u8 v.kind, .int .i64 v.n, .string v.s, .slice q.argsa q.argsn q.argsc, .slice q.namesa q.namesn q.namesc, .slice q.valsa q.valsn q.valsc, .int .u8 7, .slice q.keya q.keyn q.keyc, .slice q.actsa q.actsn q.actsc, .string v.site]) := by show _ = _; rw [he]
 replace he := hi_ he
 go_enter Tryz.func69, Tryz.ntmps69
 go_upto_region 1 with (rw [← hWS.out])
 go_cut [] (fun wx => RK w0 B b (t.must (RS.elemOk v)) ((w.heap.size, (O0_ v q)) :: bx) wx)
 case first =>
  obtain ⟨-, x1, -, -, -, -, -, x7, x8, x9⟩ := c10_ (h0.box M0_)
  replace h0 := hi_ h0
  have hok : Hid (RS.elemOk v = (decide (v.n = 0) && decide (q.actsn = 0) && decide (v.site.size = 0) && decide (q.keyn ≤ 1))) := by
   show _ = _
   rw [hL.out.acts, hL.out.key]; rfl
  clear hmx
  by_cases c1 : v.n = 0
  ·skip
   have yc10 : (v.n == 0) = true := by simp [c1]
   replace c1 := hi_ c1
   by_cases c2 : q.actsn = 0
   ·skip
    have yc20 : ((q.actsn : Int) == 0) = true := by simp [c2]
    replace c2 := hi_ c2
    by_cases c3 : v.site.size = 0
    ·skip
     have yc30 : v.site.toList = [] := by rw [size_nil]; exact c3
     have yc31 : v.site.toList.isEmpty = true := by rw [size_emp]; simp [c3]
     replace c3 := hi_ c3
     go_wp2_with (go_at_call 34; refine (cM.out _ _ h0.out (by rw [hok.out]; simp [c1.out, c2.out, c3.out]; try omega)).mono ?_)
     first | rintro e w3 rfl h3 | rintro e w3 ⟨rfl, h3⟩
     replace h3 := hi_ h3
     clear yc10 yc20 yc30 yc31
     go_wp2_with fail
     go_meet
     exact h3.out
    ·skip
     have yc30 : ¬ v.site.toList = [] := by rw [size_nil]; exact c3
     have yc31 : v.site.toList.isEmpty = false := by rw [size_emp]; simp [c3]
     have yc32 : (v.site.toList == []) = false := by rw [size_beq]; simp [c3]
     replace c3 := hi_ c3
     go_wp2_with (go_at_call 34; refine (cM.out _ _ h0.out (by rw [hok.out]; simp [c1.out, c2.out, c3.out]; try omega)).mono ?_)
     first | rintro e w3 rfl h3 | rintro e w3 ⟨rfl, h3⟩
     replace h3 := hi_ h3
     clear yc10 yc20 yc30 yc31 yc32
     go_wp2_with fail
     go_meet
     exact h3.out
   ·skip
    have yc20 : ((q.actsn : Int) == 0) = false := by simp [c2]
    replace c2 := hi_ c2
    go_wp2_with (go_at_call 34; refine (cM.out _ _ h0.out (by rw [hok.out]; simp [c1.out, c2.out]; try omega)).mono ?_)
    first | rintro e w3 rfl h3 | rintro e w3 ⟨rfl, h3⟩
    replace h3 := hi_ h3
    clear yc10 yc20
    go_wp2_with fail
    go_meet
    exact h3.out
  ·skip
   have yc10 : (v.n == 0) = false := by simp [c1]
   replace c1 := hi_ c1
   go_wp2_with (go_at_call 34; refine (cM.out _ _ h0.out (by rw [hok.out]; simp [c1.out]; try omega)).mono ?_)
   first | rintro e w3 rfl h3 | rintro e w3 ⟨rfl, h3⟩
   replace h3 := hi_ h3
   clear yc10
   go_wp2_with fail
   go_meet
   exact h3.out
 case rest =>
  obtain ⟨S2, hS2⟩ : ∃ S2, S2 = wc.alloc (.cells A24_ 9) := ⟨_, rfl⟩
  have h2a := hcut.alloc (.cells A24_ 9)
  rw [← hS2] at h2a
  have xw : S2.cell? ⟨wc.heap.size, 7, none⟩ = some (.string ⟨#[103, 117, 97, 114, 100]⟩) := by
   have := h2a.box M0_
   simp [World.cell?, this]
  have h2 := h2a.drop
  have hW2 : Hid (S2 = _) := hS2
  clear hS2 h2a
  replace hcut := hi_ hcut
  replace h0 := hi_ h0
  have c1a := hi_ (c1.out S2 h2)
  obtain ⟨-, -, -, -, -, -, x6, -⟩ := c10_ (h2.box M0_)
  rw [he.out] at x6
  replace h2 := hi_ h2
  go_wp2_with (first | (rw [← hW2.out]) | (go_at_call 17; refine c1a.out.mono ?_))
  first | rintro e w5 rfl h5 | rintro e w5 ⟨rfl, h5⟩
  clear x6 xw
  obtain ⟨-, -, -, -, -, -, -, x7, -⟩ := c10_ (h5.box M0_)
  go_upto_if 48 with fail
  go_cut [] (fun wx => RK w0 B b T2 ((w.heap.size, (O0_ v q)) :: bx) wx)
  case first =>
   by_cases hk0 : q.keyn = 0
   ·have k9 : v.key.length = 0 := by rw [← hkl.out]; exact hk0
    have f2' := f2.out
    rw [if_pos k9] at f2'
    have c2' := hi_ (c2.out f2' w5 h5)
    have y : ((q.keyn : Int) == 0) = true := by simp [hk0]
    replace k9 := hi_ k9
    replace h5 := hi_ h5
    clear f2' hk0
    go_wp2_with (go_at_call 17; refine c2'.out.mono ?_)
    first | rintro e w6 rfl h6 | rintro e w6 ⟨rfl, h6⟩
    replace h6 := hi_ h6
    go_wp2_with fail
    go_meet
    rw [hT2.out, if_pos k9.out]
    exact h6.out
   ·have k9 : Hid (¬ v.key.length = 0) := by show ¬ _; rw [← hkl.out]; exact hk0
    have y : ((q.keyn : Int) == 0) = false := by simp [hk0]
    replace h5 := hi_ h5
    clear hk0
    go_wp2_with fail
    go_meet
    rw [hT2.out, if_neg k9.out]
    exact h5.out
  case rest =>
   clear x7
   replace h5 := hi_ h5
   obtain ⟨-, -, -, -, -, -, -, x7, -⟩ := c10_ (hcut.box M0_)
   replace hcut := hi_ hcut
   go_wp2_with (go_at_call 37; refine (c3.out wc hcut.out).mono ?_)
   first | rintro e w7 rfl h7 | rintro e w7 ⟨rfl, h7⟩
   clear x7
   have h7 : RK w0 B b (RS.keyF v (rExs v.key) ((t.must (RS.elemOk v)).put w11_)) ((w.heap.size, (O0_ v q)) :: bx) w7 := by
    have h7' := h7
    rw [hT2.out] at h7'
    exact h7'
   obtain ⟨-, -, -, -, -, -, x6, -⟩ := c10_ (h7.box M0_)
   rw [he.out] at x6
   obtain ⟨-, -, x2, -⟩ := c10_ (h7.box M0_)
   replace h7 := hi_ h7
   go_wp2_with (go_at_call 34; refine (c4.out _ _ h7.out (by (first | rw [size_beq] | rw [size_emp] | simp [size_nil]))).mono ?_)
   first | rintro e w8 rfl h8 | rintro e w8 ⟨rfl, h8⟩
   clear x6 x2
   obtain ⟨S3, hS3⟩ : ∃ S3, S3 = w8.alloc (.cells A32_ 9) := ⟨_, rfl⟩
   have hs3 : RK w0 B b ((RS.keyF v (rExs v.key) ((t.must (RS.elemOk v)).put w11_)).must (decide (v.s.size = 0))) ((w8.heap.size, O30_) :: ((w.heap.size, (O0_ v q)) :: bx)) S3 := by rw [hS3]; exact h8.alloc _
   have hW3 : Hid (S3 = _) := hS3
   clear hS3
   have c6a := named_R w0 B b v q [bs w9_, bs w10_] (some ⟨w8.heap.size, 0, none⟩) 2 ((RS.keyF v (rExs v.key) ((t.must (RS.elemOk v)).put w11_)).must (decide (v.s.size = 0))) _ S3 hv'.out hV (by decide) hs3 (.inr ⟨w8.heap.size, rfl, List.mem_cons_self ..⟩) (show FitR (RS.named v [bs w9_, bs w10_] (rExs v.vals) ((RS.keyF v (rExs v.key) ((t.must (RS.elemOk v)).put w11_)).must (decide (v.s.size = 0)))) from f6'.out)
   obtain ⟨x0, x1, x2, x3, x4, x5, x6, x7, x8, x9⟩ := c10_ (hs3.drop.box M0_)
   obtain ⟨z0, z1, z2, z3, z4, z5, z6, z7, z8, z9⟩ := c10_ (h8.box M0_)
   rw [hag.out] at c6a
   rw [he.out] at x6 z6
   replace c6a := hi_ c6a
   replace h8 := hi_ h8
   replace hs3 := hi_ hs3
   go_wp2_with (first | (rw [← hW3.out]) | (go_at_call 98; refine c6a.out.mono ?_))
   first | rintro e wb rfl hb | rintro e wb ⟨rfl, hb⟩
   replace hb := hb.drop
   clear x0 x1 x2 x3 x4 x5 x6 x7 x8 x9 z0 z1 z2 z3 z4 z5 z6 z7 z8 z9
   obtain ⟨-, -, -, x3, -⟩ := c10_ (hb.box M0_)
   replace hb := hi_ hb
   go_wp2_with (go_at_call 37; refine (c9.out wb hb.out).mono ?_)
   first | rintro e wc9 rfl hc | rintro e wc9 ⟨rfl, hc⟩
   replace hc := hi_ hc.drop
   go_wp2_with fail
   exact bodyPost_end (v := .tuple #[]) (results_none (by kernel_rfl) _ _ _) rfl ⟨rfl, hc.out⟩
theorem elem8_R (w0 : World) (B b : Nat) (v : Ex) (q : QEx) (t : RS) (he : v.elem = 8) (hv : ExAt w0 B v q) (hA : ExsR w0 B b v.args) (hV : ExsR w0 B b v.vals) (hK : ExsR w0 B b v.key) (_hP : PairsR w0 B b v) : DoesR w0 B b 69 #[.pointer (some ⟨b, 0, none⟩), .agg (A0_ v q)] t (RS.elem v (rExs v.args) (rExs v.vals) (rExs v.key) (RS.pairsF v (rPairs v.vals v.names)) t) := by
 unfold A0_
 intro bx w h hF
 have hL := hi_ hv.lens
 have hmx := ExLens.maxes hv
 have hs := hv.s
 have hEq : RS.elem v (rExs v.args) (rExs v.vals) (rExs v.key) (RS.pairsF v (rPairs v.vals v.names)) t = (rExs v.args (RS.named v [bs w10_] (rExs v.vals) ((RS.keyF v (rExs v.key) ((t.must (RS.elemOk v)).put w12_)).must (decide (v.s.size = 0))))) := by
  unfold RS.elem
  rw [if_neg (by omega)]
  unfold RS.elemB
  rw [if_neg (by omega), if_neg (by omega), if_neg (by omega), if_neg (by omega), if_neg (by omega), he]; rfl
 rw [hEq] at hF ⊢
 clear hEq
 have f6 := FitR.exs hv.args hF
 have f4 : FitR ((RS.keyF v (rExs v.key) ((t.must (RS.elemOk v)).put w12_)).must (decide (v.s.size = 0))) := (FitR.exs hv.vals (show FitR (rExs v.vals (((RS.keyF v (rExs v.key) ((t.must (RS.elemOk v)).put w12_)).must (decide (v.s.size = 0))).must _)) from f6)).must
 have f3 : FitR (RS.keyF v (rExs v.key) ((t.must (RS.elemOk v)).put w12_)) := f4.must
 have f2 : FitR (if v.key.length = 0 then ((t.must (RS.elemOk v)).put w12_).put [45] else ((t.must (RS.elemOk v)).put w12_)) := FitR.exs hv.key f3
 have f1 : FitR ((t.must (RS.elemOk v)).put w12_) := by
  split at f2
  ·exact f2.put
  ·exact f2
 have f0 : FitR (t.must (RS.elemOk v)) := f1.put
 obtain ⟨S, hS⟩ : ∃ S, S = w.alloc ((O0_ v q)) := ⟨_, rfl⟩
 have h0 : RK w0 B b t ((w.heap.size, (O0_ v q)) :: bx) S := by rw [hS]; exact h.alloc _
 have hWS : Hid (S = _) := hS
 clear hS
 replace h := hi_ h
 have cM := hi_ (must_as w0 B b t (RS.elemOk v) ((w.heap.size, (O0_ v q)) :: bx) f0)
 have c1 := hi_ (fun W hW => put_R w0 B b (t.must (RS.elemOk v)) w12_ ((w.heap.size, (O0_ v q)) :: bx) W hW f1)
 have c2 := hi_ (fun (f : FitR (((t.must (RS.elemOk v)).put w12_).put [45])) W hW => put_R w0 B b ((t.must (RS.elemOk v)).put w12_) [45] ((w.heap.size, (O0_ v q)) :: bx) W hW f)
 obtain ⟨T2, hT2⟩ : ∃ T, T = (if v.key.length = 0 then ((t.must (RS.elemOk v)).put w12_).put [45] else ((t.must (RS.elemOk v)).put w12_)) := ⟨_, rfl⟩
 have f3' : FitR (rExs v.key T2) := by rw [hT2]; exact f3
 have c3 := hi_ (fun W hW => hK _ _ q.keyc T2 hv.key ((w.heap.size, (O0_ v q)) :: bx) W hW f3')
 replace hT2 := hi_ hT2
 clear f3'
 have c4 := hi_ (must_as w0 B b (RS.keyF v (rExs v.key) ((t.must (RS.elemOk v)).put w12_)) (decide (v.s.size = 0)) ((w.heap.size, (O0_ v q)) :: bx) f4)
 have c9 := hi_ (fun W hW => hA _ _ q.argsc (RS.named v [bs w10_] (rExs v.vals) ((RS.keyF v (rExs v.key) ((t.must (RS.elemOk v)).put w12_)).must (decide (v.s.size = 0)))) hv.args ((w.heap.size, (O0_ v q)) :: bx) W hW hF)
 have hv' := hi_ hv
 have hkl := hi_ hL.out.key
 replace f2 := hi_ f2
 have f6' := hi_ f6
 have f4' := hi_ f4
 clear hF hv f0 f1 f3 f4 f6 
 have hag : Hid (Value.agg #[.int .u8 v.kind, .int .i64 v.n, .string v.s, .slice q.argsa q.argsn q.argsc, .slice q.namesa q.namesn q.namesc, .slice q.valsa q.valsn q.valsc, .int .u8 v.elem, .slice q.keya q.keyn q.keyc, .slice q.actsa q.actsn q.actsc, .string v.site] = .agg #[.int .u8 v.kind, .int .i64 v.n, .string v.s, .slice q.argsa q.argsn q.argsc, .slice q.namesa q.namesn q.namesc, .slice q.valsa q.valsn q.valsc, .int .u8 8, .slice q.keya q.keyn q.keyc, .slice q.actsa q.actsn q.actsc, .string v.site]) := by show _ = _; rw [he]
 replace he := hi_ he
 go_enter Tryz.func69, Tryz.ntmps69
 go_upto_region 1 with (rw [← hWS.out])
 go_cut [] (fun wx => RK w0 B b (t.must (RS.elemOk v)) ((w.heap.size, (O0_ v q)) :: bx) wx)
 case first =>
  obtain ⟨-, x1, -, -, -, -, -, x7, x8, x9⟩ := c10_ (h0.box M0_)
  replace h0 := hi_ h0
  have hok : Hid (RS.elemOk v = (decide (v.n = 0) && decide (q.actsn = 0) && decide (v.site.size = 0) && decide (q.keyn ≤ 1))) := by
   show _ = _
   rw [hL.out.acts, hL.out.key]; rfl
  clear hmx
  by_cases c1 : v.n = 0
  ·skip
   have yc10 : (v.n == 0) = true := by simp [c1]
   replace c1 := hi_ c1
   by_cases c2 : q.actsn = 0
   ·skip
    have yc20 : ((q.actsn : Int) == 0) = true := by simp [c2]
    replace c2 := hi_ c2
    by_cases c3 : v.site.size = 0
    ·skip
     have yc30 : v.site.toList = [] := by rw [size_nil]; exact c3
     have yc31 : v.site.toList.isEmpty = true := by rw [size_emp]; simp [c3]
     replace c3 := hi_ c3
     go_wp2_with (go_at_call 34; refine (cM.out _ _ h0.out (by rw [hok.out]; simp [c1.out, c2.out, c3.out]; try omega)).mono ?_)
     first | rintro e w3 rfl h3 | rintro e w3 ⟨rfl, h3⟩
     replace h3 := hi_ h3
     clear yc10 yc20 yc30 yc31
     go_wp2_with fail
     go_meet
     exact h3.out
    ·skip
     have yc30 : ¬ v.site.toList = [] := by rw [size_nil]; exact c3
     have yc31 : v.site.toList.isEmpty = false := by rw [size_emp]; simp [c3]
     have yc32 : (v.site.toList == []) = false := by rw [size_beq]; simp [c3]
     replace c3 := hi_ c3
     go_wp2_with (go_at_call 34; refine (cM.out _ _ h0.out (by rw [hok.out]; simp [c1.out, c2.out, c3.out]; try omega)).mono ?_)
     first | rintro e w3 rfl h3 | rintro e w3 ⟨rfl, h3⟩
     replace h3 := hi_ h3
     clear yc10 yc20 yc30 yc31 yc32
     go_wp2_with fail
     go_meet
     exact h3.out
   ·skip
    have yc20 : ((q.actsn : Int) == 0) = false := by simp [c2]
    replace c2 := hi_ c2
    go_wp2_with (go_at_call 34; refine (cM.out _ _ h0.out (by rw [hok.out]; simp [c1.out, c2.out]; try omega)).mono ?_)
    first | rintro e w3 rfl h3 | rintro e w3 ⟨rfl, h3⟩
    replace h3 := hi_ h3
    clear yc10 yc20
    go_wp2_with fail
    go_meet
    exact h3.out
  ·skip
   have yc10 : (v.n == 0) = false := by simp [c1]
   replace c1 := hi_ c1
   go_wp2_with (go_at_call 34; refine (cM.out _ _ h0.out (by rw [hok.out]; simp [c1.out]; try omega)).mono ?_)
   first | rintro e w3 rfl h3 | rintro e w3 ⟨rfl, h3⟩
   replace h3 := hi_ h3
   clear yc10
   go_wp2_with fail
   go_meet
   exact h3.out
 case rest =>
  obtain ⟨S2, hS2⟩ : ∃ S2, S2 = wc.alloc (.cells A24_ 9) := ⟨_, rfl⟩
  have h2a := hcut.alloc (.cells A24_ 9)
  rw [← hS2] at h2a
  have xw : S2.cell? ⟨wc.heap.size, 8, none⟩ = some (.string ⟨#[119, 97, 105, 116]⟩) := by
   have := h2a.box M0_
   simp [World.cell?, this]
  have h2 := h2a.drop
  have hW2 : Hid (S2 = _) := hS2
  clear hS2 h2a
  replace hcut := hi_ hcut
  replace h0 := hi_ h0
  have c1a := hi_ (c1.out S2 h2)
  obtain ⟨-, -, -, -, -, -, x6, -⟩ := c10_ (h2.box M0_)
  rw [he.out] at x6
  replace h2 := hi_ h2
  go_wp2_with (first | (rw [← hW2.out]) | (go_at_call 17; refine c1a.out.mono ?_))
  first | rintro e w5 rfl h5 | rintro e w5 ⟨rfl, h5⟩
  clear x6 xw
  obtain ⟨-, -, -, -, -, -, -, x7, -⟩ := c10_ (h5.box M0_)
  go_upto_if 48 with fail
  go_cut [] (fun wx => RK w0 B b T2 ((w.heap.size, (O0_ v q)) :: bx) wx)
  case first =>
   by_cases hk0 : q.keyn = 0
   ·have k9 : v.key.length = 0 := by rw [← hkl.out]; exact hk0
    have f2' := f2.out
    rw [if_pos k9] at f2'
    have c2' := hi_ (c2.out f2' w5 h5)
    have y : ((q.keyn : Int) == 0) = true := by simp [hk0]
    replace k9 := hi_ k9
    replace h5 := hi_ h5
    clear f2' hk0
    go_wp2_with (go_at_call 17; refine c2'.out.mono ?_)
    first | rintro e w6 rfl h6 | rintro e w6 ⟨rfl, h6⟩
    replace h6 := hi_ h6
    go_wp2_with fail
    go_meet
    rw [hT2.out, if_pos k9.out]
    exact h6.out
   ·have k9 : Hid (¬ v.key.length = 0) := by show ¬ _; rw [← hkl.out]; exact hk0
    have y : ((q.keyn : Int) == 0) = false := by simp [hk0]
    replace h5 := hi_ h5
    clear hk0
    go_wp2_with fail
    go_meet
    rw [hT2.out, if_neg k9.out]
    exact h5.out
  case rest =>
   clear x7
   replace h5 := hi_ h5
   obtain ⟨-, -, -, -, -, -, -, x7, -⟩ := c10_ (hcut.box M0_)
   replace hcut := hi_ hcut
   go_wp2_with (go_at_call 37; refine (c3.out wc hcut.out).mono ?_)
   first | rintro e w7 rfl h7 | rintro e w7 ⟨rfl, h7⟩
   clear x7
   have h7 : RK w0 B b (RS.keyF v (rExs v.key) ((t.must (RS.elemOk v)).put w12_)) ((w.heap.size, (O0_ v q)) :: bx) w7 := by
    have h7' := h7
    rw [hT2.out] at h7'
    exact h7'
   obtain ⟨-, -, -, -, -, -, x6, -⟩ := c10_ (h7.box M0_)
   rw [he.out] at x6
   obtain ⟨-, -, x2, -⟩ := c10_ (h7.box M0_)
   replace h7 := hi_ h7
   go_wp2_with (go_at_call 34; refine (c4.out _ _ h7.out (by (first | rw [size_beq] | rw [size_emp] | simp [size_nil]))).mono ?_)
   first | rintro e w8 rfl h8 | rintro e w8 ⟨rfl, h8⟩
   clear x6 x2
   obtain ⟨S3, hS3⟩ : ∃ S3, S3 = w8.alloc (.cells #[.string ⟨#[101, 108, 115, 101]⟩] 9) := ⟨_, rfl⟩
   have hs3 : RK w0 B b ((RS.keyF v (rExs v.key) ((t.must (RS.elemOk v)).put w12_)).must (decide (v.s.size = 0))) ((w8.heap.size, .cells #[.string ⟨#[101, 108, 115, 101]⟩] 9 (0, 0)) :: ((w.heap.size, (O0_ v q)) :: bx)) S3 := by rw [hS3]; exact h8.alloc _
   have hW3 : Hid (S3 = _) := hS3
   clear hS3
   have c6a := named_R w0 B b v q [bs w10_] (some ⟨w8.heap.size, 0, none⟩) 1 ((RS.keyF v (rExs v.key) ((t.must (RS.elemOk v)).put w12_)).must (decide (v.s.size = 0))) _ S3 hv'.out hV (by decide) hs3 (.inr ⟨w8.heap.size, rfl, List.mem_cons_self ..⟩) (show FitR (RS.named v [bs w10_] (rExs v.vals) ((RS.keyF v (rExs v.key) ((t.must (RS.elemOk v)).put w12_)).must (decide (v.s.size = 0)))) from f6'.out)
   obtain ⟨x0, x1, x2, x3, x4, x5, x6, x7, x8, x9⟩ := c10_ (hs3.drop.box M0_)
   obtain ⟨z0, z1, z2, z3, z4, z5, z6, z7, z8, z9⟩ := c10_ (h8.box M0_)
   rw [hag.out] at c6a
   rw [he.out] at x6 z6
   replace c6a := hi_ c6a
   replace h8 := hi_ h8
   replace hs3 := hi_ hs3
   go_wp2_with (first | (rw [← hW3.out]) | (go_at_call 98; refine c6a.out.mono ?_))
   first | rintro e wb rfl hb | rintro e wb ⟨rfl, hb⟩
   replace hb := hb.drop
   clear x0 x1 x2 x3 x4 x5 x6 x7 x8 x9 z0 z1 z2 z3 z4 z5 z6 z7 z8 z9
   obtain ⟨-, -, -, x3, -⟩ := c10_ (hb.box M0_)
   replace hb := hi_ hb
   go_wp2_with (go_at_call 37; refine (c9.out wb hb.out).mono ?_)
   first | rintro e wc9 rfl hc | rintro e wc9 ⟨rfl, hc⟩
   replace hc := hi_ hc.drop
   go_wp2_with fail
   exact bodyPost_end (v := .tuple #[]) (results_none (by kernel_rfl) _ _ _) rfl ⟨rfl, hc.out⟩
theorem form5_R (w0 : World) (B b : Nat) (v : Ex) (q : QEx) (t : RS) (he : v.kind = 5) (hv : ExAt w0 B v q) (hA : ExsR w0 B b v.args) (_hV : ExsR w0 B b v.vals) (_hK : ExsR w0 B b v.key) (_hC : AcsR w0 B b v.acts) (_hP : PairsR w0 B b v) : DoesR w0 B b 43 #[.pointer (some ⟨b, 0, none⟩), .agg (A0_ v q)] t ((RS.form v (rExs v.args) (rExs v.vals) (rExs v.key) (rAcs v.acts) (rPairs v.vals v.names)) t) := by
 unfold A0_
 intro bx w h hF
 have hL := hi_ hv.lens
 have hmx := ExLens.maxes hv
 have hs := hv.s
 have hn := hv.n
 have hEq : (RS.form v (rExs v.args) (rExs v.vals) (rExs v.key) (rAcs v.acts) (rPairs v.vals v.names)) t = rExs v.args ((t.must (bareB v false true true false false && !keyP v.s)).plain v.s) := by
  unfold RS.form
  rw [if_pos he]
 rw [hEq] at hF ⊢
 clear hEq
 have f2 := FitR.exs hv.args hF
 have f1 : FitR (t.must (bareB v false true true false false && !keyP v.s)) := FitR.plain f2
 obtain ⟨S, hS⟩ : ∃ S, S = w.alloc ((O0_ v q)) := ⟨_, rfl⟩
 have h0 : RK w0 B b t ((w.heap.size, (O0_ v q)) :: bx) S := by rw [hS]; exact h.alloc _
 have hWS : Hid (S = _) := hS
 clear hS
 replace h := hi_ h
 have cM := hi_ (must_as w0 B b t (bareB v false true true false false && !keyP v.s) ((w.heap.size, (O0_ v q)) :: bx) f1)
 have c2 := hi_ (fun W hW => plain_R w0 B b (t.must (bareB v false true true false false && !keyP v.s)) v.s hs ((w.heap.size, (O0_ v q)) :: bx) W hW f2)
 have c3 := hi_ (fun W hW => hA _ _ q.argsc ((t.must (bareB v false true true false false && !keyP v.s)).plain v.s) hv.args ((w.heap.size, (O0_ v q)) :: bx) W hW hF)
 clear f1 f2
 have hag : Hid (Value.agg #[.int .u8 v.kind, .int .i64 v.n, .string v.s, .slice q.argsa q.argsn q.argsc, .slice q.namesa q.namesn q.namesc, .slice q.valsa q.valsn q.valsc, .int .u8 v.elem, .slice q.keya q.keyn q.keyc, .slice q.actsa q.actsn q.actsc, .string v.site] = .agg #[.int .u8 5, .int .i64 v.n, .string v.s, .slice q.argsa q.argsn q.argsc, .slice q.namesa q.namesn q.namesc, .slice q.valsa q.valsn q.valsc, .int .u8 v.elem, .slice q.keya q.keyn q.keyc, .slice q.actsa q.actsn q.actsc, .string v.site]) := by show _ = _; rw [he]
 have hv' := hi_ hv
 replace he := hi_ he
 clear hF hv
 go_enter Tryz.func43, Tryz.ntmps43
 obtain ⟨x0, -⟩ := c10_ (h0.box M0_)
 rw [he.out] at x0
 have h0' := hi_ h0
 clear h0
 go_upto_region 4 with (rw [← hWS.out])
 go_cut [] (fun wx => RK w0 B b (t.must (bareB v false true true false false && !keyP v.s)) ((w.heap.size, (O0_ v q)) :: bx) wx)
 case first =>
  clear x0
  have h0 := h0'.out
  obtain ⟨x0, x1, x2, x3, x4, x5, x6, x7, x8, x9⟩ := c10_ (h0.box M0_)
  rw [he.out] at x0
  have cB := bare_any v q false true true false S hL.out
  rw [hag.out] at cB
  replace cB := hi_ cB
  replace h0 := hi_ h0
  go_wp2_with (go_at_call 40; refine cB.out.mono ?_)
  first | rintro e w1 rfl hbw1 | rintro e w1 ⟨rfl, hbw1⟩
  clear x0 x1 x2 x3 x4 x5 x6 x7 x8 x9
  have h1 := h0.out.below hbw1
  replace hbw1 := hi_ hbw1
  generalize bareB v false true true false false = U at *
  cases U
  ·replace h1 := hi_ h1
   go_wp2_with (go_at_call 34; refine (cM.out _ _ h1.out (by simp)).mono ?_)
   first | rintro e w9 rfl h9 | rintro e w9 ⟨rfl, h9⟩
   replace h9 := hi_ h9
   go_wp2_with fail
   go_meet
   exact h9.out
  ·skip
   obtain ⟨-, -, x2, -⟩ := c10_ (h1.box M0_)
   have cK := hi_ (rkey_any v.s w1)
   replace h1 := hi_ h1
   go_wp2_with (go_at_call 66; refine cK.out.mono ?_)
   first | rintro e w2 rfl hbw2 | rintro e w2 ⟨rfl, hbw2⟩
   clear x2
   have h2 := hi_ (h1.out.below hbw2)
   replace hbw2 := hi_ hbw2
   go_wp2_with (go_at_call 34; refine (cM.out _ _ h2.out (by simp)).mono ?_)
   first | rintro e w9 rfl h9 | rintro e w9 ⟨rfl, h9⟩
   replace h9 := hi_ h9
   go_wp2_with fail
   go_meet
   exact h9.out
 case rest =>
  obtain ⟨-, -, x2, -⟩ := c10_ (hcut.box M0_)
  replace hcut := hi_ hcut
  go_wp2_with (go_at_call 18; refine (c2.out wc hcut.out).mono ?_)
  first | rintro e w3 rfl h3 | rintro e w3 ⟨rfl, h3⟩
  clear x2
  obtain ⟨-, -, -, x3, -⟩ := c10_ (h3.box M0_)
  replace h3 := hi_ h3
  go_wp2_with (go_at_call 37; refine (c3.out w3 h3.out).mono ?_)
  first | rintro e w4 rfl h4 | rintro e w4 ⟨rfl, h4⟩
  replace h4 := hi_ h4.drop
  go_wp2_with fail
  exact bodyPost_end (v := .tuple #[]) (results_none (by kernel_rfl) _ _ _) rfl ⟨rfl, h4.out⟩
theorem form6_R (w0 : World) (B b : Nat) (v : Ex) (q : QEx) (t : RS) (he : v.kind = 6) (hv : ExAt w0 B v q) (hA : ExsR w0 B b v.args) (_hV : ExsR w0 B b v.vals) (_hK : ExsR w0 B b v.key) (_hC : AcsR w0 B b v.acts) (_hP : PairsR w0 B b v) : DoesR w0 B b 43 #[.pointer (some ⟨b, 0, none⟩), .agg (A0_ v q)] t ((RS.form v (rExs v.args) (rExs v.vals) (rExs v.key) (rAcs v.acts) (rPairs v.vals v.names)) t) := by
 unfold A0_
 intro bx w h hF
 have hL := hi_ hv.lens
 have hmx := ExLens.maxes hv
 have hs := hv.s
 have hn := hv.n
 have hEq : (RS.form v (rExs v.args) (rExs v.vals) (rExs v.key) (rAcs v.acts) (rPairs v.vals v.names)) t = RS.so [105, 102] v 3 (rExs v.args) t := by
  unfold RS.form
  rw [if_neg (by omega), if_pos he]
 rw [hEq] at hF ⊢
 clear hEq

 obtain ⟨S, hS⟩ : ∃ S, S = w.alloc ((O0_ v q)) := ⟨_, rfl⟩
 have h0 : RK w0 B b t ((w.heap.size, (O0_ v q)) :: bx) S := by rw [hS]; exact h.alloc _
 have hWS : Hid (S = _) := hS
 clear hS
 replace h := hi_ h
 have c1 := so_R w0 B b v q [105, 102] 3 t hv hA _ _ h0 hF
 replace c1 := hi_ c1
 have hag : Hid (Value.agg #[.int .u8 v.kind, .int .i64 v.n, .string v.s, .slice q.argsa q.argsn q.argsc, .slice q.namesa q.namesn q.namesc, .slice q.valsa q.valsn q.valsc, .int .u8 v.elem, .slice q.keya q.keyn q.keyc, .slice q.actsa q.actsn q.actsc, .string v.site] = .agg #[.int .u8 6, .int .i64 v.n, .string v.s, .slice q.argsa q.argsn q.argsc, .slice q.namesa q.namesn q.namesc, .slice q.valsa q.valsn q.valsc, .int .u8 v.elem, .slice q.keya q.keyn q.keyc, .slice q.actsa q.actsn q.actsc, .string v.site]) := by show _ = _; rw [he]
 have hv' := hi_ hv
 replace he := hi_ he
 clear hF hv
 go_enter Tryz.func43, Tryz.ntmps43
 obtain ⟨x0, x1, x2, x3, x4, x5, x6, x7, x8, x9⟩ := c10_ (h0.box M0_)
 rw [he.out] at x0
 have c1a := c1.out
 rw [hag.out] at c1a
 replace c1a := hi_ c1a
 replace h0 := hi_ h0
 go_wp2_with (first | (rw [← hWS.out]) | (go_at_call 67; refine c1a.out.mono ?_))
 first | rintro e w4 rfl h4 | rintro e w4 ⟨rfl, h4⟩
 clear x0 x1 x2 x3 x4 x5 x6 x7 x8 x9
 replace h4 := hi_ h4.drop
 go_wp2_with fail
 exact bodyPost_end (v := .tuple #[]) (results_none (by kernel_rfl) _ _ _) rfl ⟨rfl, h4.out⟩
theorem form8_R (w0 : World) (B b : Nat) (v : Ex) (q : QEx) (t : RS) (he : v.kind = 8) (hv : ExAt w0 B v q) (hA : ExsR w0 B b v.args) (_hV : ExsR w0 B b v.vals) (_hK : ExsR w0 B b v.key) (_hC : AcsR w0 B b v.acts) (_hP : PairsR w0 B b v) : DoesR w0 B b 43 #[.pointer (some ⟨b, 0, none⟩), .agg (A0_ v q)] t ((RS.form v (rExs v.args) (rExs v.vals) (rExs v.key) (rAcs v.acts) (rPairs v.vals v.names)) t) := by
 unfold A0_
 intro bx w h hF
 have hL := hi_ hv.lens
 have hmx := ExLens.maxes hv
 have hs := hv.s
 have hn := hv.n
 have hEq : (RS.form v (rExs v.args) (rExs v.vals) (rExs v.key) (rAcs v.acts) (rPairs v.vals v.names)) t = RS.so w15_ v 1 (rExs v.args) t := by
  unfold RS.form
  rw [if_neg (by omega), if_neg (by omega), if_pos he]
 rw [hEq] at hF ⊢
 clear hEq

 obtain ⟨S, hS⟩ : ∃ S, S = w.alloc ((O0_ v q)) := ⟨_, rfl⟩
 have h0 : RK w0 B b t ((w.heap.size, (O0_ v q)) :: bx) S := by rw [hS]; exact h.alloc _
 have hWS : Hid (S = _) := hS
 clear hS
 replace h := hi_ h
 have c1 := so_R w0 B b v q w15_ 1 t hv hA _ _ h0 hF
 replace c1 := hi_ c1
 have hag : Hid (Value.agg #[.int .u8 v.kind, .int .i64 v.n, .string v.s, .slice q.argsa q.argsn q.argsc, .slice q.namesa q.namesn q.namesc, .slice q.valsa q.valsn q.valsc, .int .u8 v.elem, .slice q.keya q.keyn q.keyc, .slice q.actsa q.actsn q.actsc, .string v.site] = .agg #[.int .u8 8, .int .i64 v.n, .string v.s, .slice q.argsa q.argsn q.argsc, .slice q.namesa q.namesn q.namesc, .slice q.valsa q.valsn q.valsc, .int .u8 v.elem, .slice q.keya q.keyn q.keyc, .slice q.actsa q.actsn q.actsc, .string v.site]) := by show _ = _; rw [he]
 have hv' := hi_ hv
 replace he := hi_ he
 clear hF hv
 go_enter Tryz.func43, Tryz.ntmps43
 obtain ⟨x0, x1, x2, x3, x4, x5, x6, x7, x8, x9⟩ := c10_ (h0.box M0_)
 rw [he.out] at x0
 have c1a := c1.out
 rw [hag.out] at c1a
 replace c1a := hi_ c1a
 replace h0 := hi_ h0
 go_wp2_with (first | (rw [← hWS.out]) | (go_at_call 67; refine c1a.out.mono ?_))
 first | rintro e w4 rfl h4 | rintro e w4 ⟨rfl, h4⟩
 clear x0 x1 x2 x3 x4 x5 x6 x7 x8 x9
 replace h4 := hi_ h4.drop
 go_wp2_with fail
 exact bodyPost_end (v := .tuple #[]) (results_none (by kernel_rfl) _ _ _) rfl ⟨rfl, h4.out⟩
theorem form9_R (w0 : World) (B b : Nat) (v : Ex) (q : QEx) (t : RS) (he : v.kind = 9) (hv : ExAt w0 B v q) (hA : ExsR w0 B b v.args) (_hV : ExsR w0 B b v.vals) (_hK : ExsR w0 B b v.key) (_hC : AcsR w0 B b v.acts) (_hP : PairsR w0 B b v) : DoesR w0 B b 43 #[.pointer (some ⟨b, 0, none⟩), .agg (A0_ v q)] t ((RS.form v (rExs v.args) (rExs v.vals) (rExs v.key) (rAcs v.acts) (rPairs v.vals v.names)) t) := by
 unfold A0_
 intro bx w h hF
 have hL := hi_ hv.lens
 have hmx := ExLens.maxes hv
 have hs := hv.s
 have hn := hv.n
 have hEq : (RS.form v (rExs v.args) (rExs v.vals) (rExs v.key) (rAcs v.acts) (rPairs v.vals v.names)) t = RS.so w16_ v 1 (rExs v.args) t := by
  unfold RS.form
  rw [if_neg (by omega), if_neg (by omega), if_neg (by omega), if_pos he]
 rw [hEq] at hF ⊢
 clear hEq

 obtain ⟨S, hS⟩ : ∃ S, S = w.alloc ((O0_ v q)) := ⟨_, rfl⟩
 have h0 : RK w0 B b t ((w.heap.size, (O0_ v q)) :: bx) S := by rw [hS]; exact h.alloc _
 have hWS : Hid (S = _) := hS
 clear hS
 replace h := hi_ h
 have c1 := so_R w0 B b v q w16_ 1 t hv hA _ _ h0 hF
 replace c1 := hi_ c1
 have hag : Hid (Value.agg #[.int .u8 v.kind, .int .i64 v.n, .string v.s, .slice q.argsa q.argsn q.argsc, .slice q.namesa q.namesn q.namesc, .slice q.valsa q.valsn q.valsc, .int .u8 v.elem, .slice q.keya q.keyn q.keyc, .slice q.actsa q.actsn q.actsc, .string v.site] = .agg #[.int .u8 9, .int .i64 v.n, .string v.s, .slice q.argsa q.argsn q.argsc, .slice q.namesa q.namesn q.namesc, .slice q.valsa q.valsn q.valsc, .int .u8 v.elem, .slice q.keya q.keyn q.keyc, .slice q.actsa q.actsn q.actsc, .string v.site]) := by show _ = _; rw [he]
 have hv' := hi_ hv
 replace he := hi_ he
 clear hF hv
 go_enter Tryz.func43, Tryz.ntmps43
 obtain ⟨x0, x1, x2, x3, x4, x5, x6, x7, x8, x9⟩ := c10_ (h0.box M0_)
 rw [he.out] at x0
 have c1a := c1.out
 rw [hag.out] at c1a
 replace c1a := hi_ c1a
 replace h0 := hi_ h0
 go_wp2_with (first | (rw [← hWS.out]) | (go_at_call 67; refine c1a.out.mono ?_))
 first | rintro e w4 rfl h4 | rintro e w4 ⟨rfl, h4⟩
 clear x0 x1 x2 x3 x4 x5 x6 x7 x8 x9
 replace h4 := hi_ h4.drop
 go_wp2_with fail
 exact bodyPost_end (v := .tuple #[]) (results_none (by kernel_rfl) _ _ _) rfl ⟨rfl, h4.out⟩
theorem form7_R (w0 : World) (B b : Nat) (v : Ex) (q : QEx) (t : RS) (he : v.kind = 7) (hv : ExAt w0 B v q) (hA : ExsR w0 B b v.args) (_hV : ExsR w0 B b v.vals) (_hK : ExsR w0 B b v.key) (_hC : AcsR w0 B b v.acts) (_hP : PairsR w0 B b v) : DoesR w0 B b 43 #[.pointer (some ⟨b, 0, none⟩), .agg (A0_ v q)] t ((RS.form v (rExs v.args) (rExs v.vals) (rExs v.key) (rAcs v.acts) (rPairs v.vals v.names)) t) := by
 unfold A0_
 intro bx w h hF
 have hL := hi_ hv.lens
 have hmx := ExLens.maxes hv
 have hs := hv.s
 have hn := hv.n
 have hEq : (RS.form v (rExs v.args) (rExs v.vals) (rExs v.key) (rAcs v.acts) (rPairs v.vals v.names)) t = rExs v.args (((t.put w14_).must (bareB v false true true false false && decide (v.args.length = 2))).plain v.s) := by
  unfold RS.form
  rw [if_neg (by omega), if_neg (by omega), if_neg (by omega), if_neg (by omega), if_pos he]
 rw [hEq] at hF ⊢
 clear hEq
 have f3 := FitR.exs hv.args hF
 have f2 : FitR ((t.put w14_).must (bareB v false true true false false && decide (v.args.length = 2))) := FitR.plain f3
 have f1 : FitR (t.put w14_) := f2
 obtain ⟨S, hS⟩ : ∃ S, S = w.alloc ((O0_ v q)) := ⟨_, rfl⟩
 have h0 : RK w0 B b t ((w.heap.size, (O0_ v q)) :: bx) S := by rw [hS]; exact h.alloc _
 have hWS : Hid (S = _) := hS
 clear hS
 replace h := hi_ h
 have c1 := hi_ (put_R w0 B b t w14_ _ _ h0 f1)
 have cM := hi_ (must_as w0 B b (t.put w14_) (bareB v false true true false false && decide (v.args.length = 2)) ((w.heap.size, (O0_ v q)) :: bx) f2)
 have c2 := hi_ (fun W hW => plain_R w0 B b ((t.put w14_).must (bareB v false true true false false && decide (v.args.length = 2))) v.s hs ((w.heap.size, (O0_ v q)) :: bx) W hW f3)
 have c3 := hi_ (fun W hW => hA _ _ q.argsc (((t.put w14_).must (bareB v false true true false false && decide (v.args.length = 2))).plain v.s) hv.args ((w.heap.size, (O0_ v q)) :: bx) W hW hF)
 have hla := hi_ hL.out.args
 clear f1 f2 f3
 have hag : Hid (Value.agg #[.int .u8 v.kind, .int .i64 v.n, .string v.s, .slice q.argsa q.argsn q.argsc, .slice q.namesa q.namesn q.namesc, .slice q.valsa q.valsn q.valsc, .int .u8 v.elem, .slice q.keya q.keyn q.keyc, .slice q.actsa q.actsn q.actsc, .string v.site] = .agg #[.int .u8 7, .int .i64 v.n, .string v.s, .slice q.argsa q.argsn q.argsc, .slice q.namesa q.namesn q.namesc, .slice q.valsa q.valsn q.valsc, .int .u8 v.elem, .slice q.keya q.keyn q.keyc, .slice q.actsa q.actsn q.actsc, .string v.site]) := by show _ = _; rw [he]
 have hv' := hi_ hv
 replace he := hi_ he
 clear hF hv
 go_enter Tryz.func43, Tryz.ntmps43
 obtain ⟨x0, -⟩ := c10_ (h0.box M0_)
 rw [he.out] at x0
 replace h0 := hi_ h0
 go_wp2_with (first | (rw [← hWS.out]) | (go_at_call 17; refine c1.out.mono ?_))
 first | rintro e wa rfl ha | rintro e wa ⟨rfl, ha⟩
 clear x0
 go_upto_region 15 with fail
 go_cut [] (fun wx => RK w0 B b ((t.put w14_).must (bareB v false true true false false && decide (v.args.length = 2))) ((w.heap.size, (O0_ v q)) :: bx) wx)
 case first =>
  obtain ⟨x0, x1, x2, x3, x4, x5, x6, x7, x8, x9⟩ := c10_ (ha.box M0_)
  rw [he.out] at x0
  have cB := bare_any v q false true true false wa hL.out
  rw [hag.out] at cB
  replace cB := hi_ cB
  replace ha := hi_ ha
  go_wp2_with (go_at_call 40; refine cB.out.mono ?_)
  first | rintro e w1 rfl hbw1 | rintro e w1 ⟨rfl, hbw1⟩
  clear x0 x1 x2 x3 x4 x5 x6 x7 x8 x9
  have h1 := ha.out.below hbw1
  replace hbw1 := hi_ hbw1
  generalize bareB v false true true false false = U at *
  cases U
  ·replace h1 := hi_ h1
   go_wp2_with (go_at_call 34; refine (cM.out _ _ h1.out (by simp)).mono ?_)
   first | rintro e w9 rfl h9 | rintro e w9 ⟨rfl, h9⟩
   replace h9 := hi_ h9
   go_wp2_with fail
   go_meet
   exact h9.out
  ·skip
   obtain ⟨-, -, -, x3, -⟩ := c10_ (h1.box M0_)
   replace h1 := hi_ h1
   go_wp2_with (go_at_call 34; refine (cM.out _ _ h1.out (by rw [← hla.out, Bool.eq_iff_iff]; simp; omega)).mono ?_)
   first | rintro e w9 rfl h9 | rintro e w9 ⟨rfl, h9⟩
   replace h9 := hi_ h9
   go_wp2_with fail
   go_meet
   exact h9.out
 case rest =>
  obtain ⟨-, -, x2, -⟩ := c10_ (hcut.box M0_)
  replace hcut := hi_ hcut
  go_wp2_with (go_at_call 18; refine (c2.out wc hcut.out).mono ?_)
  first | rintro e w3 rfl h3 | rintro e w3 ⟨rfl, h3⟩
  clear x2
  obtain ⟨-, -, -, x3, -⟩ := c10_ (h3.box M0_)
  replace h3 := hi_ h3
  go_wp2_with (go_at_call 37; refine (c3.out w3 h3.out).mono ?_)
  first | rintro e w4 rfl h4 | rintro e w4 ⟨rfl, h4⟩
  replace h4 := hi_ h4.drop
  go_wp2_with fail
  exact bodyPost_end (v := .tuple #[]) (results_none (by kernel_rfl) _ _ _) rfl ⟨rfl, h4.out⟩
theorem form10_R (w0 : World) (B b : Nat) (v : Ex) (q : QEx) (t : RS) (he : v.kind = 10) (hv : ExAt w0 B v q) (_hA : ExsR w0 B b v.args) (_hV : ExsR w0 B b v.vals) (_hK : ExsR w0 B b v.key) (_hC : AcsR w0 B b v.acts) (hP : PairsR w0 B b v) : DoesR w0 B b 43 #[.pointer (some ⟨b, 0, none⟩), .agg (A0_ v q)] t ((RS.form v (rExs v.args) (rExs v.vals) (rExs v.key) (rAcs v.acts) (rPairs v.vals v.names)) t) := by
 unfold A0_
 intro bx w h hF
 have hL := hi_ hv.lens
 have hmx := ExLens.maxes hv
 have hs := hv.s
 have hn := hv.n
 have hEq : (RS.form v (rExs v.args) (rExs v.vals) (rExs v.key) (rAcs v.acts) (rPairs v.vals v.names)) t = RS.pairsF v (rPairs v.vals v.names) ((t.put w13_).must (bareB v false false false true false)) := by
  unfold RS.form
  rw [if_neg (by omega), if_neg (by omega), if_neg (by omega), if_neg (by omega), if_neg (by omega), if_pos he]
 rw [hEq] at hF ⊢
 clear hEq
 have f2 : FitR ((t.put w13_).must (bareB v false false false true false)) := (FitR.pairs hv.vals (show FitR (rPairs v.vals v.names ((((t.put w13_).must (bareB v false false false true false))).must _)) from hF)).must
 have f1 : FitR (t.put w13_) := f2
 obtain ⟨S, hS⟩ : ∃ S, S = w.alloc ((O0_ v q)) := ⟨_, rfl⟩
 have h0 : RK w0 B b t ((w.heap.size, (O0_ v q)) :: bx) S := by rw [hS]; exact h.alloc _
 have hWS : Hid (S = _) := hS
 clear hS
 replace h := hi_ h
 have c1 := hi_ (put_R w0 B b t w13_ _ _ h0 f1)
 have cM := hi_ (must_as w0 B b (t.put w13_) (bareB v false false false true false) ((w.heap.size, (O0_ v q)) :: bx) f2)
 have c2 := hi_ (fun W hW => hP q ((t.put w13_).must (bareB v false false false true false)) hv ((w.heap.size, (O0_ v q)) :: bx) W hW hF)
 clear f1 f2
 have hag : Hid (Value.agg #[.int .u8 v.kind, .int .i64 v.n, .string v.s, .slice q.argsa q.argsn q.argsc, .slice q.namesa q.namesn q.namesc, .slice q.valsa q.valsn q.valsc, .int .u8 v.elem, .slice q.keya q.keyn q.keyc, .slice q.actsa q.actsn q.actsc, .string v.site] = .agg #[.int .u8 10, .int .i64 v.n, .string v.s, .slice q.argsa q.argsn q.argsc, .slice q.namesa q.namesn q.namesc, .slice q.valsa q.valsn q.valsc, .int .u8 v.elem, .slice q.keya q.keyn q.keyc, .slice q.actsa q.actsn q.actsc, .string v.site]) := by show _ = _; rw [he]
 have hv' := hi_ hv
 replace he := hi_ he
 clear hF hv
 go_enter Tryz.func43, Tryz.ntmps43
 obtain ⟨x0, -⟩ := c10_ (h0.box M0_)
 rw [he.out] at x0
 replace h0 := hi_ h0
 go_wp2_with (first | (rw [← hWS.out]) | (go_at_call 17; refine c1.out.mono ?_))
 first | rintro e wa rfl ha | rintro e wa ⟨rfl, ha⟩
 clear x0
 obtain ⟨x0, x1, x2, x3, x4, x5, x6, x7, x8, x9⟩ := c10_ (ha.box M0_)
 rw [he.out] at x0
 have cB := bare_any v q false false false true wa hL.out
 rw [hag.out] at cB
 replace cB := hi_ cB
 replace ha := hi_ ha
 go_wp2_with (go_at_call 40; refine cB.out.mono ?_)
 first | rintro e w1 rfl hbw1 | rintro e w1 ⟨rfl, hbw1⟩
 clear x0 x1 x2 x3 x4 x5 x6 x7 x8 x9
 have h1 := ha.out.below hbw1
 replace hbw1 := hi_ hbw1
 replace h1 := hi_ h1
 go_wp2_with (go_at_call 34; refine (cM.out _ _ h1.out rfl).mono ?_)
 first | rintro e w2 rfl h2 | rintro e w2 ⟨rfl, h2⟩
 have c2a := c2.out w2 h2
 rw [hag.out] at c2a
 replace c2a := hi_ c2a
 obtain ⟨x0, x1, x2, x3, x4, x5, x6, x7, x8, x9⟩ := c10_ (h2.box M0_)
 rw [he.out] at x0
 replace h2 := hi_ h2
 go_wp2_with (go_at_call 68; refine c2a.out.mono ?_)
 first | rintro e w4 rfl h4 | rintro e w4 ⟨rfl, h4⟩
 clear x0 x1 x2 x3 x4 x5 x6 x7 x8 x9
 replace h4 := hi_ h4.drop
 go_wp2_with fail
 exact bodyPost_end (v := .tuple #[]) (results_none (by kernel_rfl) _ _ _) rfl ⟨rfl, h4.out⟩
theorem site_eq (s n : ByteArray) (d : Int) : (s.toList == (n ++ ⟨#[35]⟩ ++ bs (Lib.itoa d)).toList) = decide (s = n ++ bs (35 :: Lib.itoa d)) := by
 rw [str_beq]
 have : n ++ ⟨#[35]⟩ ++ bs (Lib.itoa d) = n ++ bs (35 :: Lib.itoa d) := by
  apply ba_ext; simp [bs]
 rw [this]
theorem elem_R (w0 : World) (B b : Nat) (v : Ex) (q : QEx) (t : RS) (hv : ExAt w0 B v q) (hA : ExsR w0 B b v.args) (hV : ExsR w0 B b v.vals) (hK : ExsR w0 B b v.key) (hP : PairsR w0 B b v) :
  DoesR w0 B b 69 #[.pointer (some ⟨b, 0, none⟩), .agg (A0_ v q)] t (RS.elem v (rExs v.args) (rExs v.vals) (rExs v.key) (RS.pairsF v (rPairs v.vals v.names)) t) := by
 unfold A0_
 have h0 := u8_nonneg hv.elem
 by_cases h : v.elem = 0 ∨ 9 ≤ v.elem
 ·exact elem0_R w0 B b v q t h hv hA hV hK hP
 have h8 : v.elem = 1 ∨ v.elem = 2 ∨ v.elem = 3 ∨ v.elem = 4 ∨ v.elem = 5 ∨ v.elem = 6 ∨ v.elem = 7 ∨ v.elem = 8 := by omega
 rcases h8 with e | e | e | e | e | e | e | e
 ·exact elem1_R w0 B b v q t e hv hA hV hK hP
 ·exact elem2_R w0 B b v q t e hv hA hV hK hP
 ·exact elem3_R w0 B b v q t e hv hA hV hK hP
 ·exact elem4_R w0 B b v q t e hv hA hV hK hP
 ·exact elem5_R w0 B b v q t e hv hA hV hK hP
 ·exact elem6_R w0 B b v q t e hv hA hV hK hP
 ·exact elem7_R w0 B b v q t e hv hA hV hK hP
 ·exact elem8_R w0 B b v q t e hv hA hV hK hP
theorem wrap_is (n : Int) : IntKind.i64.wrap n = wrap64 n := IntWalk.i64_left n
theorem wrap_wf (n : Int) : (Lit.int .i64 (IntKind.i64.wrap n)).wf = true := by
 simp only [Lit.wf, IntKind.wrap, IntKind.min, IntKind.max, IntKind.signed, IntKind.bits]
 simp
 omega
theorem deed_K {w0 : World} {B b : Nat} {t : RS} {bx : Bx} {w : World} (h : RK w0 B b t bx w) : RK w0 B b t.deed bx (w.setCell ⟨b, 3, none⟩ (.int .i64 (IntKind.i64.wrap (t.deeds + 1)))) :=
 h.head (C' := RC t.deed) 3 _ (by
  rintro v cs ⟨rfl, h2, h3⟩
  refine ⟨rfl, ?_, h3⟩
  show (Lit.int .i64 (IntKind.i64.wrap (t.deeds + 1))).wf = true
  exact wrap_wf _)
theorem form11_R (w0 : World) (B b : Nat) (v : Ex) (q : QEx) (t : RS) (he : v.kind = 11) (hv : ExAt w0 B v q) (hA : ExsR w0 B b v.args) (hV : ExsR w0 B b v.vals) (hK : ExsR w0 B b v.key) (_hC : AcsR w0 B b v.acts) (hP : PairsR w0 B b v) : DoesR w0 B b 43 #[.pointer (some ⟨b, 0, none⟩), .agg (A0_ v q)] t ((RS.form v (rExs v.args) (rExs v.vals) (rExs v.key) (rAcs v.acts) (rPairs v.vals v.names)) t) := by
 unfold A0_
 intro bx w h hF
 have hL := hi_ hv.lens
 have hmx := ExLens.maxes hv
 have hs := hv.s
 have hn := hv.n
 have hEq : (RS.form v (rExs v.args) (rExs v.vals) (rExs v.key) (rAcs v.acts) (rPairs v.vals v.names)) t = RS.elem v (rExs v.args) (rExs v.vals) (rExs v.key) (RS.pairsF v (rPairs v.vals v.names)) t := by
  unfold RS.form
  rw [if_neg (by omega), if_neg (by omega), if_neg (by omega), if_neg (by omega), if_neg (by omega), if_neg (by omega), if_neg (by omega), if_pos he]
 rw [hEq] at hF ⊢
 clear hEq

 obtain ⟨S, hS⟩ : ∃ S, S = w.alloc ((O0_ v q)) := ⟨_, rfl⟩
 have h0 : RK w0 B b t ((w.heap.size, (O0_ v q)) :: bx) S := by rw [hS]; exact h.alloc _
 have hWS : Hid (S = _) := hS
 clear hS
 replace h := hi_ h
 have c1 := hi_ (elem_R w0 B b v q t hv hA hV hK hP _ _ h0 hF)
 have hag : Hid (Value.agg #[.int .u8 v.kind, .int .i64 v.n, .string v.s, .slice q.argsa q.argsn q.argsc, .slice q.namesa q.namesn q.namesc, .slice q.valsa q.valsn q.valsc, .int .u8 v.elem, .slice q.keya q.keyn q.keyc, .slice q.actsa q.actsn q.actsc, .string v.site] = .agg #[.int .u8 11, .int .i64 v.n, .string v.s, .slice q.argsa q.argsn q.argsc, .slice q.namesa q.namesn q.namesc, .slice q.valsa q.valsn q.valsc, .int .u8 v.elem, .slice q.keya q.keyn q.keyc, .slice q.actsa q.actsn q.actsc, .string v.site]) := by show _ = _; rw [he]
 have hv' := hi_ hv
 replace he := hi_ he
 clear hF hv
 go_enter Tryz.func43, Tryz.ntmps43
 obtain ⟨x0, x1, x2, x3, x4, x5, x6, x7, x8, x9⟩ := c10_ (h0.box M0_)
 rw [he.out] at x0
 have c1a := c1.out
 rw [hag.out] at c1a
 replace c1a := hi_ c1a
 replace h0 := hi_ h0
 go_wp2_with (first | (rw [← hWS.out]) | (go_at_call 69; refine c1a.out.mono ?_))
 first | rintro e w4 rfl h4 | rintro e w4 ⟨rfl, h4⟩
 clear x0 x1 x2 x3 x4 x5 x6 x7 x8 x9
 replace h4 := hi_ h4.drop
 go_wp2_with fail
 exact bodyPost_end (v := .tuple #[]) (results_none (by kernel_rfl) _ _ _) rfl ⟨rfl, h4.out⟩
theorem form0_R (w0 : World) (B b : Nat) (v : Ex) (q : QEx) (t : RS) (he : ¬ v.kind = 5 ∧ ¬ v.kind = 6 ∧ ¬ v.kind = 8 ∧ ¬ v.kind = 9 ∧ ¬ v.kind = 7 ∧ ¬ v.kind = 10 ∧ ¬ v.kind = 12 ∧ ¬ v.kind = 11) : DoesR w0 B b 43 #[.pointer (some ⟨b, 0, none⟩), .agg (A0_ v q)] t ((RS.form v (rExs v.args) (rExs v.vals) (rExs v.key) (rAcs v.acts) (rPairs v.vals v.names)) t) := by
 unfold A0_
 intro bx w h hF
 have hEq : (RS.form v (rExs v.args) (rExs v.vals) (rExs v.key) (rAcs v.acts) (rPairs v.vals v.names)) t = t.must false := by
  unfold RS.form
  rw [if_neg he.1, if_neg he.2.1, if_neg he.2.2.1, if_neg he.2.2.2.1, if_neg he.2.2.2.2.1, if_neg he.2.2.2.2.2.1, if_neg he.2.2.2.2.2.2.1, if_neg he.2.2.2.2.2.2.2]
 rw [hEq] at hF ⊢
 clear hEq
 obtain ⟨S, hS⟩ : ∃ S, S = w.alloc ((O0_ v q)) := ⟨_, rfl⟩
 have h0 : RK w0 B b t ((w.heap.size, (O0_ v q)) :: bx) S := by rw [hS]; exact h.alloc _
 have hWS : Hid (S = _) := hS
 clear hS
 replace h := hi_ h
 have c1 := hi_ (must_R w0 B b t false _ _ h0 hF)
 obtain ⟨x0, -⟩ := c10_ (h0.box M0_)
 obtain ⟨e5, e6, e8, e9, e7, e10, e12, e11⟩ := he
 have y5 : (v.kind == 5) = false := by simp [e5]
 clear e5
 have y6 : (v.kind == 6) = false := by simp [e6]
 clear e6
 have y8 : (v.kind == 8) = false := by simp [e8]
 clear e8
 have y9 : (v.kind == 9) = false := by simp [e9]
 clear e9
 have y7 : (v.kind == 7) = false := by simp [e7]
 clear e7
 have y10 : (v.kind == 10) = false := by simp [e10]
 clear e10
 have y12 : (v.kind == 12) = false := by simp [e12]
 clear e12
 have y11 : (v.kind == 11) = false := by simp [e11]
 clear e11
 replace h0 := hi_ h0
 clear hF
 go_enter Tryz.func43, Tryz.ntmps43
 go_wp2_with (first | (rw [← hWS.out]) | (go_at_call 34; refine c1.out.mono ?_))
 first | rintro e w4 rfl h4 | rintro e w4 ⟨rfl, h4⟩
 clear x0 y5 y6 y8 y9 y7 y10 y12 y11
 replace h4 := hi_ h4.drop
 go_wp2_with fail
 exact bodyPost_end (v := .tuple #[]) (results_none (by kernel_rfl) _ _ _) rfl ⟨rfl, h4.out⟩
theorem form12_R (w0 : World) (B b : Nat) (v : Ex) (q : QEx) (t : RS) (he : v.kind = 12) (hv : ExAt w0 B v q) (_hA : ExsR w0 B b v.args) (_hV : ExsR w0 B b v.vals) (_hK : ExsR w0 B b v.key) (hC : AcsR w0 B b v.acts) (_hP : PairsR w0 B b v) : DoesR w0 B b 43 #[.pointer (some ⟨b, 0, none⟩), .agg (A0_ v q)] t ((RS.form v (rExs v.args) (rExs v.vals) (rExs v.key) (rAcs v.acts) (rPairs v.vals v.names)) t) := by
 unfold A0_
 intro bx w h hF
 have hL := hi_ hv.lens
 have hmx := ExLens.maxes hv
 have hs := hv.s
 have hn := hv.n
 have hEq : (RS.form v (rExs v.args) (rExs v.vals) (rExs v.key) (rAcs v.acts) (rPairs v.vals v.names)) t = rAcs v.acts (((t.put [100, 111]).must (siteB v t.name t.deeds)).must (bareB v false false false false true)).deed := by
  unfold RS.form
  rw [if_neg (by omega), if_neg (by omega), if_neg (by omega), if_neg (by omega), if_neg (by omega), if_neg (by omega), if_pos he]
 rw [hEq] at hF ⊢
 clear hEq
 have f3 : FitR (((t.put [100, 111]).must (siteB v t.name t.deeds)).must (bareB v false false false false true)) := show FitR (((t.put [100, 111]).must (siteB v t.name t.deeds)).must (bareB v false false false false true)).deed from FitR.acs hv.acts hF
 have f2 : FitR ((t.put [100, 111]).must (siteB v t.name t.deeds)) := f3
 have f1 : FitR (t.put [100, 111]) := f3
 obtain ⟨S, hS⟩ : ∃ S, S = w.alloc ((O0_ v q)) := ⟨_, rfl⟩
 have h0 : RK w0 B b t ((w.heap.size, (O0_ v q)) :: bx) S := by rw [hS]; exact h.alloc _
 have hWS : Hid (S = _) := hS
 clear hS
 replace h := hi_ h
 have c1 := hi_ (put_R w0 B b t [100, 111] _ _ h0 f1)
 have cM := hi_ (must_as w0 B b (t.put [100, 111]) (siteB v t.name t.deeds) ((w.heap.size, (O0_ v q)) :: bx) f2)
 have cM2 := hi_ (must_as w0 B b ((t.put [100, 111]).must (siteB v t.name t.deeds)) (bareB v false false false false true) ((w.heap.size, (O0_ v q)) :: bx) f3)
 have c3 := hi_ (fun W hW => hC _ _ q.actsc (((t.put [100, 111]).must (siteB v t.name t.deeds)).must (bareB v false false false false true)).deed hv.acts ((w.heap.size, (O0_ v q)) :: bx) W hW hF)
 have hst := hv.site
 clear f1 f2 f3
 have hag : Hid (Value.agg #[.int .u8 v.kind, .int .i64 v.n, .string v.s, .slice q.argsa q.argsn q.argsc, .slice q.namesa q.namesn q.namesc, .slice q.valsa q.valsn q.valsc, .int .u8 v.elem, .slice q.keya q.keyn q.keyc, .slice q.actsa q.actsn q.actsc, .string v.site] = .agg #[.int .u8 12, .int .i64 v.n, .string v.s, .slice q.argsa q.argsn q.argsc, .slice q.namesa q.namesn q.namesc, .slice q.valsa q.valsn q.valsc, .int .u8 v.elem, .slice q.keya q.keyn q.keyc, .slice q.actsa q.actsn q.actsc, .string v.site]) := by show _ = _; rw [he]
 have hv' := hi_ hv
 replace he := hi_ he
 clear hF hv
 go_enter Tryz.func43, Tryz.ntmps43
 obtain ⟨x0, -⟩ := c10_ (h0.box M0_)
 rw [he.out] at x0
 replace h0 := hi_ h0
 go_wp2_with (first | (rw [← hWS.out]) | (go_at_call 17; refine c1.out.mono ?_))
 first | rintro e wa rfl ha | rintro e wa ⟨rfl, ha⟩
 clear x0
 obtain ⟨vb, hb, _, _, _, hd, hnm⟩ := RK.cells ha
 have hlt := ha.lt
 have hYb := ha.box M0_
 have hYl := (ha.boxlt M0_).1
 have n0 : ∀ d : LowW wa, d.w.cell? ⟨b, 2, none⟩ = some (.string t.name) := fun d => (d.cell hlt).trans (by simp [World.cell?, hb]; rfl)
 have d0 : ∀ d : LowW wa, d.w.cell? ⟨b, 3, none⟩ = some (.int .i64 t.deeds) := fun d => (d.cell hlt).trans (by simp [World.cell?, hb]; rfl)
 obtain ⟨-, -, -, -, -, -, -, -, -, s0⟩ := l10_ hYl hYb
 have hd9 := n64 (show (Lit.int .i64 t.deeds).wf = true from hd)
 have hnm9 : t.name.size ≤ 140737488355328 := hnm
 have hil := itoa_len t.deeds hd
 have hzs : (bs (Lib.itoa t.deeds)).size ≤ 21 := by rw [bs_size]; exact hil
 have cD := hi_ (fun d : LowW wa => (refDigits_any t.deeds d.w hd9.1 hd9.2).mono fun e w' (h : e = .returned (.string (bs (Lib.itoa t.deeds))) ∧ Below d.w.heap.size d.w w') => (⟨h.1, d.more h.2⟩ : e = .returned (.string (bs (Lib.itoa t.deeds))) ∧ ∃ d' : LowW wa, w' = d'.w))
 have cM3 := hi_ (fun (d : LowW wa) ok => cM.out ok d.w (ha.below d.low))
 obtain ⟨Z, hZ⟩ : ∃ Z, Z = bs (Lib.itoa t.deeds) := ⟨_, rfl⟩
 rw [← hZ] at cD hzs
 have hse := hi_ (site_eq v.site t.name t.deeds)
 rw [← hZ] at hse
 replace hZ := hi_ hZ
 replace ha := hi_ ha
 clear hb hYb hd hnm hd9 hil
 go_wp2_with fail
 refine wp_region_low_last 15 rfl rfl (by kernel_rfl) (by kernel_rfl) (by kernel_rfl) ?_
 simp only [List.take_succ_cons, List.take_zero]
 repeat (go_big_quiet_step (first | (go_at_call 41; exact cD.out _)))
 refine wpQuiet_nil ?_
 rintro _ ⟨d, rfl⟩ K hKK
 go_simp
 go_at_call 34
 refine (cM3.out d _ (by rw [siteB]; exact hse.out)).mono ?_
 rintro e w3 ⟨rfl, h3⟩
 refine hKK.out _ _ ?_
 clear hKK K n0 d0 s0
 go_upto_region 25 with fail
 go_cut [] (fun wx => RK w0 B b (((t.put [100, 111]).must (siteB v t.name t.deeds)).must (bareB v false false false false true)) ((w.heap.size, (O0_ v q)) :: bx) wx)
 case first =>
  obtain ⟨-, x1, x2, x3, x4, x5, x6, x7, -⟩ := c10_ (h3.box M0_)
  replace h3 := hi_ h3
  have hok : Hid (bareB v false false false false true = (decide (v.n = 0) && decide (v.s.size = 0) && decide (q.argsn = 0) && (decide (q.namesn = 0) && decide (q.valsn = 0)) && decide (v.elem = 0) && decide (q.keyn = 0))) := by
   show _ = _
   rw [hL.out.args, hL.out.names, hL.out.vals, hL.out.key]
   unfold bareB; simp
  clear hmx
  by_cases c1 : v.n = 0
  ·skip
   have yc10 : (v.n == 0) = true := by simp [c1]
   replace c1 := hi_ c1
   by_cases c2 : v.s.size = 0
   ·skip
    have yc20 : v.s.toList = [] := by rw [size_nil]; exact c2
    have yc21 : v.s.toList.isEmpty = true := by rw [size_emp]; simp [c2]
    replace c2 := hi_ c2
    by_cases c3 : q.argsn = 0
    ·skip
     have yc30 : ((q.argsn : Int) == 0) = true := by simp [c3]
     replace c3 := hi_ c3
     by_cases c4 : q.namesn = 0
     ·skip
      have yc40 : ((q.namesn : Int) == 0) = true := by simp [c4]
      replace c4 := hi_ c4
      by_cases c5 : q.valsn = 0
      ·skip
       have yc50 : ((q.valsn : Int) == 0) = true := by simp [c5]
       replace c5 := hi_ c5
       by_cases c6 : v.elem = 0
       ·skip
        have yc60 : (v.elem == 0) = true := by simp [c6]
        replace c6 := hi_ c6
        go_wp2_with (go_at_call 34; refine (cM2.out _ _ h3.out (by rw [hok.out, Bool.eq_iff_iff]; simp [c1.out, c2.out, c3.out, c4.out, c5.out, c6.out])).mono ?_)
        first | rintro e w9 rfl h9 | rintro e w9 ⟨rfl, h9⟩
        replace h9 := hi_ h9
        clear yc10 yc20 yc21 yc30 yc40 yc50 yc60
        go_wp2_with fail
        go_meet
        exact h9.out
       ·skip
        have yc60 : (v.elem == 0) = false := by simp [c6]
        replace c6 := hi_ c6
        go_wp2_with (go_at_call 34; refine (cM2.out _ _ h3.out (by rw [hok.out, Bool.eq_iff_iff]; simp [c1.out, c2.out, c3.out, c4.out, c5.out, c6.out])).mono ?_)
        first | rintro e w9 rfl h9 | rintro e w9 ⟨rfl, h9⟩
        replace h9 := hi_ h9
        clear yc10 yc20 yc21 yc30 yc40 yc50 yc60
        go_wp2_with fail
        go_meet
        exact h9.out
      ·skip
       have yc50 : ((q.valsn : Int) == 0) = false := by simp [c5]
       replace c5 := hi_ c5
       go_wp2_with (go_at_call 34; refine (cM2.out _ _ h3.out (by rw [hok.out, Bool.eq_iff_iff]; simp [c1.out, c2.out, c3.out, c4.out, c5.out])).mono ?_)
       first | rintro e w9 rfl h9 | rintro e w9 ⟨rfl, h9⟩
       replace h9 := hi_ h9
       clear yc10 yc20 yc21 yc30 yc40 yc50
       go_wp2_with fail
       go_meet
       exact h9.out
     ·skip
      have yc40 : ((q.namesn : Int) == 0) = false := by simp [c4]
      replace c4 := hi_ c4
      go_wp2_with (go_at_call 34; refine (cM2.out _ _ h3.out (by rw [hok.out, Bool.eq_iff_iff]; simp [c1.out, c2.out, c3.out, c4.out])).mono ?_)
      first | rintro e w9 rfl h9 | rintro e w9 ⟨rfl, h9⟩
      replace h9 := hi_ h9
      clear yc10 yc20 yc21 yc30 yc40
      go_wp2_with fail
      go_meet
      exact h9.out
    ·skip
     have yc30 : ((q.argsn : Int) == 0) = false := by simp [c3]
     replace c3 := hi_ c3
     go_wp2_with (go_at_call 34; refine (cM2.out _ _ h3.out (by rw [hok.out, Bool.eq_iff_iff]; simp [c1.out, c2.out, c3.out])).mono ?_)
     first | rintro e w9 rfl h9 | rintro e w9 ⟨rfl, h9⟩
     replace h9 := hi_ h9
     clear yc10 yc20 yc21 yc30
     go_wp2_with fail
     go_meet
     exact h9.out
   ·skip
    have yc20 : ¬ v.s.toList = [] := by rw [size_nil]; exact c2
    have yc21 : v.s.toList.isEmpty = false := by rw [size_emp]; simp [c2]
    have yc22 : (v.s.toList == []) = false := by rw [size_beq]; simp [c2]
    replace c2 := hi_ c2
    go_wp2_with (go_at_call 34; refine (cM2.out _ _ h3.out (by rw [hok.out, Bool.eq_iff_iff]; simp [c1.out, c2.out])).mono ?_)
    first | rintro e w9 rfl h9 | rintro e w9 ⟨rfl, h9⟩
    replace h9 := hi_ h9
    clear yc10 yc20 yc21 yc22
    go_wp2_with fail
    go_meet
    exact h9.out
  ·skip
   have yc10 : (v.n == 0) = false := by simp [c1]
   replace c1 := hi_ c1
   go_wp2_with (go_at_call 34; refine (cM2.out _ _ h3.out (by rw [hok.out, Bool.eq_iff_iff]; simp [c1.out])).mono ?_)
   first | rintro e w9 rfl h9 | rintro e w9 ⟨rfl, h9⟩
   replace h9 := hi_ h9
   clear yc10
   go_wp2_with fail
   go_meet
   exact h9.out
 case rest =>
  obtain ⟨vb, hb, _, _, _, hd, hnm⟩ := RK.cells hcut
  have d3 : wc.cell? ⟨b, 3, none⟩ = some (.int .i64 t.deeds) := by simp [World.cell?, hb]; rfl
  have f3 : wc.frozen? ⟨b, 3, none⟩ = false := fz_ hb
  have hD := deed_K hcut
  rw [show IntKind.i64.wrap ((((t.put [100, 111]).must (siteB v t.name t.deeds)).must (bareB v false false false false true)).deeds + 1) = wrap64 (t.deeds + 1) from wrap_is _] at hD
  obtain ⟨W5, hW5⟩ : ∃ W5, W5 = wc.setCell ⟨b, 3, none⟩ (.int .i64 (wrap64 (t.deeds + 1))) := ⟨_, rfl⟩
  have h5 : RK w0 B b (((t.put [100, 111]).must (siteB v t.name t.deeds)).must (bareB v false false false false true)).deed ((w.heap.size, (O0_ v q)) :: bx) W5 := by rw [hW5]; exact hD
  have hW5' : Hid (W5 = _) := hW5
  clear hD hW5 hb hd hnm
  replace hcut := hi_ hcut
  obtain ⟨-, -, -, -, -, -, -, -, x8, -⟩ := c10_ (h5.box M0_)
  replace h5 := hi_ h5
  go_wp2_with (first | (rw [← hW5'.out]) | (go_at_call 65; refine (c3.out W5 h5.out).mono ?_))
  first | rintro e w4 rfl h4 | rintro e w4 ⟨rfl, h4⟩
  replace h4 := hi_ h4.drop
  go_wp2_with fail
  exact bodyPost_end (v := .tuple #[]) (results_none (by kernel_rfl) _ _ _) rfl ⟨rfl, h4.out⟩
theorem form_R (w0 : World) (B b : Nat) (v : Ex) (q : QEx) (t : RS) (hv : ExAt w0 B v q) (hA : ExsR w0 B b v.args) (hV : ExsR w0 B b v.vals) (hK : ExsR w0 B b v.key) (hC : AcsR w0 B b v.acts) (hP : PairsR w0 B b v) : DoesR w0 B b 43 #[.pointer (some ⟨b, 0, none⟩), .agg (A0_ v q)] t ((RS.form v (rExs v.args) (rExs v.vals) (rExs v.key) (rAcs v.acts) (rPairs v.vals v.names)) t) := by
 unfold A0_
 by_cases h5 : v.kind = 5
 ·exact form5_R w0 B b v q t h5 hv hA hV hK hC hP
 by_cases h6 : v.kind = 6
 ·exact form6_R w0 B b v q t h6 hv hA hV hK hC hP
 by_cases h8 : v.kind = 8
 ·exact form8_R w0 B b v q t h8 hv hA hV hK hC hP
 by_cases h9 : v.kind = 9
 ·exact form9_R w0 B b v q t h9 hv hA hV hK hC hP
 by_cases h7 : v.kind = 7
 ·exact form7_R w0 B b v q t h7 hv hA hV hK hC hP
 by_cases h10 : v.kind = 10
 ·exact form10_R w0 B b v q t h10 hv hA hV hK hC hP
 by_cases h12 : v.kind = 12
 ·exact form12_R w0 B b v q t h12 hv hA hV hK hC hP
 by_cases h11 : v.kind = 11
 ·exact form11_R w0 B b v q t h11 hv hA hV hK hC hP
 exact form0_R w0 B b v q t ⟨h5, h6, h8, h9, h7, h10, h12, h11⟩
end Go.Proofs.YtlppklbmdedipaaGreatDoor
