/- PrintTexts, part 17. -/
import Derived.Test.YtlppklbmdedipaaGreatDoorW02
import Derived.Test.YtlppklbmdedipaaGreatDoorW16
import Derived.Deep.CutBlock
namespace Go.Proofs.YtlppklbmdedipaaGreatDoor
open Go Go.RowKit
set_option maxHeartbeats 8000000
set_option maxRecDepth 100000
theorem elem4_P (w0 : World) (B b : Nat) (v : Ex) (q : QEx) (t : PS) (he : v.elem = 4) (hB : PS.elemBad v = false) (hv : ExAt w0 B v q) (hA : ExsP w0 B b v.args) (hV : ExsP w0 B b v.vals) (hK : ExsP w0 B b v.key) (_hP : PairsP w0 B b v) : DoesP w0 B b 91 #[.pointer (some ⟨b, 0, none⟩), .agg (A0_ v q)] t (PS.elem v (pExs v.args) (pExs v.vals) (pExs v.key) (pPairs v.vals v.names) t) := by
 unfold A0_
 intro bx w h hF
 have hs := hv.s
 have hok9 := hi_ hv.ok
 have hEq : PS.elem v (pExs v.args) (pExs v.vals) (pExs v.key) (pPairs v.vals v.names) t = (pExs v.args (PS.named v [] (pExs v.vals) ((PS.keyF v (pExs v.key) (t.put w5_)).must (decide (v.s.size = 0))))) := by
  unfold PS.elem
  rw [if_neg (by rw [hB]; decide)]
  unfold PS.elemP PS.nameF
  rw [if_neg (by omega), if_pos (by omega), if_pos (by omega), he]; rfl
 rw [hEq] at hF ⊢
 clear hEq
 have f6 : FitP (PS.named v [] (pExs v.vals) ((PS.keyF v (pExs v.key) (t.put w5_)).must (decide (v.s.size = 0)))) := FitP.exs hv.args hF
 have f4 : FitP ((PS.keyF v (pExs v.key) (t.put w5_)).must (decide (v.s.size = 0))) := (FitP.exs hv.vals (show FitP (pExs v.vals (((PS.keyF v (pExs v.key) (t.put w5_)).must (decide (v.s.size = 0))).must _)) from f6)).must
 have f3 : FitP (PS.keyF v (pExs v.key) (t.put w5_)) := f4.must
 have f2 : FitP (if v.key.length = 0 then (t.put w5_).put [45] else (t.put w5_)) := FitP.exs hv.key f3
 have f1 : FitP (t.put w5_) := by
  split at f2
  ·exact f2.put
  ·exact f2
 obtain ⟨p1, hp1⟩ : ∃ p, p = w.heap.size := ⟨_, rfl⟩
 obtain ⟨S1, hS1⟩ : ∃ S, S = w.alloc ((PB_ 35 b)) := ⟨_, rfl⟩
 have k1 : PK w0 B b t ((p1, (PB_ 35 b)) :: bx) S1 := by rw [hS1, hp1]; exact h.alloc _
 obtain ⟨p3, hp3⟩ : ∃ p, p = S1.heap.size := ⟨_, rfl⟩
 obtain ⟨S2, hS2⟩ : ∃ S, S = S1.alloc ((O0_ v q)) := ⟨_, rfl⟩
 have k2 : PK w0 B b t (L2_ p3 p1 b (O0_ v q) bx) S2 := by rw [hS2, hp3]; exact k1.alloc _
 have hW1 : Hid (S1 = _) := hS1
 have hW2 : Hid (S2 = _) := hS2
 replace hp1 := hi_ hp1
 replace hp3 := hi_ hp3
 replace h := hi_ h
 replace k1 := hi_ k1
 clear hS1 hS2
 have c1 := hi_ (fun W hW => put_P w0 B b t w5_ (L2_ p3 p1 b (O26_ v q) bx) W hW f1)
 have c2 := hi_ (fun (f : FitP ((t.put w5_).put [45])) W hW => put_P w0 B b (t.put w5_) [45] (L2_ p3 p1 b (O26_ v q) bx) W hW f)
 obtain ⟨T2, hT2⟩ : ∃ T, T = (if v.key.length = 0 then (t.put w5_).put [45] else (t.put w5_)) := ⟨_, rfl⟩
 have f3' : FitP (pExs v.key T2) := by rw [hT2]; exact f3
 have c3 := hi_ (fun W hW => hK _ _ q.keyc T2 hv.key (L2_ p3 p1 b (O26_ v q) bx) W hW f3')
 replace hT2 := hi_ hT2
 clear f3'
 have c4 := hi_ (fun W ok (hW : PK w0 B b (PS.keyF v (pExs v.key) (t.put w5_)) (L2_ p3 p1 b (O26_ v q) bx) W) (e : ok = decide (v.s.size = 0)) => must_asP w0 B b (PS.keyF v (pExs v.key) (t.put w5_)) (decide (v.s.size = 0)) (L2_ p3 p1 b (O26_ v q) bx) ok W hW e f4)
 have c9 := hi_ (fun W hW => hA _ _ q.argsc (PS.named v [] (pExs v.vals) ((PS.keyF v (pExs v.key) (t.put w5_)).must (decide (v.s.size = 0)))) hv.args (L2_ p3 p1 b (O26_ v q) bx) W hW hF)
 have hv' := hi_ hv
 have hkl := hi_ hv.lens.key
 have hal := hv.lens.acts
 obtain ⟨b0, b1, b2, b3, b4, b5⟩ := elemBad_not hB
 replace f2 := hi_ f2
 have f6' := hi_ f6
 clear hF hB f1 f3 f4 f6 hs
 have hOBX : Hid (((O0_ v q) : Obj) = (O26_ v q)) := by show _ = _; simp only [O0_, O26_, A0_, A28_, he]
 obtain ⟨S3, hS3⟩ : ∃ S, S = S2.alloc (.cells A23_ 165) := ⟨_, rfl⟩
 rw [hOBX.out] at k2
 have k3 : PK w0 B b t ((S2.heap.size, O22_) :: (L2_ p3 p1 b (O26_ v q) bx)) S3 := by rw [hS3]; exact k2.alloc _
 have hst := row_store (k3.box M0_) (cs := A24_) sizeW_info rfl (by simp [Value.oneCell', A24_])
 have k4 := k3.row A24_
 obtain ⟨S4, hS4⟩ : ∃ S, S = S3.setRow S2.heap.size A24_ := ⟨_, rfl⟩
 rw [← hS4] at k4 hst
 have hW3 : Hid (S3 = _) := hS3
 replace hst := hi_ hst
 replace k2 := hi_ k2
 replace k3 := hi_ k3
 clear hS3 hS4
 have x11 := c1_ (k4.box M2_)
 obtain ⟨-, x1, -, -, -, -, x6, x7, x8, x9⟩ := c10_ (k4.box M1_)
 have xw : S4.cell? ⟨S2.heap.size, 4, none⟩ = some (.string (bs w5_)) := by
  have := k4.box M0_
  simp [World.cell?, this]; rfl
 have hk5 := k4.drop
 have y11 : ∀ d : LowW S4, d.w.cell? ⟨p1, 0, none⟩ = some (.pointer (some ⟨b, 0, none⟩)) := fun d => (d.cell (hk5.boxlt M1_).1).trans x11
 have y6 : ∀ d : LowW S4, d.w.cell? ⟨p3, 6, none⟩ = some (.int .u8 4) := fun d => (d.cell (hk5.boxlt M0_).1).trans x6
 have yw : ∀ d : LowW S4, d.w.cell? ⟨S2.heap.size, 4, none⟩ = some (.string (bs w5_)) := fun d => (d.cell (k4.boxlt M0_).1).trans xw
 have c1d := hi_ (fun d : LowW S4 => c1.out d.w (hk5.below d.low))
 have hsz4 := hk5.size
 replace hk5 := hi_ hk5
 replace k4 := hi_ k4
 clear xw x11
 have z0 : Hid (v.n = 0) := b2
 have z3 : Hid (v.site.size = 0) := b3
 have z4 : Hid (q.actsn = 0) := by show _ = _; omega
 have z5 : Hid (q.keyn ≤ 1) := by show _ ≤ _; rw [hkl.out]; exact b5
 replace hal := hi_ hal
 replace he := hi_ he
 replace hv := hi_ hv
 clear b0 b1 b2 b3 b4 b5
 go_enter Tryz.func91, Tryz.ntmps91
 go_upto_region 2 with (first | (rw [← hW1.out]) | (rw [← hW2.out]) | (rw [← hp1.out]) | (rw [← hp3.out]) | (rw [← hW3.out]) | (refine st_arm hst.out rfl _ _ rfl rfl rfl ?_))
 have u2 : (v.n != 0) = false := by simp [z0.out]
 have u3 : v.site.toList = [] := by rw [size_nil]; exact z3.out
 have u3' : (v.site.toList != []) = false := by rw [bne, size_beq]; simp [z3.out]
 have u4 : q.actsn = 0 := z4.out
 have u5 : ¬ (1 : Int) < (q.keyn : Int) := by have := z5.out; omega
 go_wp2_with fail
 refine wp_region_low_last 5 rfl rfl (by kernel_rfl) (by kernel_rfl) (by kernel_rfl) ?_
 simp only [List.take_succ_cons, List.take_zero]
 clear u2 u3 u3' u4 u5 x1 x6 x7 x8 x9
 repeat (go_big_quiet_step (fail))
 refine wpQuiet_nil ?_
 rintro _ ⟨d, rfl⟩ K hKK
 go_simp
 go_at_call 27
 refine (c1d.out d).mono ?_
 first | rintro e w5 rfl h5 | rintro e w5 ⟨rfl, h5⟩
 refine hKK.out _ _ ?_
 clear hKK K y11 y6 yw
 obtain ⟨-, -, -, -, -, -, -, x7, -⟩ := c10_ (h5.box M0_)
 have x11 := c1_ (h5.box M1_)
 go_upto_if 49 with fail
 go_cut [] (fun wx => PK w0 B b T2 (L2_ p3 p1 b (O26_ v q) bx) wx)
 case first =>
  by_cases hk0 : q.keyn = 0
  ·have k9 : v.key.length = 0 := by rw [← hkl.out]; exact hk0
   have f2' := f2.out
   rw [if_pos k9] at f2'
   have c2' := hi_ (c2.out f2' w5 h5)
   have y : ((q.keyn : Int) == 0) = true := by simp [hk0]
   replace k9 := hi_ k9
   replace h5 := hi_ h5
   clear f2' hk0
   go_wp2_with (go_at_call 27; refine c2'.out.mono ?_)
   first | rintro e w6 rfl h6 | rintro e w6 ⟨rfl, h6⟩
   replace h6 := hi_ h6
   go_wp2_with fail
   go_meet
   rw [hT2.out, if_pos k9.out]
   exact h6.out
  ·have k9 : Hid (¬ v.key.length = 0) := by show ¬ _; rw [← hkl.out]; exact hk0
   have y : ((q.keyn : Int) == 0) = false := by simp [hk0]
   replace h5 := hi_ h5
   clear hk0
   go_wp2_with fail
   go_meet
   rw [hT2.out, if_neg k9.out]
   exact h5.out
 case rest =>
  clear x7 x11
  replace h5 := hi_ h5
  obtain ⟨-, -, -, -, -, -, -, x7, -⟩ := c10_ (hcut.box M0_)
  have x11 := c1_ (hcut.box M1_)
  replace hcut := hi_ hcut
  go_wp2_with (go_at_call 84; refine (c3.out wc hcut.out).mono ?_)
  first | rintro e w7 rfl h7 | rintro e w7 ⟨rfl, h7⟩
  clear x7 x11
  have h7 : PK w0 B b (PS.keyF v (pExs v.key) (t.put w5_)) (L2_ p3 p1 b (O26_ v q) bx) w7 := by
   have h7' := h7
   rw [hT2.out] at h7'
   exact h7'
  obtain ⟨-, -, x2, -, -, -, x6, -⟩ := c10_ (h7.box M0_)
  have x11 := c1_ (h7.box M1_)
  replace h7 := hi_ h7
  go_wp2_with (go_at_call 51; refine (c4.out _ _ h7.out (by (first | rw [size_beq] | rw [size_emp] | simp [size_nil]))).mono ?_)
  first | rintro e w8 rfl h8 | rintro e w8 ⟨rfl, h8⟩
  clear x6 x2 x11
  have c6a := named_P w0 B b v q [] none 0 ((PS.keyF v (pExs v.key) (t.put w5_)).must (decide (v.s.size = 0))) (L2_ p3 p1 b (O26_ v q) bx) w8 hv'.out hV (by decide) h8 (.inl rfl) f6'.out
  unfold A0_ at c6a
  rw [he.out] at c6a
  have hl8 := hi_ (row_load (h8.box M0_) Tryz.underlying50 rfl sizeEx_info)
  obtain ⟨-, -, -, -, -, -, x6, -⟩ := c10_ (h8.box M0_)
  have x11 := c1_ (h8.box M1_)
  replace c6a := hi_ c6a
  replace h8 := hi_ h8
  go_wp2_with (first | (refine ld_arm hl8.out rfl _ rfl rfl ?_) | (go_at_call 127; refine c6a.out.mono ?_))
  first | rintro e wb rfl hb | rintro e wb ⟨rfl, hb⟩
  clear x6 x11
  obtain ⟨-, -, -, x3, -⟩ := c10_ (hb.box M0_)
  have x11 := c1_ (hb.box M1_)
  replace hb := hi_ hb
  go_wp2_with (go_at_call 84; refine (c9.out wb hb.out).mono ?_)
  first | rintro e wc9 rfl hc | rintro e wc9 ⟨rfl, hc⟩
  replace hc := hi_ hc.drop.drop
  go_wp2_with fail
  exact bodyPost_end (v := .tuple #[]) (results_none (by kernel_rfl) _ _ _) rfl ⟨rfl, hc.out⟩
theorem elem5_P (w0 : World) (B b : Nat) (v : Ex) (q : QEx) (t : PS) (he : v.elem = 5) (hB : PS.elemBad v = false) (hv : ExAt w0 B v q) (hA : ExsP w0 B b v.args) (hV : ExsP w0 B b v.vals) (hK : ExsP w0 B b v.key) (_hP : PairsP w0 B b v) : DoesP w0 B b 91 #[.pointer (some ⟨b, 0, none⟩), .agg (A0_ v q)] t (PS.elem v (pExs v.args) (pExs v.vals) (pExs v.key) (pPairs v.vals v.names) t) := by
 unfold A0_
 intro bx w h hF
 have hs := hv.s
 have hok9 := hi_ hv.ok
 have hEq : PS.elem v (pExs v.args) (pExs v.vals) (pExs v.key) (pPairs v.vals v.names) t = (pExs v.args (PS.named v [] (pExs v.vals) ((PS.keyF v (pExs v.key) (t.put w6_)).plain v.s))) := by
  unfold PS.elem
  rw [if_neg (by rw [hB]; decide)]
  unfold PS.elemP PS.nameF
  rw [if_neg (by omega), if_pos (by omega), if_neg (by omega), he]; rfl
 rw [hEq] at hF ⊢
 clear hEq
 have f6 : FitP (PS.named v [] (pExs v.vals) ((PS.keyF v (pExs v.key) (t.put w6_)).plain v.s)) := FitP.exs hv.args hF
 have f4 : FitP ((PS.keyF v (pExs v.key) (t.put w6_)).plain v.s) := (FitP.exs hv.vals (show FitP (pExs v.vals (((PS.keyF v (pExs v.key) (t.put w6_)).plain v.s).must _)) from f6)).must
 have f3 : FitP (PS.keyF v (pExs v.key) (t.put w6_)) := f4.plain
 have f2 : FitP (if v.key.length = 0 then (t.put w6_).put [45] else (t.put w6_)) := FitP.exs hv.key f3
 have f1 : FitP (t.put w6_) := by
  split at f2
  ·exact f2.put
  ·exact f2
 obtain ⟨p1, hp1⟩ : ∃ p, p = w.heap.size := ⟨_, rfl⟩
 obtain ⟨S1, hS1⟩ : ∃ S, S = w.alloc ((PB_ 35 b)) := ⟨_, rfl⟩
 have k1 : PK w0 B b t ((p1, (PB_ 35 b)) :: bx) S1 := by rw [hS1, hp1]; exact h.alloc _
 obtain ⟨p3, hp3⟩ : ∃ p, p = S1.heap.size := ⟨_, rfl⟩
 obtain ⟨S2, hS2⟩ : ∃ S, S = S1.alloc ((O0_ v q)) := ⟨_, rfl⟩
 have k2 : PK w0 B b t (L2_ p3 p1 b (O0_ v q) bx) S2 := by rw [hS2, hp3]; exact k1.alloc _
 have hW1 : Hid (S1 = _) := hS1
 have hW2 : Hid (S2 = _) := hS2
 replace hp1 := hi_ hp1
 replace hp3 := hi_ hp3
 replace h := hi_ h
 replace k1 := hi_ k1
 clear hS1 hS2
 have c1 := hi_ (fun W hW => put_P w0 B b t w6_ (L2_ p3 p1 b (O27_ v q) bx) W hW f1)
 have c2 := hi_ (fun (f : FitP ((t.put w6_).put [45])) W hW => put_P w0 B b (t.put w6_) [45] (L2_ p3 p1 b (O27_ v q) bx) W hW f)
 obtain ⟨T2, hT2⟩ : ∃ T, T = (if v.key.length = 0 then (t.put w6_).put [45] else (t.put w6_)) := ⟨_, rfl⟩
 have f3' : FitP (pExs v.key T2) := by rw [hT2]; exact f3
 have c3 := hi_ (fun W hW => hK _ _ q.keyc T2 hv.key (L2_ p3 p1 b (O27_ v q) bx) W hW f3')
 replace hT2 := hi_ hT2
 clear f3'
 have c4 := hi_ (fun W hW => plain_P w0 B b (PS.keyF v (pExs v.key) (t.put w6_)) v.s hs (L2_ p3 p1 b (O27_ v q) bx) W hW f4)
 have c9 := hi_ (fun W hW => hA _ _ q.argsc (PS.named v [] (pExs v.vals) ((PS.keyF v (pExs v.key) (t.put w6_)).plain v.s)) hv.args (L2_ p3 p1 b (O27_ v q) bx) W hW hF)
 have hv' := hi_ hv
 have hkl := hi_ hv.lens.key
 have hal := hv.lens.acts
 obtain ⟨b0, b1, b2, b3, b4, b5⟩ := elemBad_not hB
 replace f2 := hi_ f2
 have f6' := hi_ f6
 clear hF hB f1 f3 f4 f6 hs
 have hOBX : Hid (((O0_ v q) : Obj) = (O27_ v q)) := by show _ = _; simp only [O0_, O27_, A0_, A29_, he]
 obtain ⟨S3, hS3⟩ : ∃ S, S = S2.alloc (.cells A23_ 165) := ⟨_, rfl⟩
 rw [hOBX.out] at k2
 have k3 : PK w0 B b t ((S2.heap.size, O22_) :: (L2_ p3 p1 b (O27_ v q) bx)) S3 := by rw [hS3]; exact k2.alloc _
 have hst := row_store (k3.box M0_) (cs := A24_) sizeW_info rfl (by simp [Value.oneCell', A24_])
 have k4 := k3.row A24_
 obtain ⟨S4, hS4⟩ : ∃ S, S = S3.setRow S2.heap.size A24_ := ⟨_, rfl⟩
 rw [← hS4] at k4 hst
 have hW3 : Hid (S3 = _) := hS3
 replace hst := hi_ hst
 replace k2 := hi_ k2
 replace k3 := hi_ k3
 clear hS3 hS4
 have x11 := c1_ (k4.box M2_)
 obtain ⟨-, x1, -, -, -, -, x6, x7, x8, x9⟩ := c10_ (k4.box M1_)
 have xw : S4.cell? ⟨S2.heap.size, 5, none⟩ = some (.string (bs w6_)) := by
  have := k4.box M0_
  simp [World.cell?, this]; rfl
 have hk5 := k4.drop
 have y11 : ∀ d : LowW S4, d.w.cell? ⟨p1, 0, none⟩ = some (.pointer (some ⟨b, 0, none⟩)) := fun d => (d.cell (hk5.boxlt M1_).1).trans x11
 have y6 : ∀ d : LowW S4, d.w.cell? ⟨p3, 6, none⟩ = some (.int .u8 5) := fun d => (d.cell (hk5.boxlt M0_).1).trans x6
 have yw : ∀ d : LowW S4, d.w.cell? ⟨S2.heap.size, 5, none⟩ = some (.string (bs w6_)) := fun d => (d.cell (k4.boxlt M0_).1).trans xw
 have c1d := hi_ (fun d : LowW S4 => c1.out d.w (hk5.below d.low))
 have hsz4 := hk5.size
 replace hk5 := hi_ hk5
 replace k4 := hi_ k4
 clear xw x11
 have z0 : Hid (v.n = 0) := b2
 have z3 : Hid (v.site.size = 0) := b3
 have z4 : Hid (q.actsn = 0) := by show _ = _; omega
 have z5 : Hid (q.keyn ≤ 1) := by show _ ≤ _; rw [hkl.out]; exact b5
 replace hal := hi_ hal
 replace he := hi_ he
 replace hv := hi_ hv
 clear b0 b1 b2 b3 b4 b5
 go_enter Tryz.func91, Tryz.ntmps91
 go_upto_region 2 with (first | (rw [← hW1.out]) | (rw [← hW2.out]) | (rw [← hp1.out]) | (rw [← hp3.out]) | (rw [← hW3.out]) | (refine st_arm hst.out rfl _ _ rfl rfl rfl ?_))
 have u2 : (v.n != 0) = false := by simp [z0.out]
 have u3 : v.site.toList = [] := by rw [size_nil]; exact z3.out
 have u3' : (v.site.toList != []) = false := by rw [bne, size_beq]; simp [z3.out]
 have u4 : q.actsn = 0 := z4.out
 have u5 : ¬ (1 : Int) < (q.keyn : Int) := by have := z5.out; omega
 go_wp2_with fail
 refine wp_region_low_last 5 rfl rfl (by kernel_rfl) (by kernel_rfl) (by kernel_rfl) ?_
 simp only [List.take_succ_cons, List.take_zero]
 clear u2 u3 u3' u4 u5 x1 x6 x7 x8 x9
 repeat (go_big_quiet_step (fail))
 refine wpQuiet_nil ?_
 rintro _ ⟨d, rfl⟩ K hKK
 go_simp
 go_at_call 27
 refine (c1d.out d).mono ?_
 first | rintro e w5 rfl h5 | rintro e w5 ⟨rfl, h5⟩
 refine hKK.out _ _ ?_
 clear hKK K y11 y6 yw
 obtain ⟨-, -, -, -, -, -, -, x7, -⟩ := c10_ (h5.box M0_)
 have x11 := c1_ (h5.box M1_)
 go_upto_if 49 with fail
 go_cut [] (fun wx => PK w0 B b T2 (L2_ p3 p1 b (O27_ v q) bx) wx)
 case first =>
  by_cases hk0 : q.keyn = 0
  ·have k9 : v.key.length = 0 := by rw [← hkl.out]; exact hk0
   have f2' := f2.out
   rw [if_pos k9] at f2'
   have c2' := hi_ (c2.out f2' w5 h5)
   have y : ((q.keyn : Int) == 0) = true := by simp [hk0]
   replace k9 := hi_ k9
   replace h5 := hi_ h5
   clear f2' hk0
   go_wp2_with (go_at_call 27; refine c2'.out.mono ?_)
   first | rintro e w6 rfl h6 | rintro e w6 ⟨rfl, h6⟩
   replace h6 := hi_ h6
   go_wp2_with fail
   go_meet
   rw [hT2.out, if_pos k9.out]
   exact h6.out
  ·have k9 : Hid (¬ v.key.length = 0) := by show ¬ _; rw [← hkl.out]; exact hk0
   have y : ((q.keyn : Int) == 0) = false := by simp [hk0]
   replace h5 := hi_ h5
   clear hk0
   go_wp2_with fail
   go_meet
   rw [hT2.out, if_neg k9.out]
   exact h5.out
 case rest =>
  clear x7 x11
  replace h5 := hi_ h5
  obtain ⟨-, -, -, -, -, -, -, x7, -⟩ := c10_ (hcut.box M0_)
  have x11 := c1_ (hcut.box M1_)
  replace hcut := hi_ hcut
  go_wp2_with (go_at_call 84; refine (c3.out wc hcut.out).mono ?_)
  first | rintro e w7 rfl h7 | rintro e w7 ⟨rfl, h7⟩
  clear x7 x11
  have h7 : PK w0 B b (PS.keyF v (pExs v.key) (t.put w6_)) (L2_ p3 p1 b (O27_ v q) bx) w7 := by
   have h7' := h7
   rw [hT2.out] at h7'
   exact h7'
  obtain ⟨-, -, x2, -, -, -, x6, -⟩ := c10_ (h7.box M0_)
  have x11 := c1_ (h7.box M1_)
  replace h7 := hi_ h7
  go_wp2_with (go_at_call 28; refine (c4.out w7 h7.out).mono ?_)
  first | rintro e w8 rfl h8 | rintro e w8 ⟨rfl, h8⟩
  clear x6 x2 x11
  have c6a := named_P w0 B b v q [] none 0 ((PS.keyF v (pExs v.key) (t.put w6_)).plain v.s) (L2_ p3 p1 b (O27_ v q) bx) w8 hv'.out hV (by decide) h8 (.inl rfl) f6'.out
  unfold A0_ at c6a
  rw [he.out] at c6a
  have hl8 := hi_ (row_load (h8.box M0_) Tryz.underlying50 rfl sizeEx_info)
  obtain ⟨-, -, -, -, -, -, x6, -⟩ := c10_ (h8.box M0_)
  have x11 := c1_ (h8.box M1_)
  replace c6a := hi_ c6a
  replace h8 := hi_ h8
  go_wp2_with (first | (refine ld_arm hl8.out rfl _ rfl rfl ?_) | (go_at_call 127; refine c6a.out.mono ?_))
  first | rintro e wb rfl hb | rintro e wb ⟨rfl, hb⟩
  clear x6 x11
  obtain ⟨-, -, -, x3, -⟩ := c10_ (hb.box M0_)
  have x11 := c1_ (hb.box M1_)
  replace hb := hi_ hb
  go_wp2_with (go_at_call 84; refine (c9.out wb hb.out).mono ?_)
  first | rintro e wc9 rfl hc | rintro e wc9 ⟨rfl, hc⟩
  replace hc := hi_ hc.drop.drop
  go_wp2_with fail
  exact bodyPost_end (v := .tuple #[]) (results_none (by kernel_rfl) _ _ _) rfl ⟨rfl, hc.out⟩
theorem elem6_P (w0 : World) (B b : Nat) (v : Ex) (q : QEx) (t : PS) (he : v.elem = 6) (hB : PS.elemBad v = false) (hv : ExAt w0 B v q) (hA : ExsP w0 B b v.args) (hV : ExsP w0 B b v.vals) (hK : ExsP w0 B b v.key) (_hP : PairsP w0 B b v) : DoesP w0 B b 91 #[.pointer (some ⟨b, 0, none⟩), .agg (A0_ v q)] t (PS.elem v (pExs v.args) (pExs v.vals) (pExs v.key) (pPairs v.vals v.names) t) := by
 unfold A0_
 intro bx w h hF
 have hs := hv.s
 have hok9 := hi_ hv.ok
 have hEq : PS.elem v (pExs v.args) (pExs v.vals) (pExs v.key) (pPairs v.vals v.names) t = (pExs v.args (PS.named v [bs w7_] (pExs v.vals) ((PS.keyF v (pExs v.key) (t.put w8_)).plain v.s))) := by
  unfold PS.elem
  rw [if_neg (by rw [hB]; decide)]
  unfold PS.elemP PS.nameF
  rw [if_neg (by omega), if_neg (by omega), if_pos he, if_neg (by omega), he]; rfl
 rw [hEq] at hF ⊢
 clear hEq
 have f6 : FitP (PS.named v [bs w7_] (pExs v.vals) ((PS.keyF v (pExs v.key) (t.put w8_)).plain v.s)) := FitP.exs hv.args hF
 have f4 : FitP ((PS.keyF v (pExs v.key) (t.put w8_)).plain v.s) := (FitP.exs hv.vals (show FitP (pExs v.vals (((PS.keyF v (pExs v.key) (t.put w8_)).plain v.s).must _)) from f6)).must
 have f3 : FitP (PS.keyF v (pExs v.key) (t.put w8_)) := f4.plain
 have f2 : FitP (if v.key.length = 0 then (t.put w8_).put [45] else (t.put w8_)) := FitP.exs hv.key f3
 have f1 : FitP (t.put w8_) := by
  split at f2
  ·exact f2.put
  ·exact f2
 obtain ⟨p1, hp1⟩ : ∃ p, p = w.heap.size := ⟨_, rfl⟩
 obtain ⟨S1, hS1⟩ : ∃ S, S = w.alloc ((PB_ 35 b)) := ⟨_, rfl⟩
 have k1 : PK w0 B b t ((p1, (PB_ 35 b)) :: bx) S1 := by rw [hS1, hp1]; exact h.alloc _
 obtain ⟨p3, hp3⟩ : ∃ p, p = S1.heap.size := ⟨_, rfl⟩
 obtain ⟨S2, hS2⟩ : ∃ S, S = S1.alloc ((O0_ v q)) := ⟨_, rfl⟩
 have k2 : PK w0 B b t (L2_ p3 p1 b (O0_ v q) bx) S2 := by rw [hS2, hp3]; exact k1.alloc _
 have hW1 : Hid (S1 = _) := hS1
 have hW2 : Hid (S2 = _) := hS2
 replace hp1 := hi_ hp1
 replace hp3 := hi_ hp3
 replace h := hi_ h
 replace k1 := hi_ k1
 clear hS1 hS2
 have c1 := hi_ (fun W hW => put_P w0 B b t w8_ (L2_ p3 p1 b (O28_ v q) bx) W hW f1)
 have c2 := hi_ (fun (f : FitP ((t.put w8_).put [45])) W hW => put_P w0 B b (t.put w8_) [45] (L2_ p3 p1 b (O28_ v q) bx) W hW f)
 obtain ⟨T2, hT2⟩ : ∃ T, T = (if v.key.length = 0 then (t.put w8_).put [45] else (t.put w8_)) := ⟨_, rfl⟩
 have f3' : FitP (pExs v.key T2) := by rw [hT2]; exact f3
 have c3 := hi_ (fun W hW => hK _ _ q.keyc T2 hv.key (L2_ p3 p1 b (O28_ v q) bx) W hW f3')
 replace hT2 := hi_ hT2
 clear f3'
 have c4 := hi_ (fun W hW => plain_P w0 B b (PS.keyF v (pExs v.key) (t.put w8_)) v.s hs (L2_ p3 p1 b (O28_ v q) bx) W hW f4)
 have c9 := hi_ (fun W hW => hA _ _ q.argsc (PS.named v [bs w7_] (pExs v.vals) ((PS.keyF v (pExs v.key) (t.put w8_)).plain v.s)) hv.args (L2_ p3 p1 b (O28_ v q) bx) W hW hF)
 have hv' := hi_ hv
 have hkl := hi_ hv.lens.key
 have hal := hv.lens.acts
 obtain ⟨b0, b1, b2, b3, b4, b5⟩ := elemBad_not hB
 replace f2 := hi_ f2
 have f6' := hi_ f6
 clear hF hB f1 f3 f4 f6 hs
 have hOBX : Hid (((O0_ v q) : Obj) = (O28_ v q)) := by show _ = _; simp only [O0_, O28_, A0_, A30_, he]
 obtain ⟨S3, hS3⟩ : ∃ S, S = S2.alloc (.cells A23_ 165) := ⟨_, rfl⟩
 rw [hOBX.out] at k2
 have k3 : PK w0 B b t ((S2.heap.size, O22_) :: (L2_ p3 p1 b (O28_ v q) bx)) S3 := by rw [hS3]; exact k2.alloc _
 have hst := row_store (k3.box M0_) (cs := A24_) sizeW_info rfl (by simp [Value.oneCell', A24_])
 have k4 := k3.row A24_
 obtain ⟨S4, hS4⟩ : ∃ S, S = S3.setRow S2.heap.size A24_ := ⟨_, rfl⟩
 rw [← hS4] at k4 hst
 have hW3 : Hid (S3 = _) := hS3
 replace hst := hi_ hst
 replace k2 := hi_ k2
 replace k3 := hi_ k3
 clear hS3 hS4
 have x11 := c1_ (k4.box M2_)
 obtain ⟨-, x1, -, -, -, -, x6, x7, x8, x9⟩ := c10_ (k4.box M1_)
 have xw : S4.cell? ⟨S2.heap.size, 6, none⟩ = some (.string (bs w8_)) := by
  have := k4.box M0_
  simp [World.cell?, this]; rfl
 have hk5 := k4.drop
 have y11 : ∀ d : LowW S4, d.w.cell? ⟨p1, 0, none⟩ = some (.pointer (some ⟨b, 0, none⟩)) := fun d => (d.cell (hk5.boxlt M1_).1).trans x11
 have y6 : ∀ d : LowW S4, d.w.cell? ⟨p3, 6, none⟩ = some (.int .u8 6) := fun d => (d.cell (hk5.boxlt M0_).1).trans x6
 have yw : ∀ d : LowW S4, d.w.cell? ⟨S2.heap.size, 6, none⟩ = some (.string (bs w8_)) := fun d => (d.cell (k4.boxlt M0_).1).trans xw
 have c1d := hi_ (fun d : LowW S4 => c1.out d.w (hk5.below d.low))
 have hsz4 := hk5.size
 replace hk5 := hi_ hk5
 replace k4 := hi_ k4
 clear xw x11
 have z0 : Hid (v.n = 0) := b2
 have z3 : Hid (v.site.size = 0) := b3
 have z4 : Hid (q.actsn = 0) := by show _ = _; omega
 have z5 : Hid (q.keyn ≤ 1) := by show _ ≤ _; rw [hkl.out]; exact b5
 replace hal := hi_ hal
 replace he := hi_ he
 replace hv := hi_ hv
 clear b0 b1 b2 b3 b4 b5
 go_enter Tryz.func91, Tryz.ntmps91
 go_upto_region 2 with (first | (rw [← hW1.out]) | (rw [← hW2.out]) | (rw [← hp1.out]) | (rw [← hp3.out]) | (rw [← hW3.out]) | (refine st_arm hst.out rfl _ _ rfl rfl rfl ?_))
 have u2 : (v.n != 0) = false := by simp [z0.out]
 have u3 : v.site.toList = [] := by rw [size_nil]; exact z3.out
 have u3' : (v.site.toList != []) = false := by rw [bne, size_beq]; simp [z3.out]
 have u4 : q.actsn = 0 := z4.out
 have u5 : ¬ (1 : Int) < (q.keyn : Int) := by have := z5.out; omega
 go_wp2_with fail
 refine wp_region_low_last 5 rfl rfl (by kernel_rfl) (by kernel_rfl) (by kernel_rfl) ?_
 simp only [List.take_succ_cons, List.take_zero]
 clear u2 u3 u3' u4 u5 x1 x6 x7 x8 x9
 repeat (go_big_quiet_step (fail))
 refine wpQuiet_nil ?_
 rintro _ ⟨d, rfl⟩ K hKK
 go_simp
 go_at_call 27
 refine (c1d.out d).mono ?_
 first | rintro e w5 rfl h5 | rintro e w5 ⟨rfl, h5⟩
 refine hKK.out _ _ ?_
 clear hKK K y11 y6 yw
 obtain ⟨-, -, -, -, -, -, -, x7, -⟩ := c10_ (h5.box M0_)
 have x11 := c1_ (h5.box M1_)
 go_upto_if 49 with fail
 go_cut [] (fun wx => PK w0 B b T2 (L2_ p3 p1 b (O28_ v q) bx) wx)
 case first =>
  by_cases hk0 : q.keyn = 0
  ·have k9 : v.key.length = 0 := by rw [← hkl.out]; exact hk0
   have f2' := f2.out
   rw [if_pos k9] at f2'
   have c2' := hi_ (c2.out f2' w5 h5)
   have y : ((q.keyn : Int) == 0) = true := by simp [hk0]
   replace k9 := hi_ k9
   replace h5 := hi_ h5
   clear f2' hk0
   go_wp2_with (go_at_call 27; refine c2'.out.mono ?_)
   first | rintro e w6 rfl h6 | rintro e w6 ⟨rfl, h6⟩
   replace h6 := hi_ h6
   go_wp2_with fail
   go_meet
   rw [hT2.out, if_pos k9.out]
   exact h6.out
  ·have k9 : Hid (¬ v.key.length = 0) := by show ¬ _; rw [← hkl.out]; exact hk0
   have y : ((q.keyn : Int) == 0) = false := by simp [hk0]
   replace h5 := hi_ h5
   clear hk0
   go_wp2_with fail
   go_meet
   rw [hT2.out, if_neg k9.out]
   exact h5.out
 case rest =>
  clear x7 x11
  replace h5 := hi_ h5
  obtain ⟨-, -, -, -, -, -, -, x7, -⟩ := c10_ (hcut.box M0_)
  have x11 := c1_ (hcut.box M1_)
  replace hcut := hi_ hcut
  go_wp2_with (go_at_call 84; refine (c3.out wc hcut.out).mono ?_)
  first | rintro e w7 rfl h7 | rintro e w7 ⟨rfl, h7⟩
  clear x7 x11
  have h7 : PK w0 B b (PS.keyF v (pExs v.key) (t.put w8_)) (L2_ p3 p1 b (O28_ v q) bx) w7 := by
   have h7' := h7
   rw [hT2.out] at h7'
   exact h7'
  obtain ⟨-, -, x2, -, -, -, x6, -⟩ := c10_ (h7.box M0_)
  have x11 := c1_ (h7.box M1_)
  replace h7 := hi_ h7
  go_wp2_with (go_at_call 28; refine (c4.out w7 h7.out).mono ?_)
  first | rintro e w8 rfl h8 | rintro e w8 ⟨rfl, h8⟩
  clear x6 x2 x11
  obtain ⟨S6, hS6⟩ : ∃ S, S = w8.alloc (.cells #[.string ⟨#[118, 97, 108, 117, 101]⟩] 9) := ⟨_, rfl⟩
  have hs6 : PK w0 B b ((PS.keyF v (pExs v.key) (t.put w8_)).plain v.s) ((w8.heap.size, .cells #[.string ⟨#[118, 97, 108, 117, 101]⟩] 9 (0, 0)) :: (L2_ p3 p1 b (O28_ v q) bx)) S6 := by rw [hS6]; exact h8.alloc _
  have hW6 : Hid (S6 = _) := hS6
  clear hS6
  have c6a := named_P w0 B b v q [bs w7_] (some ⟨w8.heap.size, 0, none⟩) 1 ((PS.keyF v (pExs v.key) (t.put w8_)).plain v.s) _ S6 hv'.out hV (by decide) hs6 (.inr ⟨w8.heap.size, rfl, List.mem_cons_self ..⟩) f6'.out
  unfold A0_ at c6a
  rw [he.out] at c6a
  have hl8 := hi_ (row_load (h8.box M0_) Tryz.underlying50 rfl sizeEx_info)
  obtain ⟨-, -, -, -, -, -, x6, -⟩ := c10_ (h8.box M0_)
  have x11 := c1_ (h8.box M1_)
  replace c6a := hi_ c6a
  replace h8 := hi_ h8
  replace hs6 := hi_ hs6
  go_wp2_with (first | (rw [← hW6.out]) | (refine ld_arm hl8.out rfl _ rfl rfl ?_) | (go_at_call 127; refine c6a.out.mono ?_))
  first | rintro e wb rfl hb | rintro e wb ⟨rfl, hb⟩
  clear x6 x11
  replace hb := hb.drop
  obtain ⟨-, -, -, x3, -⟩ := c10_ (hb.box M0_)
  have x11 := c1_ (hb.box M1_)
  replace hb := hi_ hb
  go_wp2_with (go_at_call 84; refine (c9.out wb hb.out).mono ?_)
  first | rintro e wc9 rfl hc | rintro e wc9 ⟨rfl, hc⟩
  replace hc := hi_ hc.drop.drop
  go_wp2_with fail
  exact bodyPost_end (v := .tuple #[]) (results_none (by kernel_rfl) _ _ _) rfl ⟨rfl, hc.out⟩
theorem elem7_P (w0 : World) (B b : Nat) (v : Ex) (q : QEx) (t : PS) (he : v.elem = 7) (hB : PS.elemBad v = false) (hv : ExAt w0 B v q) (hA : ExsP w0 B b v.args) (hV : ExsP w0 B b v.vals) (hK : ExsP w0 B b v.key) (_hP : PairsP w0 B b v) : DoesP w0 B b 91 #[.pointer (some ⟨b, 0, none⟩), .agg (A0_ v q)] t (PS.elem v (pExs v.args) (pExs v.vals) (pExs v.key) (pPairs v.vals v.names) t) := by
 unfold A0_
 intro bx w h hF
 have hs := hv.s
 have hok9 := hi_ hv.ok
 have hEq : PS.elem v (pExs v.args) (pExs v.vals) (pExs v.key) (pPairs v.vals v.names) t = (pExs v.args (PS.named v [bs w9_, bs w10_] (pExs v.vals) ((PS.keyF v (pExs v.key) (t.put w11_)).must (decide (v.s.size = 0))))) := by
  unfold PS.elem
  rw [if_neg (by rw [hB]; decide)]
  unfold PS.elemP PS.nameF
  rw [if_neg (by omega), if_neg (by omega), if_neg (by omega), if_pos he, if_pos (by omega), he]; rfl
 rw [hEq] at hF ⊢
 clear hEq
 have f6 : FitP (PS.named v [bs w9_, bs w10_] (pExs v.vals) ((PS.keyF v (pExs v.key) (t.put w11_)).must (decide (v.s.size = 0)))) := FitP.exs hv.args hF
 have f4 : FitP ((PS.keyF v (pExs v.key) (t.put w11_)).must (decide (v.s.size = 0))) := (FitP.exs hv.vals (show FitP (pExs v.vals (((PS.keyF v (pExs v.key) (t.put w11_)).must (decide (v.s.size = 0))).must _)) from f6)).must
 have f3 : FitP (PS.keyF v (pExs v.key) (t.put w11_)) := f4.must
 have f2 : FitP (if v.key.length = 0 then (t.put w11_).put [45] else (t.put w11_)) := FitP.exs hv.key f3
 have f1 : FitP (t.put w11_) := by
  split at f2
  ·exact f2.put
  ·exact f2
 obtain ⟨p1, hp1⟩ : ∃ p, p = w.heap.size := ⟨_, rfl⟩
 obtain ⟨S1, hS1⟩ : ∃ S, S = w.alloc ((PB_ 35 b)) := ⟨_, rfl⟩
 have k1 : PK w0 B b t ((p1, (PB_ 35 b)) :: bx) S1 := by rw [hS1, hp1]; exact h.alloc _
 obtain ⟨p3, hp3⟩ : ∃ p, p = S1.heap.size := ⟨_, rfl⟩
 obtain ⟨S2, hS2⟩ : ∃ S, S = S1.alloc ((O0_ v q)) := ⟨_, rfl⟩
 have k2 : PK w0 B b t (L2_ p3 p1 b (O0_ v q) bx) S2 := by rw [hS2, hp3]; exact k1.alloc _
 have hW1 : Hid (S1 = _) := hS1
 have hW2 : Hid (S2 = _) := hS2
 replace hp1 := hi_ hp1
 replace hp3 := hi_ hp3
 replace h := hi_ h
 replace k1 := hi_ k1
 clear hS1 hS2
 have c1 := hi_ (fun W hW => put_P w0 B b t w11_ (L2_ p3 p1 b (O29_ v q) bx) W hW f1)
 have c2 := hi_ (fun (f : FitP ((t.put w11_).put [45])) W hW => put_P w0 B b (t.put w11_) [45] (L2_ p3 p1 b (O29_ v q) bx) W hW f)
 obtain ⟨T2, hT2⟩ : ∃ T, T = (if v.key.length = 0 then (t.put w11_).put [45] else (t.put w11_)) := ⟨_, rfl⟩
 have f3' : FitP (pExs v.key T2) := by rw [hT2]; exact f3
 have c3 := hi_ (fun W hW => hK _ _ q.keyc T2 hv.key (L2_ p3 p1 b (O29_ v q) bx) W hW f3')
 replace hT2 := hi_ hT2
 clear f3'
 have c4 := hi_ (fun W ok (hW : PK w0 B b (PS.keyF v (pExs v.key) (t.put w11_)) (L2_ p3 p1 b (O29_ v q) bx) W) (e : ok = decide (v.s.size = 0)) => must_asP w0 B b (PS.keyF v (pExs v.key) (t.put w11_)) (decide (v.s.size = 0)) (L2_ p3 p1 b (O29_ v q) bx) ok W hW e f4)
 have c9 := hi_ (fun W hW => hA _ _ q.argsc (PS.named v [bs w9_, bs w10_] (pExs v.vals) ((PS.keyF v (pExs v.key) (t.put w11_)).must (decide (v.s.size = 0)))) hv.args (L2_ p3 p1 b (O29_ v q) bx) W hW hF)
 have hv' := hi_ hv
 have hkl := hi_ hv.lens.key
 have hal := hv.lens.acts
 obtain ⟨b0, b1, b2, b3, b4, b5⟩ := elemBad_not hB
 replace f2 := hi_ f2
 have f6' := hi_ f6
 clear hF hB f1 f3 f4 f6 hs
 have hOBX : Hid (((O0_ v q) : Obj) = (O29_ v q)) := by show _ = _; simp only [O0_, O29_, A0_, A31_, he]
 obtain ⟨S3, hS3⟩ : ∃ S, S = S2.alloc (.cells A23_ 165) := ⟨_, rfl⟩
 rw [hOBX.out] at k2
 have k3 : PK w0 B b t ((S2.heap.size, O22_) :: (L2_ p3 p1 b (O29_ v q) bx)) S3 := by rw [hS3]; exact k2.alloc _
 have hst := row_store (k3.box M0_) (cs := A24_) sizeW_info rfl (by simp [Value.oneCell', A24_])
 have k4 := k3.row A24_
 obtain ⟨S4, hS4⟩ : ∃ S, S = S3.setRow S2.heap.size A24_ := ⟨_, rfl⟩
 rw [← hS4] at k4 hst
 have hW3 : Hid (S3 = _) := hS3
 replace hst := hi_ hst
 replace k2 := hi_ k2
 replace k3 := hi_ k3
 clear hS3 hS4
 have x11 := c1_ (k4.box M2_)
 obtain ⟨-, x1, -, -, -, -, x6, x7, x8, x9⟩ := c10_ (k4.box M1_)
 have xw : S4.cell? ⟨S2.heap.size, 7, none⟩ = some (.string (bs w11_)) := by
  have := k4.box M0_
  simp [World.cell?, this]; rfl
 have hk5 := k4.drop
 have y11 : ∀ d : LowW S4, d.w.cell? ⟨p1, 0, none⟩ = some (.pointer (some ⟨b, 0, none⟩)) := fun d => (d.cell (hk5.boxlt M1_).1).trans x11
 have y6 : ∀ d : LowW S4, d.w.cell? ⟨p3, 6, none⟩ = some (.int .u8 7) := fun d => (d.cell (hk5.boxlt M0_).1).trans x6
 have yw : ∀ d : LowW S4, d.w.cell? ⟨S2.heap.size, 7, none⟩ = some (.string (bs w11_)) := fun d => (d.cell (k4.boxlt M0_).1).trans xw
 have c1d := hi_ (fun d : LowW S4 => c1.out d.w (hk5.below d.low))
 have hsz4 := hk5.size
 replace hk5 := hi_ hk5
 replace k4 := hi_ k4
 clear xw x11
 have z0 : Hid (v.n = 0) := b2
 have z3 : Hid (v.site.size = 0) := b3
 have z4 : Hid (q.actsn = 0) := by show _ = _; omega
 have z5 : Hid (q.keyn ≤ 1) := by show _ ≤ _; rw [hkl.out]; exact b5
 replace hal := hi_ hal
 replace he := hi_ he
 replace hv := hi_ hv
 clear b0 b1 b2 b3 b4 b5
 go_enter Tryz.func91, Tryz.ntmps91
 go_upto_region 2 with (first | (rw [← hW1.out]) | (rw [← hW2.out]) | (rw [← hp1.out]) | (rw [← hp3.out]) | (rw [← hW3.out]) | (refine st_arm hst.out rfl _ _ rfl rfl rfl ?_))
 have u2 : (v.n != 0) = false := by simp [z0.out]
 have u3 : v.site.toList = [] := by rw [size_nil]; exact z3.out
 have u3' : (v.site.toList != []) = false := by rw [bne, size_beq]; simp [z3.out]
 have u4 : q.actsn = 0 := z4.out
 have u5 : ¬ (1 : Int) < (q.keyn : Int) := by have := z5.out; omega
 go_wp2_with fail
 refine wp_region_low_last 5 rfl rfl (by kernel_rfl) (by kernel_rfl) (by kernel_rfl) ?_
 simp only [List.take_succ_cons, List.take_zero]
 clear u2 u3 u3' u4 u5 x1 x6 x7 x8 x9
 repeat (go_big_quiet_step (fail))
 refine wpQuiet_nil ?_
 rintro _ ⟨d, rfl⟩ K hKK
 go_simp
 go_at_call 27
 refine (c1d.out d).mono ?_
 first | rintro e w5 rfl h5 | rintro e w5 ⟨rfl, h5⟩
 refine hKK.out _ _ ?_
 clear hKK K y11 y6 yw
 obtain ⟨-, -, -, -, -, -, -, x7, -⟩ := c10_ (h5.box M0_)
 have x11 := c1_ (h5.box M1_)
 go_upto_if 49 with fail
 go_cut [] (fun wx => PK w0 B b T2 (L2_ p3 p1 b (O29_ v q) bx) wx)
 case first =>
  by_cases hk0 : q.keyn = 0
  ·have k9 : v.key.length = 0 := by rw [← hkl.out]; exact hk0
   have f2' := f2.out
   rw [if_pos k9] at f2'
   have c2' := hi_ (c2.out f2' w5 h5)
   have y : ((q.keyn : Int) == 0) = true := by simp [hk0]
   replace k9 := hi_ k9
   replace h5 := hi_ h5
   clear f2' hk0
   go_wp2_with (go_at_call 27; refine c2'.out.mono ?_)
   first | rintro e w6 rfl h6 | rintro e w6 ⟨rfl, h6⟩
   replace h6 := hi_ h6
   go_wp2_with fail
   go_meet
   rw [hT2.out, if_pos k9.out]
   exact h6.out
  ·have k9 : Hid (¬ v.key.length = 0) := by show ¬ _; rw [← hkl.out]; exact hk0
   have y : ((q.keyn : Int) == 0) = false := by simp [hk0]
   replace h5 := hi_ h5
   clear hk0
   go_wp2_with fail
   go_meet
   rw [hT2.out, if_neg k9.out]
   exact h5.out
 case rest =>
  clear x7 x11
  replace h5 := hi_ h5
  obtain ⟨-, -, -, -, -, -, -, x7, -⟩ := c10_ (hcut.box M0_)
  have x11 := c1_ (hcut.box M1_)
  replace hcut := hi_ hcut
  go_wp2_with (go_at_call 84; refine (c3.out wc hcut.out).mono ?_)
  first | rintro e w7 rfl h7 | rintro e w7 ⟨rfl, h7⟩
  clear x7 x11
  have h7 : PK w0 B b (PS.keyF v (pExs v.key) (t.put w11_)) (L2_ p3 p1 b (O29_ v q) bx) w7 := by
   have h7' := h7
   rw [hT2.out] at h7'
   exact h7'
  obtain ⟨-, -, x2, -, -, -, x6, -⟩ := c10_ (h7.box M0_)
  have x11 := c1_ (h7.box M1_)
  replace h7 := hi_ h7
  go_wp2_with (go_at_call 51; refine (c4.out _ _ h7.out (by (first | rw [size_beq] | rw [size_emp] | simp [size_nil]))).mono ?_)
  first | rintro e w8 rfl h8 | rintro e w8 ⟨rfl, h8⟩
  clear x6 x2 x11
  obtain ⟨S6, hS6⟩ : ∃ S, S = w8.alloc (.cells A32_ 9) := ⟨_, rfl⟩
  have hs6 : PK w0 B b ((PS.keyF v (pExs v.key) (t.put w11_)).must (decide (v.s.size = 0))) ((w8.heap.size, O30_) :: (L2_ p3 p1 b (O29_ v q) bx)) S6 := by rw [hS6]; exact h8.alloc _
  have hW6 : Hid (S6 = _) := hS6
  clear hS6
  have c6a := named_P w0 B b v q [bs w9_, bs w10_] (some ⟨w8.heap.size, 0, none⟩) 2 ((PS.keyF v (pExs v.key) (t.put w11_)).must (decide (v.s.size = 0))) _ S6 hv'.out hV (by decide) hs6 (.inr ⟨w8.heap.size, rfl, List.mem_cons_self ..⟩) f6'.out
  unfold A0_ at c6a
  rw [he.out] at c6a
  have hl8 := hi_ (row_load (h8.box M0_) Tryz.underlying50 rfl sizeEx_info)
  obtain ⟨-, -, -, -, -, -, x6, -⟩ := c10_ (h8.box M0_)
  have x11 := c1_ (h8.box M1_)
  replace c6a := hi_ c6a
  replace h8 := hi_ h8
  replace hs6 := hi_ hs6
  go_wp2_with (first | (rw [← hW6.out]) | (refine ld_arm hl8.out rfl _ rfl rfl ?_) | (go_at_call 127; refine c6a.out.mono ?_))
  first | rintro e wb rfl hb | rintro e wb ⟨rfl, hb⟩
  clear x6 x11
  replace hb := hb.drop
  obtain ⟨-, -, -, x3, -⟩ := c10_ (hb.box M0_)
  have x11 := c1_ (hb.box M1_)
  replace hb := hi_ hb
  go_wp2_with (go_at_call 84; refine (c9.out wb hb.out).mono ?_)
  first | rintro e wc9 rfl hc | rintro e wc9 ⟨rfl, hc⟩
  replace hc := hi_ hc.drop.drop
  go_wp2_with fail
  exact bodyPost_end (v := .tuple #[]) (results_none (by kernel_rfl) _ _ _) rfl ⟨rfl, hc.out⟩
theorem elem8_P (w0 : World) (B b : Nat) (v : Ex) (q : QEx) (t : PS) (he : v.elem = 8) (hB : PS.elemBad v = false) (hv : ExAt w0 B v q) (hA : ExsP w0 B b v.args) (hV : ExsP w0 B b v.vals) (hK : ExsP w0 B b v.key) (_hP : PairsP w0 B b v) : DoesP w0 B b 91 #[.pointer (some ⟨b, 0, none⟩), .agg (A0_ v q)] t (PS.elem v (pExs v.args) (pExs v.vals) (pExs v.key) (pPairs v.vals v.names) t) := by
 unfold A0_
 intro bx w h hF
 have hs := hv.s
 have hok9 := hi_ hv.ok
 have hEq : PS.elem v (pExs v.args) (pExs v.vals) (pExs v.key) (pPairs v.vals v.names) t = (pExs v.args (PS.named v [bs w10_] (pExs v.vals) ((PS.keyF v (pExs v.key) (t.put w12_)).must (decide (v.s.size = 0))))) := by
  unfold PS.elem
  rw [if_neg (by rw [hB]; decide)]
  unfold PS.elemP PS.nameF
  rw [if_neg (by omega), if_neg (by omega), if_neg (by omega), if_neg (by omega), if_pos (by omega), he]; rfl
 rw [hEq] at hF ⊢
 clear hEq
 have f6 : FitP (PS.named v [bs w10_] (pExs v.vals) ((PS.keyF v (pExs v.key) (t.put w12_)).must (decide (v.s.size = 0)))) := FitP.exs hv.args hF
 have f4 : FitP ((PS.keyF v (pExs v.key) (t.put w12_)).must (decide (v.s.size = 0))) := (FitP.exs hv.vals (show FitP (pExs v.vals (((PS.keyF v (pExs v.key) (t.put w12_)).must (decide (v.s.size = 0))).must _)) from f6)).must
 have f3 : FitP (PS.keyF v (pExs v.key) (t.put w12_)) := f4.must
 have f2 : FitP (if v.key.length = 0 then (t.put w12_).put [45] else (t.put w12_)) := FitP.exs hv.key f3
 have f1 : FitP (t.put w12_) := by
  split at f2
  ·exact f2.put
  ·exact f2
 obtain ⟨p1, hp1⟩ : ∃ p, p = w.heap.size := ⟨_, rfl⟩
 obtain ⟨S1, hS1⟩ : ∃ S, S = w.alloc ((PB_ 35 b)) := ⟨_, rfl⟩
 have k1 : PK w0 B b t ((p1, (PB_ 35 b)) :: bx) S1 := by rw [hS1, hp1]; exact h.alloc _
 obtain ⟨p3, hp3⟩ : ∃ p, p = S1.heap.size := ⟨_, rfl⟩
 obtain ⟨S2, hS2⟩ : ∃ S, S = S1.alloc ((O0_ v q)) := ⟨_, rfl⟩
 have k2 : PK w0 B b t (L2_ p3 p1 b (O0_ v q) bx) S2 := by rw [hS2, hp3]; exact k1.alloc _
 have hW1 : Hid (S1 = _) := hS1
 have hW2 : Hid (S2 = _) := hS2
 replace hp1 := hi_ hp1
 replace hp3 := hi_ hp3
 replace h := hi_ h
 replace k1 := hi_ k1
 clear hS1 hS2
 have c1 := hi_ (fun W hW => put_P w0 B b t w12_ (L2_ p3 p1 b (O31_ v q) bx) W hW f1)
 have c2 := hi_ (fun (f : FitP ((t.put w12_).put [45])) W hW => put_P w0 B b (t.put w12_) [45] (L2_ p3 p1 b (O31_ v q) bx) W hW f)
 obtain ⟨T2, hT2⟩ : ∃ T, T = (if v.key.length = 0 then (t.put w12_).put [45] else (t.put w12_)) := ⟨_, rfl⟩
 have f3' : FitP (pExs v.key T2) := by rw [hT2]; exact f3
 have c3 := hi_ (fun W hW => hK _ _ q.keyc T2 hv.key (L2_ p3 p1 b (O31_ v q) bx) W hW f3')
 replace hT2 := hi_ hT2
 clear f3'
 have c4 := hi_ (fun W ok (hW : PK w0 B b (PS.keyF v (pExs v.key) (t.put w12_)) (L2_ p3 p1 b (O31_ v q) bx) W) (e : ok = decide (v.s.size = 0)) => must_asP w0 B b (PS.keyF v (pExs v.key) (t.put w12_)) (decide (v.s.size = 0)) (L2_ p3 p1 b (O31_ v q) bx) ok W hW e f4)
 have c9 := hi_ (fun W hW => hA _ _ q.argsc (PS.named v [bs w10_] (pExs v.vals) ((PS.keyF v (pExs v.key) (t.put w12_)).must (decide (v.s.size = 0)))) hv.args (L2_ p3 p1 b (O31_ v q) bx) W hW hF)
 have hv' := hi_ hv
 have hkl := hi_ hv.lens.key
 have hal := hv.lens.acts
 obtain ⟨b0, b1, b2, b3, b4, b5⟩ := elemBad_not hB
 replace f2 := hi_ f2
 have f6' := hi_ f6
 clear hF hB f1 f3 f4 f6 hs
 have hOBX : Hid (((O0_ v q) : Obj) = (O31_ v q)) := by show _ = _; simp only [O0_, O31_, A0_, A33_, he]
 obtain ⟨S3, hS3⟩ : ∃ S, S = S2.alloc (.cells A23_ 165) := ⟨_, rfl⟩
 rw [hOBX.out] at k2
 have k3 : PK w0 B b t ((S2.heap.size, O22_) :: (L2_ p3 p1 b (O31_ v q) bx)) S3 := by rw [hS3]; exact k2.alloc _
 have hst := row_store (k3.box M0_) (cs := A24_) sizeW_info rfl (by simp [Value.oneCell', A24_])
 have k4 := k3.row A24_
 obtain ⟨S4, hS4⟩ : ∃ S, S = S3.setRow S2.heap.size A24_ := ⟨_, rfl⟩
 rw [← hS4] at k4 hst
 have hW3 : Hid (S3 = _) := hS3
 replace hst := hi_ hst
 replace k2 := hi_ k2
 replace k3 := hi_ k3
 clear hS3 hS4
 have x11 := c1_ (k4.box M2_)
 obtain ⟨-, x1, -, -, -, -, x6, x7, x8, x9⟩ := c10_ (k4.box M1_)
 have xw : S4.cell? ⟨S2.heap.size, 8, none⟩ = some (.string (bs w12_)) := by
  have := k4.box M0_
  simp [World.cell?, this]; rfl
 have hk5 := k4.drop
 have y11 : ∀ d : LowW S4, d.w.cell? ⟨p1, 0, none⟩ = some (.pointer (some ⟨b, 0, none⟩)) := fun d => (d.cell (hk5.boxlt M1_).1).trans x11
 have y6 : ∀ d : LowW S4, d.w.cell? ⟨p3, 6, none⟩ = some (.int .u8 8) := fun d => (d.cell (hk5.boxlt M0_).1).trans x6
 have yw : ∀ d : LowW S4, d.w.cell? ⟨S2.heap.size, 8, none⟩ = some (.string (bs w12_)) := fun d => (d.cell (k4.boxlt M0_).1).trans xw
 have c1d := hi_ (fun d : LowW S4 => c1.out d.w (hk5.below d.low))
 have hsz4 := hk5.size
 replace hk5 := hi_ hk5
 replace k4 := hi_ k4
 clear xw x11
 have z0 : Hid (v.n = 0) := b2
 have z3 : Hid (v.site.size = 0) := b3
 have z4 : Hid (q.actsn = 0) := by show _ = _; omega
 have z5 : Hid (q.keyn ≤ 1) := by show _ ≤ _; rw [hkl.out]; exact b5
 replace hal := hi_ hal
 replace he := hi_ he
 replace hv := hi_ hv
 clear b0 b1 b2 b3 b4 b5
 go_enter Tryz.func91, Tryz.ntmps91
 go_upto_region 2 with (first | (rw [← hW1.out]) | (rw [← hW2.out]) | (rw [← hp1.out]) | (rw [← hp3.out]) | (rw [← hW3.out]) | (refine st_arm hst.out rfl _ _ rfl rfl rfl ?_))
 have u2 : (v.n != 0) = false := by simp [z0.out]
 have u3 : v.site.toList = [] := by rw [size_nil]; exact z3.out
 have u3' : (v.site.toList != []) = false := by rw [bne, size_beq]; simp [z3.out]
 have u4 : q.actsn = 0 := z4.out
 have u5 : ¬ (1 : Int) < (q.keyn : Int) := by have := z5.out; omega
 go_wp2_with fail
 refine wp_region_low_last 5 rfl rfl (by kernel_rfl) (by kernel_rfl) (by kernel_rfl) ?_
 simp only [List.take_succ_cons, List.take_zero]
 clear u2 u3 u3' u4 u5 x1 x6 x7 x8 x9
 repeat (go_big_quiet_step (fail))
 refine wpQuiet_nil ?_
 rintro _ ⟨d, rfl⟩ K hKK
 go_simp
 go_at_call 27
 refine (c1d.out d).mono ?_
 first | rintro e w5 rfl h5 | rintro e w5 ⟨rfl, h5⟩
 refine hKK.out _ _ ?_
 clear hKK K y11 y6 yw
 obtain ⟨-, -, -, -, -, -, -, x7, -⟩ := c10_ (h5.box M0_)
 have x11 := c1_ (h5.box M1_)
 go_upto_if 49 with fail
 go_cut [] (fun wx => PK w0 B b T2 (L2_ p3 p1 b (O31_ v q) bx) wx)
 case first =>
  by_cases hk0 : q.keyn = 0
  ·have k9 : v.key.length = 0 := by rw [← hkl.out]; exact hk0
   have f2' := f2.out
   rw [if_pos k9] at f2'
   have c2' := hi_ (c2.out f2' w5 h5)
   have y : ((q.keyn : Int) == 0) = true := by simp [hk0]
   replace k9 := hi_ k9
   replace h5 := hi_ h5
   clear f2' hk0
   go_wp2_with (go_at_call 27; refine c2'.out.mono ?_)
   first | rintro e w6 rfl h6 | rintro e w6 ⟨rfl, h6⟩
   replace h6 := hi_ h6
   go_wp2_with fail
   go_meet
   rw [hT2.out, if_pos k9.out]
   exact h6.out
  ·have k9 : Hid (¬ v.key.length = 0) := by show ¬ _; rw [← hkl.out]; exact hk0
   have y : ((q.keyn : Int) == 0) = false := by simp [hk0]
   replace h5 := hi_ h5
   clear hk0
   go_wp2_with fail
   go_meet
   rw [hT2.out, if_neg k9.out]
   exact h5.out
 case rest =>
  clear x7 x11
  replace h5 := hi_ h5
  obtain ⟨-, -, -, -, -, -, -, x7, -⟩ := c10_ (hcut.box M0_)
  have x11 := c1_ (hcut.box M1_)
  replace hcut := hi_ hcut
  go_wp2_with (go_at_call 84; refine (c3.out wc hcut.out).mono ?_)
  first | rintro e w7 rfl h7 | rintro e w7 ⟨rfl, h7⟩
  clear x7 x11
  have h7 : PK w0 B b (PS.keyF v (pExs v.key) (t.put w12_)) (L2_ p3 p1 b (O31_ v q) bx) w7 := by
   have h7' := h7
   rw [hT2.out] at h7'
   exact h7'
  obtain ⟨-, -, x2, -, -, -, x6, -⟩ := c10_ (h7.box M0_)
  have x11 := c1_ (h7.box M1_)
  replace h7 := hi_ h7
  go_wp2_with (go_at_call 51; refine (c4.out _ _ h7.out (by (first | rw [size_beq] | rw [size_emp] | simp [size_nil]))).mono ?_)
  first | rintro e w8 rfl h8 | rintro e w8 ⟨rfl, h8⟩
  clear x6 x2 x11
  obtain ⟨S6, hS6⟩ : ∃ S, S = w8.alloc (.cells #[.string ⟨#[101, 108, 115, 101]⟩] 9) := ⟨_, rfl⟩
  have hs6 : PK w0 B b ((PS.keyF v (pExs v.key) (t.put w12_)).must (decide (v.s.size = 0))) ((w8.heap.size, .cells #[.string ⟨#[101, 108, 115, 101]⟩] 9 (0, 0)) :: (L2_ p3 p1 b (O31_ v q) bx)) S6 := by rw [hS6]; exact h8.alloc _
  have hW6 : Hid (S6 = _) := hS6
  clear hS6
  have c6a := named_P w0 B b v q [bs w10_] (some ⟨w8.heap.size, 0, none⟩) 1 ((PS.keyF v (pExs v.key) (t.put w12_)).must (decide (v.s.size = 0))) _ S6 hv'.out hV (by decide) hs6 (.inr ⟨w8.heap.size, rfl, List.mem_cons_self ..⟩) f6'.out
  unfold A0_ at c6a
  rw [he.out] at c6a
  have hl8 := hi_ (row_load (h8.box M0_) Tryz.underlying50 rfl sizeEx_info)
  obtain ⟨-, -, -, -, -, -, x6, -⟩ := c10_ (h8.box M0_)
  have x11 := c1_ (h8.box M1_)
  replace c6a := hi_ c6a
  replace h8 := hi_ h8
  replace hs6 := hi_ hs6
  go_wp2_with (first | (rw [← hW6.out]) | (refine ld_arm hl8.out rfl _ rfl rfl ?_) | (go_at_call 127; refine c6a.out.mono ?_))
  first | rintro e wb rfl hb | rintro e wb ⟨rfl, hb⟩
  clear x6 x11
  replace hb := hb.drop
  obtain ⟨-, -, -, x3, -⟩ := c10_ (hb.box M0_)
  have x11 := c1_ (hb.box M1_)
  replace hb := hi_ hb
  go_wp2_with (go_at_call 84; refine (c9.out wb hb.out).mono ?_)
  first | rintro e wc9 rfl hc | rintro e wc9 ⟨rfl, hc⟩
  replace hc := hi_ hc.drop.drop
  go_wp2_with fail
  exact bodyPost_end (v := .tuple #[]) (results_none (by kernel_rfl) _ _ _) rfl ⟨rfl, hc.out⟩
theorem elem_P (w0 : World) (B b : Nat) (v : Ex) (q : QEx) (t : PS) (hv : ExAt w0 B v q) (hA : ExsP w0 B b v.args) (hV : ExsP w0 B b v.vals) (hK : ExsP w0 B b v.key) (hP : PairsP w0 B b v) : DoesP w0 B b 91 #[.pointer (some ⟨b, 0, none⟩), .agg (A0_ v q)] t (PS.elem v (pExs v.args) (pExs v.vals) (pExs v.key) (pPairs v.vals v.names) t) := by
 unfold A0_
 have h0 := u8_nonneg hv.elem
 cases hB : PS.elemBad v
 ·have hn := elemBad_not hB
  have h8 : v.elem = 1 ∨ v.elem = 2 ∨ v.elem = 3 ∨ v.elem = 4 ∨ v.elem = 5 ∨ v.elem = 6 ∨ v.elem = 7 ∨ v.elem = 8 := by omega
  rcases h8 with e | e | e | e | e | e | e | e
  ·exact elem1_P w0 B b v q t e hB hv hA hV hK hP
  ·exact elem2_P w0 B b v q t e hB hv hA hV hK hP
  ·exact elem3_P w0 B b v q t e hB hv hA hV hK hP
  ·exact elem4_P w0 B b v q t e hB hv hA hV hK hP
  ·exact elem5_P w0 B b v q t e hB hv hA hV hK hP
  ·exact elem6_P w0 B b v q t e hB hv hA hV hK hP
  ·exact elem7_P w0 B b v q t e hB hv hA hV hK hP
  ·exact elem8_P w0 B b v q t e hB hv hA hV hK hP
 ·exact elemB_P w0 B b v q t hB hv
end Go.Proofs.YtlppklbmdedipaaGreatDoor
