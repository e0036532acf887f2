/- PrintTexts, part 22. -/
import Derived.Test.YtlppklbmdedipaaGreatDoorW02
import Derived.Test.YtlppklbmdedipaaGreatDoorW21
namespace Go.Proofs.YtlppklbmdedipaaGreatDoor
open Go Go.RowKit
set_option maxHeartbeats 8000000
set_option maxRecDepth 100000
theorem form_lo {w : World} {B : Nat} {v : Ex} {q : QEx} (hv : ExAt w B v q) (u : PS) : u.l.length ≤ ((PS.form v (pExs v.args) (pExs v.vals) (pExs v.key) (pAcs v.acts) (pPairs v.vals v.names)) u).l.length :=
 (PS.form_le v (pExs_le _ (fun v _ => pEx_le v) hv.args.oks) (pExs_le _ (fun v _ => pEx_le v) hv.vals.oks) (pExs_le _ (fun v _ => pEx_le v) hv.key.oks) (pAcs_le _ (fun v _ => pAc_le v) hv.acts.oks) (pPairs_le _ (fun v _ => pEx_le v) hv.vals.oks v.names) (by omega) u).lo
theorem expr1c_P (w0 : World) (B b : Nat) (v : Ex) (q : QEx) (t : PS) (p1 p3 : Nat) (bx : Bx) (w : World) (hv : ExAt w0 B v q) (hA : ExsP w0 B b v.args) (hV : ExsP w0 B b v.vals) (hK : ExsP w0 B b v.key) (hC : AcsP w0 B b v.acts) (hP : PairsP w0 B b v)
  (m1 : (p1, (PB_ 35 b)) ∈ bx) (m3 : (p3, (O0_ v q)) ∈ bx) (h : PK w0 B b t bx w) (hF : FitP ((PS.form v (pExs v.args) (pExs v.vals) (pExs v.key) (pAcs v.acts) (pPairs v.vals v.names)) t)) :
  Calls Tryz.prog 60 #[.pointer (some ⟨p1, 0, none⟩), .pointer (some ⟨p3, 0, none⟩)] w fun e w' => e = .returned (.tuple #[]) ∧ PK w0 B b ((PS.form v (pExs v.args) (pExs v.vals) (pExs v.key) (pAcs v.acts) (pPairs v.vals v.names)) t) bx w' := by
 have c1 := hi_ (form_P w0 B b v q t hv hA hV hK hC hP bx w h hF)
 have x1 := c1_ (h.box m1)
 have hl := hi_ (row_load (h.box m3) Tryz.underlying50 rfl sizeEx_info)
 replace h := hi_ h
 clear hF hv
 go_enter Tryz.func60, Tryz.ntmps60
 go_wp2_with (first | (refine ld_arm hl.out rfl _ rfl rfl ?_) | (go_at_call 61; refine c1.out.mono ?_))
 first | rintro e w9 rfl h9 | rintro e w9 ⟨rfl, h9⟩
 replace h9 := hi_ h9
 go_wp2_with fail
 exact bodyPost_end (v := .tuple #[]) (results_none (by kernel_rfl) _ _ _) rfl ⟨rfl, h9.out⟩
theorem exprp0_P (w0 : World) (B b : Nat) (v : Ex) (q : QEx) (t : PS) (he : v.kind = 0)  (hv : ExAt w0 B v q) : DoesP w0 B b 32 #[.pointer (some ⟨b, 0, none⟩), .agg (A0_ v q)] t (PS.expr v (pExs v.args) (pExs v.vals) (pExs v.key) (pAcs v.acts) (pPairs v.vals v.names) t) := by
 unfold A0_
 intro bx w h hF
 have hL := hi_ hv.lens
 have hs := hv.s
 have hn := hv.n
 have hEq : PS.expr v (pExs v.args) (pExs v.vals) (pExs v.key) (pAcs v.acts) (pPairs v.vals v.names) t = ((t.put w1_).must (bareB v false false false false false)) := by
  unfold PS.expr
  rw [if_pos he]
 rw [hEq] at hF ⊢
 clear hEq
 have f1 : FitP (t.put w1_) := hF
 obtain ⟨p1, hp1⟩ : ∃ p, p = w.heap.size := ⟨_, rfl⟩
 obtain ⟨S1, hS1⟩ : ∃ S, S = w.alloc ((PB_ 35 b)) := ⟨_, rfl⟩
 have k1 : PK w0 B b t ((p1, (PB_ 35 b)) :: bx) S1 := by rw [hS1, hp1]; exact h.alloc _
 obtain ⟨p3, hp3⟩ : ∃ p, p = S1.heap.size := ⟨_, rfl⟩
 obtain ⟨S2, hS2⟩ : ∃ S, S = S1.alloc ((O0_ v q)) := ⟨_, rfl⟩
 have k2 : PK w0 B b t (L2_ p3 p1 b (O0_ v q) bx) S2 := by rw [hS2, hp3]; exact k1.alloc _
 have hW1 : Hid (S1 = _) := hS1
 have hW2 : Hid (S2 = _) := hS2
 replace hp1 := hi_ hp1
 replace hp3 := hi_ hp3
 replace h := hi_ h
 replace k1 := hi_ k1
 clear hS1 hS2
 obtain ⟨p4, hp4⟩ : ∃ p, p = S2.heap.size := ⟨_, rfl⟩
 obtain ⟨S3, hS3⟩ : ∃ S, S = S2.alloc (.cells A4_ 50) := ⟨_, rfl⟩
 have k3 : PK w0 B b t ((p4, O4_) :: (L2_ p3 p1 b (O0_ v q) bx)) S3 := by rw [hS3, hp4]; exact k2.alloc _
 have hst := row_store (k3.box M0_) (cs := (A42_ v)) sizeEx_info rfl (by simp [Value.oneCell', A42_])
 have k4 : PK w0 B b t ((p4, (O41_ v)) :: (L2_ p3 p1 b (O0_ v q) bx)) (S3.setRow p4 (A42_ v)) := k3.row (A42_ v)
 obtain ⟨S4, hS4⟩ : ∃ S, S = S3.setRow p4 (A42_ v) := ⟨_, rfl⟩
 rw [← hS4] at k4 hst
 obtain ⟨x0, x1, -⟩ := c10_ (k2.box M0_)
 have hW3 : Hid (S3 = _) := hS3
 replace hp4 := hi_ hp4
 replace hst := hi_ hst
 replace k2 := hi_ k2
 replace k3 := hi_ k3
 clear hS3 hS4
 have c1 := hi_ (fun W hW => put_P w0 B b t w1_ ((p4, (O42_ v)) :: (L2_ p3 p1 b (O0_ v q) bx)) W hW f1)
 have cM := hi_ (fun W ok (hW : PK w0 B b (t.put w1_) ((p4, (O42_ v)) :: (L2_ p3 p1 b (O0_ v q) bx)) W) (e : ok = (bareB v false false false false false)) => must_asP w0 B b (t.put w1_) (bareB v false false false false false) _ ok W hW e f1)
 clear f1
 replace he := hi_ he
 replace hs := hi_ hs
 replace hn := hi_ hn
 clear hF hv
 go_enter Tryz.func32, Tryz.ntmps32
 go_upto_region 2 with (first | (rw [← hW1.out]) | (rw [← hW2.out]) | (rw [← hp1.out]) | (rw [← hp3.out]) | (rw [← hW3.out]) | (rw [← hp4.out]) | (refine st_arm hst.out rfl _ _ rfl rfl rfl ?_))
 clear x0 x1
 obtain ⟨-, ga, -⟩ := c10_ (k4.box M0_)
 have gb : S4.frozen? ⟨p4, 1, none⟩ = false := fz_ (k4.box M0_)
 obtain ⟨S5, hES5⟩ : ∃ S, S = S4.setCell ⟨p4, 1, none⟩ (.int .i64 0) := ⟨_, rfl⟩
 have k5 : PK w0 B b t ((p4, (O42_ v)) :: (L2_ p3 p1 b (O0_ v q) bx)) S5 := by rw [hES5]; exact k4.set 1 _
 have hQS5 : Hid (S5 = _) := hES5
 clear hES5
 obtain ⟨x0, -⟩ := c10_ (k4.box M1_)
 rw [he.out] at x0
 have x11 := c1_ (k5.box M2_)
 have c1a := hi_ (c1.out S5 k5)
 replace k4 := hi_ k4
 replace k5 := hi_ k5
 go_wp2_with (first | (rw [← hQS5.out]) | (go_at_call 27; refine c1a.out.mono ?_))
 first | rintro e w1 rfl h1 | rintro e w1 ⟨rfl, h1⟩
 clear x0 x11 ga gb
 have hI := bare_is v q hL.out false false false false false (⟨#[]⟩) (0) rfl rfl
 simp only [Bool.false_eq_true, if_false] at hI
 have hbx3 := h1.box M1_
 have hbx4 := h1.box M0_
 have l3 := (h1.boxlt M1_).1
 have l4 := (h1.boxlt M0_).1
 have l1 := (h1.boxlt M2_).1
 have y11 := l1_ l1 (h1.box M2_)
 obtain ⟨y0, -⟩ := l10_ l3 hbx3
 obtain ⟨z0, -⟩ := l10_ l4 hbx4
 obtain ⟨-, y1, -⟩ := l10_ l3 hbx3
 obtain ⟨-, z1, -⟩ := l10_ l4 hbx4
 obtain ⟨-, -, y2, -⟩ := l10_ l3 hbx3
 obtain ⟨-, -, z2, -⟩ := l10_ l4 hbx4
 obtain ⟨-, -, -, y3, -⟩ := l10_ l3 hbx3
 obtain ⟨-, -, -, z3, -⟩ := l10_ l4 hbx4
 obtain ⟨-, -, -, -, y4, -⟩ := l10_ l3 hbx3
 obtain ⟨-, -, -, -, z4, -⟩ := l10_ l4 hbx4
 obtain ⟨-, -, -, -, -, y5, -⟩ := l10_ l3 hbx3
 obtain ⟨-, -, -, -, -, z5, -⟩ := l10_ l4 hbx4
 obtain ⟨-, -, -, -, -, -, y6, -⟩ := l10_ l3 hbx3
 obtain ⟨-, -, -, -, -, -, z6, -⟩ := l10_ l4 hbx4
 obtain ⟨-, -, -, -, -, -, -, y7, -⟩ := l10_ l3 hbx3
 obtain ⟨-, -, -, -, -, -, -, z7, -⟩ := l10_ l4 hbx4
 obtain ⟨-, -, -, -, -, -, -, -, y8, -⟩ := l10_ l3 hbx3
 obtain ⟨-, -, -, -, -, -, -, -, z8, -⟩ := l10_ l4 hbx4
 obtain ⟨-, -, -, -, -, -, -, -, -, y9⟩ := l10_ l3 hbx3
 obtain ⟨-, -, -, -, -, -, -, -, -, z9⟩ := l10_ l4 hbx4
 have cI := hi_ (fun d : LowW w1 => (by have := is_any v.kind v.n v.s q.argsa q.namesa q.valsa q.keya q.actsa q.argsn q.argsc q.namesn q.namesc q.valsn q.valsc v.elem q.keyn q.keyc q.actsn q.actsc v.site v.kind (0) (⟨#[]⟩) d.w; rw [hI] at this; exact this.mono fun e w' k => ⟨k.1, d.more k.2⟩ : Calls Tryz.prog 57 #[.agg (A0_ v q), .agg (A43_ v)] d.w fun e w' => e = .returned (.bool (bareB v false false false false false)) ∧ ∃ d' : LowW w1, w' = d'.w))
 have cMd := hi_ (fun d : LowW w1 => cM.out d.w _ (h1.below d.low) rfl)
 replace h1 := hi_ h1
 replace hbx3 := hi_ hbx3
 replace hbx4 := hi_ hbx4
 clear hI
 go_wp2_with fail
 refine wp_region_low_last 4 rfl rfl (by kernel_rfl) (by kernel_rfl) (by kernel_rfl) ?_
 simp only [List.take_succ_cons, List.take_zero]
 repeat (go_big_quiet_step (first | (go_at_call 57; exact cI.out _)))
 refine wpQuiet_nil ?_
 rintro _ ⟨d, rfl⟩ K hKK
 go_simp
 go_at_call 51
 refine (cMd.out d).mono ?_
 first | rintro e wz rfl hz | rintro e wz ⟨rfl, hz⟩
 refine hKK.out _ _ ?_
 clear hKK K y11 y0 z0 y1 z1 y2 z2 y3 z3 y4 z4 y5 z5 y6 z6 y7 z7 y8 z8 y9 z9
 replace hz := hi_ hz.drop.drop.drop
 go_wp2_with fail
 exact bodyPost_end (v := .tuple #[]) (results_none (by kernel_rfl) _ _ _) rfl ⟨rfl, hz.out⟩
theorem exprp1_P (w0 : World) (B b : Nat) (v : Ex) (q : QEx) (t : PS) (he : v.kind = 1)  (hv : ExAt w0 B v q) : DoesP w0 B b 32 #[.pointer (some ⟨b, 0, none⟩), .agg (A0_ v q)] t (PS.expr v (pExs v.args) (pExs v.vals) (pExs v.key) (pAcs v.acts) (pPairs v.vals v.names) t) := by
 unfold A0_
 intro bx w h hF
 have hL := hi_ hv.lens
 have hs := hv.s
 have hn := hv.n
 have hEq : PS.expr v (pExs v.args) (pExs v.vals) (pExs v.key) (pAcs v.acts) (pPairs v.vals v.names) t = ((t.put (Lib.itoa v.n)).must (bareB v true false false false false)) := by
  unfold PS.expr
  rw [if_neg (by omega), if_pos he]
 rw [hEq] at hF ⊢
 clear hEq
 have f1 : FitP (t.put (Lib.itoa v.n)) := hF
 obtain ⟨p1, hp1⟩ : ∃ p, p = w.heap.size := ⟨_, rfl⟩
 obtain ⟨S1, hS1⟩ : ∃ S, S = w.alloc ((PB_ 35 b)) := ⟨_, rfl⟩
 have k1 : PK w0 B b t ((p1, (PB_ 35 b)) :: bx) S1 := by rw [hS1, hp1]; exact h.alloc _
 obtain ⟨p3, hp3⟩ : ∃ p, p = S1.heap.size := ⟨_, rfl⟩
 obtain ⟨S2, hS2⟩ : ∃ S, S = S1.alloc ((O0_ v q)) := ⟨_, rfl⟩
 have k2 : PK w0 B b t (L2_ p3 p1 b (O0_ v q) bx) S2 := by rw [hS2, hp3]; exact k1.alloc _
 have hW1 : Hid (S1 = _) := hS1
 have hW2 : Hid (S2 = _) := hS2
 replace hp1 := hi_ hp1
 replace hp3 := hi_ hp3
 replace h := hi_ h
 replace k1 := hi_ k1
 clear hS1 hS2
 obtain ⟨p4, hp4⟩ : ∃ p, p = S2.heap.size := ⟨_, rfl⟩
 obtain ⟨S3, hS3⟩ : ∃ S, S = S2.alloc (.cells A4_ 50) := ⟨_, rfl⟩
 have k3 : PK w0 B b t ((p4, O4_) :: (L2_ p3 p1 b (O0_ v q) bx)) S3 := by rw [hS3, hp4]; exact k2.alloc _
 have hst := row_store (k3.box M0_) (cs := (A42_ v)) sizeEx_info rfl (by simp [Value.oneCell', A42_])
 have k4 : PK w0 B b t ((p4, (O41_ v)) :: (L2_ p3 p1 b (O0_ v q) bx)) (S3.setRow p4 (A42_ v)) := k3.row (A42_ v)
 obtain ⟨S4, hS4⟩ : ∃ S, S = S3.setRow p4 (A42_ v) := ⟨_, rfl⟩
 rw [← hS4] at k4 hst
 obtain ⟨x0, x1, -⟩ := c10_ (k2.box M0_)
 have hW3 : Hid (S3 = _) := hS3
 replace hp4 := hi_ hp4
 replace hst := hi_ hst
 replace k2 := hi_ k2
 replace k3 := hi_ k3
 clear hS3 hS4
 have c1 := hi_ (fun W hW => put_P w0 B b t (Lib.itoa v.n) ((p4, (O41_ v)) :: (L2_ p3 p1 b (O0_ v q) bx)) W hW f1)
 have cM := hi_ (fun W ok (hW : PK w0 B b (t.put (Lib.itoa v.n)) ((p4, (O41_ v)) :: (L2_ p3 p1 b (O0_ v q) bx)) W) (e : ok = (bareB v true false false false false)) => must_asP w0 B b (t.put (Lib.itoa v.n)) (bareB v true false false false false) _ ok W hW e f1)
 have hd9 := n64 (show (Lit.int .i64 v.n).wf = true from hn)
 clear f1
 replace he := hi_ he
 replace hs := hi_ hs
 replace hn := hi_ hn
 clear hF hv
 go_enter Tryz.func32, Tryz.ntmps32
 go_upto_region 2 with (first | (rw [← hW1.out]) | (rw [← hW2.out]) | (rw [← hp1.out]) | (rw [← hp3.out]) | (rw [← hW3.out]) | (rw [← hp4.out]) | (refine st_arm hst.out rfl _ _ rfl rfl rfl ?_))
 clear x0 x1
 obtain ⟨x0, -⟩ := c10_ (k4.box M1_)
 rw [he.out] at x0
 have hYb := k4.box M1_
 have hYl := (k4.boxlt M1_).1
 have hPl := (k4.boxlt M2_).1
 have n11 := l1_ hPl (k4.box M2_)
 obtain ⟨-, n1, -⟩ := l10_ hYl hYb
 have cD := hi_ (fun d : LowW S4 => ((Lx.fmt_any v.n d.w hd9 (k4.below d.low).envw).mono fun e w' k => ⟨k.1, d.more k.2⟩ : Calls Tryz.prog 58 #[.int .i64 v.n, .int .i64 10] d.w fun e w' => e = .returned (.string (bs (Lib.itoa v.n))) ∧ ∃ d' : LowW S4, w' = d'.w))
 have c1d := hi_ (fun d : LowW S4 => c1.out d.w (k4.below d.low))
 replace k4 := hi_ k4
 clear hYb
 go_wp2_with fail
 refine wp_region_low_last 4 rfl rfl (by kernel_rfl) (by kernel_rfl) (by kernel_rfl) ?_
 simp only [List.take_succ_cons, List.take_zero]
 repeat (go_big_quiet_step (first | (go_at_call 58; exact cD.out _)))
 refine wpQuiet_nil ?_
 rintro _ ⟨d, rfl⟩ K hKK
 go_simp
 go_at_call 27
 refine (c1d.out d).mono ?_
 first | rintro e w1 rfl h1 | rintro e w1 ⟨rfl, h1⟩
 refine hKK.out _ _ ?_
 clear hKK K n11 n1 x0
 have hI := bare_is v q hL.out true false false false false (⟨#[]⟩) (v.n) rfl rfl
 simp only [Bool.false_eq_true, if_false] at hI
 have hbx3 := h1.box M1_
 have hbx4 := h1.box M0_
 have l3 := (h1.boxlt M1_).1
 have l4 := (h1.boxlt M0_).1
 have l1 := (h1.boxlt M2_).1
 have y11 := l1_ l1 (h1.box M2_)
 obtain ⟨y0, -⟩ := l10_ l3 hbx3
 obtain ⟨z0, -⟩ := l10_ l4 hbx4
 obtain ⟨-, y1, -⟩ := l10_ l3 hbx3
 obtain ⟨-, z1, -⟩ := l10_ l4 hbx4
 obtain ⟨-, -, y2, -⟩ := l10_ l3 hbx3
 obtain ⟨-, -, z2, -⟩ := l10_ l4 hbx4
 obtain ⟨-, -, -, y3, -⟩ := l10_ l3 hbx3
 obtain ⟨-, -, -, z3, -⟩ := l10_ l4 hbx4
 obtain ⟨-, -, -, -, y4, -⟩ := l10_ l3 hbx3
 obtain ⟨-, -, -, -, z4, -⟩ := l10_ l4 hbx4
 obtain ⟨-, -, -, -, -, y5, -⟩ := l10_ l3 hbx3
 obtain ⟨-, -, -, -, -, z5, -⟩ := l10_ l4 hbx4
 obtain ⟨-, -, -, -, -, -, y6, -⟩ := l10_ l3 hbx3
 obtain ⟨-, -, -, -, -, -, z6, -⟩ := l10_ l4 hbx4
 obtain ⟨-, -, -, -, -, -, -, y7, -⟩ := l10_ l3 hbx3
 obtain ⟨-, -, -, -, -, -, -, z7, -⟩ := l10_ l4 hbx4
 obtain ⟨-, -, -, -, -, -, -, -, y8, -⟩ := l10_ l3 hbx3
 obtain ⟨-, -, -, -, -, -, -, -, z8, -⟩ := l10_ l4 hbx4
 obtain ⟨-, -, -, -, -, -, -, -, -, y9⟩ := l10_ l3 hbx3
 obtain ⟨-, -, -, -, -, -, -, -, -, z9⟩ := l10_ l4 hbx4
 have cI := hi_ (fun d : LowW w1 => (by have := is_any v.kind v.n v.s q.argsa q.namesa q.valsa q.keya q.actsa q.argsn q.argsc q.namesn q.namesc q.valsn q.valsc v.elem q.keyn q.keyc q.actsn q.actsc v.site v.kind (v.n) (⟨#[]⟩) d.w; rw [hI] at this; exact this.mono fun e w' k => ⟨k.1, d.more k.2⟩ : Calls Tryz.prog 57 #[.agg (A0_ v q), .agg (A42_ v)] d.w fun e w' => e = .returned (.bool (bareB v true false false false false)) ∧ ∃ d' : LowW w1, w' = d'.w))
 have cMd := hi_ (fun d : LowW w1 => cM.out d.w _ (h1.below d.low) rfl)
 replace h1 := hi_ h1
 replace hbx3 := hi_ hbx3
 replace hbx4 := hi_ hbx4
 clear hI
 go_wp2_with fail
 refine wp_region_low_last 4 rfl rfl (by kernel_rfl) (by kernel_rfl) (by kernel_rfl) ?_
 simp only [List.take_succ_cons, List.take_zero]
 repeat (go_big_quiet_step (first | (go_at_call 57; exact cI.out _)))
 refine wpQuiet_nil ?_
 rintro _ ⟨d, rfl⟩ K hKK
 go_simp
 go_at_call 51
 refine (cMd.out d).mono ?_
 first | rintro e wz rfl hz | rintro e wz ⟨rfl, hz⟩
 refine hKK.out _ _ ?_
 clear hKK K y11 y0 z0 y1 z1 y2 z2 y3 z3 y4 z4 y5 z5 y6 z6 y7 z7 y8 z8 y9 z9
 replace hz := hi_ hz.drop.drop.drop
 go_wp2_with fail
 exact bodyPost_end (v := .tuple #[]) (results_none (by kernel_rfl) _ _ _) rfl ⟨rfl, hz.out⟩
theorem exprp2a_P (w0 : World) (B b : Nat) (v : Ex) (q : QEx) (t : PS) (he : v.kind = 2) (h1 : v.n = 1) (hv : ExAt w0 B v q) : DoesP w0 B b 32 #[.pointer (some ⟨b, 0, none⟩), .agg (A0_ v q)] t (PS.expr v (pExs v.args) (pExs v.vals) (pExs v.key) (pAcs v.acts) (pPairs v.vals v.names) t) := by
 unfold A0_
 intro bx w h hF
 have hL := hi_ hv.lens
 have hs := hv.s
 have hn := hv.n
 have hEq : PS.expr v (pExs v.args) (pExs v.vals) (pExs v.key) (pAcs v.acts) (pPairs v.vals v.names) t = (((t.must (decide (v.n = 0) || decide (v.n = 1))).put w0_).must (bareB v true false false false false)) := by
  unfold PS.expr
  rw [if_neg (by omega), if_neg (by omega), if_pos he, if_pos h1]; rfl
 rw [hEq] at hF ⊢
 clear hEq
 have f2 : FitP ((t.must (decide (v.n = 0) || decide (v.n = 1))).put w0_) := hF
 have f1 : FitP (t.must (decide (v.n = 0) || decide (v.n = 1))) := f2.put
 obtain ⟨p1, hp1⟩ : ∃ p, p = w.heap.size := ⟨_, rfl⟩
 obtain ⟨S1, hS1⟩ : ∃ S, S = w.alloc ((PB_ 35 b)) := ⟨_, rfl⟩
 have k1 : PK w0 B b t ((p1, (PB_ 35 b)) :: bx) S1 := by rw [hS1, hp1]; exact h.alloc _
 obtain ⟨p3, hp3⟩ : ∃ p, p = S1.heap.size := ⟨_, rfl⟩
 obtain ⟨S2, hS2⟩ : ∃ S, S = S1.alloc ((O0_ v q)) := ⟨_, rfl⟩
 have k2 : PK w0 B b t (L2_ p3 p1 b (O0_ v q) bx) S2 := by rw [hS2, hp3]; exact k1.alloc _
 have hW1 : Hid (S1 = _) := hS1
 have hW2 : Hid (S2 = _) := hS2
 replace hp1 := hi_ hp1
 replace hp3 := hi_ hp3
 replace h := hi_ h
 replace k1 := hi_ k1
 clear hS1 hS2
 obtain ⟨p4, hp4⟩ : ∃ p, p = S2.heap.size := ⟨_, rfl⟩
 obtain ⟨S3, hS3⟩ : ∃ S, S = S2.alloc (.cells A4_ 50) := ⟨_, rfl⟩
 have k3 : PK w0 B b t ((p4, O4_) :: (L2_ p3 p1 b (O0_ v q) bx)) S3 := by rw [hS3, hp4]; exact k2.alloc _
 have hst := row_store (k3.box M0_) (cs := (A42_ v)) sizeEx_info rfl (by simp [Value.oneCell', A42_])
 have k4 : PK w0 B b t ((p4, (O41_ v)) :: (L2_ p3 p1 b (O0_ v q) bx)) (S3.setRow p4 (A42_ v)) := k3.row (A42_ v)
 obtain ⟨S4, hS4⟩ : ∃ S, S = S3.setRow p4 (A42_ v) := ⟨_, rfl⟩
 rw [← hS4] at k4 hst
 obtain ⟨x0, x1, -⟩ := c10_ (k2.box M0_)
 have hW3 : Hid (S3 = _) := hS3
 replace hp4 := hi_ hp4
 replace hst := hi_ hst
 replace k2 := hi_ k2
 replace k3 := hi_ k3
 clear hS3 hS4
 have c1 := hi_ (fun W ok (hW : PK w0 B b t ((p4, (O41_ v)) :: (L2_ p3 p1 b (O0_ v q) bx)) W) (e : ok = (decide (v.n = 0) || decide (v.n = 1))) => must_asP w0 B b t (decide (v.n = 0) || decide (v.n = 1)) _ ok W hW e f1)
 have c2 := hi_ (fun W hW => put_P w0 B b (t.must (decide (v.n = 0) || decide (v.n = 1))) w0_ ((p4, (O41_ v)) :: (L2_ p3 p1 b (O0_ v q) bx)) W hW f2)
 have cM := hi_ (fun W ok (hW : PK w0 B b ((t.must (decide (v.n = 0) || decide (v.n = 1))).put w0_) ((p4, (O41_ v)) :: (L2_ p3 p1 b (O0_ v q) bx)) W) (e : ok = (bareB v true false false false false)) => must_asP w0 B b ((t.must (decide (v.n = 0) || decide (v.n = 1))).put w0_) (bareB v true false false false false) _ ok W hW e f2)
 clear f1 f2
 replace h1 := hi_ h1
 replace he := hi_ he
 replace hs := hi_ hs
 replace hn := hi_ hn
 clear hF hv
 go_enter Tryz.func32, Tryz.ntmps32
 go_upto_region 2 with (first | (rw [← hW1.out]) | (rw [← hW2.out]) | (rw [← hp1.out]) | (rw [← hp3.out]) | (rw [← hW3.out]) | (rw [← hp4.out]) | (refine st_arm hst.out rfl _ _ rfl rfl rfl ?_))
 clear x0 x1
 obtain ⟨x0, x1, -⟩ := c10_ (k4.box M1_)
 rw [he.out] at x0
 have x11 := c1_ (k4.box M2_)
 have y2 : (v.n == 0) = false := by simp [h1.out]
 have y1 : (v.n == 1) = true := by simp [h1.out]
 replace k4 := hi_ k4
 go_wp2_with (go_at_call 51; refine (c1.out _ _ k4.out (by simp [h1.out])).mono ?_)
 first | rintro e w1 rfl hw1 | rintro e w1 ⟨rfl, hw1⟩
 clear x0 x1 x11
 obtain ⟨-, x1, -⟩ := c10_ (hw1.box M1_)
 have x11 := c1_ (hw1.box M2_)
 have c2a := hi_ (c2.out w1 hw1)
 have h1'' := hi_ hw1
 clear hw1
 go_wp2_with (go_at_call 27; refine c2a.out.mono ?_)
 first | rintro e w2 rfl h2 | rintro e w2 ⟨rfl, h2⟩
 clear x1 x11
 clear y1 y2
 have hI := bare_is v q hL.out true false false false false (⟨#[]⟩) (v.n) rfl rfl
 simp only [Bool.false_eq_true, if_false] at hI
 have hbx3 := h2.box M1_
 have hbx4 := h2.box M0_
 have l3 := (h2.boxlt M1_).1
 have l4 := (h2.boxlt M0_).1
 have l1 := (h2.boxlt M2_).1
 have y11 := l1_ l1 (h2.box M2_)
 obtain ⟨y0, -⟩ := l10_ l3 hbx3
 obtain ⟨z0, -⟩ := l10_ l4 hbx4
 obtain ⟨-, y1, -⟩ := l10_ l3 hbx3
 obtain ⟨-, z1, -⟩ := l10_ l4 hbx4
 obtain ⟨-, -, y2, -⟩ := l10_ l3 hbx3
 obtain ⟨-, -, z2, -⟩ := l10_ l4 hbx4
 obtain ⟨-, -, -, y3, -⟩ := l10_ l3 hbx3
 obtain ⟨-, -, -, z3, -⟩ := l10_ l4 hbx4
 obtain ⟨-, -, -, -, y4, -⟩ := l10_ l3 hbx3
 obtain ⟨-, -, -, -, z4, -⟩ := l10_ l4 hbx4
 obtain ⟨-, -, -, -, -, y5, -⟩ := l10_ l3 hbx3
 obtain ⟨-, -, -, -, -, z5, -⟩ := l10_ l4 hbx4
 obtain ⟨-, -, -, -, -, -, y6, -⟩ := l10_ l3 hbx3
 obtain ⟨-, -, -, -, -, -, z6, -⟩ := l10_ l4 hbx4
 obtain ⟨-, -, -, -, -, -, -, y7, -⟩ := l10_ l3 hbx3
 obtain ⟨-, -, -, -, -, -, -, z7, -⟩ := l10_ l4 hbx4
 obtain ⟨-, -, -, -, -, -, -, -, y8, -⟩ := l10_ l3 hbx3
 obtain ⟨-, -, -, -, -, -, -, -, z8, -⟩ := l10_ l4 hbx4
 obtain ⟨-, -, -, -, -, -, -, -, -, y9⟩ := l10_ l3 hbx3
 obtain ⟨-, -, -, -, -, -, -, -, -, z9⟩ := l10_ l4 hbx4
 have cI := hi_ (fun d : LowW w2 => (by have := is_any v.kind v.n v.s q.argsa q.namesa q.valsa q.keya q.actsa q.argsn q.argsc q.namesn q.namesc q.valsn q.valsc v.elem q.keyn q.keyc q.actsn q.actsc v.site v.kind (v.n) (⟨#[]⟩) d.w; rw [hI] at this; exact this.mono fun e w' k => ⟨k.1, d.more k.2⟩ : Calls Tryz.prog 57 #[.agg (A0_ v q), .agg (A42_ v)] d.w fun e w' => e = .returned (.bool (bareB v true false false false false)) ∧ ∃ d' : LowW w2, w' = d'.w))
 have cMd := hi_ (fun d : LowW w2 => cM.out d.w _ (h2.below d.low) rfl)
 replace h2 := hi_ h2
 replace hbx3 := hi_ hbx3
 replace hbx4 := hi_ hbx4
 clear hI
 go_wp2_with fail
 refine wp_region_low_last 4 rfl rfl (by kernel_rfl) (by kernel_rfl) (by kernel_rfl) ?_
 simp only [List.take_succ_cons, List.take_zero]
 repeat (go_big_quiet_step (first | (go_at_call 57; exact cI.out _)))
 refine wpQuiet_nil ?_
 rintro _ ⟨d, rfl⟩ K hKK
 go_simp
 go_at_call 51
 refine (cMd.out d).mono ?_
 first | rintro e wz rfl hz | rintro e wz ⟨rfl, hz⟩
 refine hKK.out _ _ ?_
 clear hKK K y11 y0 z0 y1 z1 y2 z2 y3 z3 y4 z4 y5 z5 y6 z6 y7 z7 y8 z8 y9 z9
 replace hz := hi_ hz.drop.drop.drop
 go_wp2_with fail
 exact bodyPost_end (v := .tuple #[]) (results_none (by kernel_rfl) _ _ _) rfl ⟨rfl, hz.out⟩
theorem exprp2b_P (w0 : World) (B b : Nat) (v : Ex) (q : QEx) (t : PS) (he : v.kind = 2) (h1 : ¬ v.n = 1) (hv : ExAt w0 B v q) : DoesP w0 B b 32 #[.pointer (some ⟨b, 0, none⟩), .agg (A0_ v q)] t (PS.expr v (pExs v.args) (pExs v.vals) (pExs v.key) (pAcs v.acts) (pPairs v.vals v.names) t) := by
 unfold A0_
 intro bx w h hF
 have hL := hi_ hv.lens
 have hs := hv.s
 have hn := hv.n
 have hEq : PS.expr v (pExs v.args) (pExs v.vals) (pExs v.key) (pAcs v.acts) (pPairs v.vals v.names) t = (((t.must (decide (v.n = 0) || decide (v.n = 1))).put [110, 111]).must (bareB v true false false false false)) := by
  unfold PS.expr
  rw [if_neg (by omega), if_neg (by omega), if_pos he, if_neg h1]; rfl
 rw [hEq] at hF ⊢
 clear hEq
 have f2 : FitP ((t.must (decide (v.n = 0) || decide (v.n = 1))).put [110, 111]) := hF
 have f1 : FitP (t.must (decide (v.n = 0) || decide (v.n = 1))) := f2.put
 obtain ⟨p1, hp1⟩ : ∃ p, p = w.heap.size := ⟨_, rfl⟩
 obtain ⟨S1, hS1⟩ : ∃ S, S = w.alloc ((PB_ 35 b)) := ⟨_, rfl⟩
 have k1 : PK w0 B b t ((p1, (PB_ 35 b)) :: bx) S1 := by rw [hS1, hp1]; exact h.alloc _
 obtain ⟨p3, hp3⟩ : ∃ p, p = S1.heap.size := ⟨_, rfl⟩
 obtain ⟨S2, hS2⟩ : ∃ S, S = S1.alloc ((O0_ v q)) := ⟨_, rfl⟩
 have k2 : PK w0 B b t (L2_ p3 p1 b (O0_ v q) bx) S2 := by rw [hS2, hp3]; exact k1.alloc _
 have hW1 : Hid (S1 = _) := hS1
 have hW2 : Hid (S2 = _) := hS2
 replace hp1 := hi_ hp1
 replace hp3 := hi_ hp3
 replace h := hi_ h
 replace k1 := hi_ k1
 clear hS1 hS2
 obtain ⟨p4, hp4⟩ : ∃ p, p = S2.heap.size := ⟨_, rfl⟩
 obtain ⟨S3, hS3⟩ : ∃ S, S = S2.alloc (.cells A4_ 50) := ⟨_, rfl⟩
 have k3 : PK w0 B b t ((p4, O4_) :: (L2_ p3 p1 b (O0_ v q) bx)) S3 := by rw [hS3, hp4]; exact k2.alloc _
 have hst := row_store (k3.box M0_) (cs := (A42_ v)) sizeEx_info rfl (by simp [Value.oneCell', A42_])
 have k4 : PK w0 B b t ((p4, (O41_ v)) :: (L2_ p3 p1 b (O0_ v q) bx)) (S3.setRow p4 (A42_ v)) := k3.row (A42_ v)
 obtain ⟨S4, hS4⟩ : ∃ S, S = S3.setRow p4 (A42_ v) := ⟨_, rfl⟩
 rw [← hS4] at k4 hst
 obtain ⟨x0, x1, -⟩ := c10_ (k2.box M0_)
 have hW3 : Hid (S3 = _) := hS3
 replace hp4 := hi_ hp4
 replace hst := hi_ hst
 replace k2 := hi_ k2
 replace k3 := hi_ k3
 clear hS3 hS4
 have c1 := hi_ (fun W ok (hW : PK w0 B b t ((p4, (O41_ v)) :: (L2_ p3 p1 b (O0_ v q) bx)) W) (e : ok = (decide (v.n = 0) || decide (v.n = 1))) => must_asP w0 B b t (decide (v.n = 0) || decide (v.n = 1)) _ ok W hW e f1)
 have c2 := hi_ (fun W hW => put_P w0 B b (t.must (decide (v.n = 0) || decide (v.n = 1))) [110, 111] ((p4, (O41_ v)) :: (L2_ p3 p1 b (O0_ v q) bx)) W hW f2)
 have cM := hi_ (fun W ok (hW : PK w0 B b ((t.must (decide (v.n = 0) || decide (v.n = 1))).put [110, 111]) ((p4, (O41_ v)) :: (L2_ p3 p1 b (O0_ v q) bx)) W) (e : ok = (bareB v true false false false false)) => must_asP w0 B b ((t.must (decide (v.n = 0) || decide (v.n = 1))).put [110, 111]) (bareB v true false false false false) _ ok W hW e f2)
 clear f1 f2
 replace h1 := hi_ h1
 replace he := hi_ he
 replace hs := hi_ hs
 replace hn := hi_ hn
 clear hF hv
 go_enter Tryz.func32, Tryz.ntmps32
 go_upto_region 2 with (first | (rw [← hW1.out]) | (rw [← hW2.out]) | (rw [← hp1.out]) | (rw [← hp3.out]) | (rw [← hW3.out]) | (rw [← hp4.out]) | (refine st_arm hst.out rfl _ _ rfl rfl rfl ?_))
 clear x0 x1
 obtain ⟨x0, x1, -⟩ := c10_ (k4.box M1_)
 rw [he.out] at x0
 have x11 := c1_ (k4.box M2_)
 have y1 : (v.n == 1) = false := by simp [h1.out]
 replace k4 := hi_ k4
 by_cases h0 : v.n = 0
 ·have y2 : (v.n == 0) = true := by simp [h0]
  replace h0 := hi_ h0
  go_wp2_with (go_at_call 51; refine (c1.out _ _ k4.out (by simp [h0.out])).mono ?_)
  first | rintro e w1 rfl hw1 | rintro e w1 ⟨rfl, hw1⟩
  clear x0 x1 x11
  obtain ⟨-, x1, -⟩ := c10_ (hw1.box M1_)
  have x11 := c1_ (hw1.box M2_)
  have c2a := hi_ (c2.out w1 hw1)
  have h1'' := hi_ hw1
  clear h1
  go_wp2_with (go_at_call 27; refine c2a.out.mono ?_)
  first | rintro e w2 rfl h2 | rintro e w2 ⟨rfl, h2⟩
  clear x1 x11
  clear y1 y2
  have hI := bare_is v q hL.out true false false false false (⟨#[]⟩) (v.n) rfl rfl
  simp only [Bool.false_eq_true, if_false] at hI
  have hbx3 := h2.box M1_
  have hbx4 := h2.box M0_
  have l3 := (h2.boxlt M1_).1
  have l4 := (h2.boxlt M0_).1
  have l1 := (h2.boxlt M2_).1
  have y11 := l1_ l1 (h2.box M2_)
  obtain ⟨y0, -⟩ := l10_ l3 hbx3
  obtain ⟨z0, -⟩ := l10_ l4 hbx4
  obtain ⟨-, y1, -⟩ := l10_ l3 hbx3
  obtain ⟨-, z1, -⟩ := l10_ l4 hbx4
  obtain ⟨-, -, y2, -⟩ := l10_ l3 hbx3
  obtain ⟨-, -, z2, -⟩ := l10_ l4 hbx4
  obtain ⟨-, -, -, y3, -⟩ := l10_ l3 hbx3
  obtain ⟨-, -, -, z3, -⟩ := l10_ l4 hbx4
  obtain ⟨-, -, -, -, y4, -⟩ := l10_ l3 hbx3
  obtain ⟨-, -, -, -, z4, -⟩ := l10_ l4 hbx4
  obtain ⟨-, -, -, -, -, y5, -⟩ := l10_ l3 hbx3
  obtain ⟨-, -, -, -, -, z5, -⟩ := l10_ l4 hbx4
  obtain ⟨-, -, -, -, -, -, y6, -⟩ := l10_ l3 hbx3
  obtain ⟨-, -, -, -, -, -, z6, -⟩ := l10_ l4 hbx4
  obtain ⟨-, -, -, -, -, -, -, y7, -⟩ := l10_ l3 hbx3
  obtain ⟨-, -, -, -, -, -, -, z7, -⟩ := l10_ l4 hbx4
  obtain ⟨-, -, -, -, -, -, -, -, y8, -⟩ := l10_ l3 hbx3
  obtain ⟨-, -, -, -, -, -, -, -, z8, -⟩ := l10_ l4 hbx4
  obtain ⟨-, -, -, -, -, -, -, -, -, y9⟩ := l10_ l3 hbx3
  obtain ⟨-, -, -, -, -, -, -, -, -, z9⟩ := l10_ l4 hbx4
  have cI := hi_ (fun d : LowW w2 => (by have := is_any v.kind v.n v.s q.argsa q.namesa q.valsa q.keya q.actsa q.argsn q.argsc q.namesn q.namesc q.valsn q.valsc v.elem q.keyn q.keyc q.actsn q.actsc v.site v.kind (v.n) (⟨#[]⟩) d.w; rw [hI] at this; exact this.mono fun e w' k => ⟨k.1, d.more k.2⟩ : Calls Tryz.prog 57 #[.agg (A0_ v q), .agg (A42_ v)] d.w fun e w' => e = .returned (.bool (bareB v true false false false false)) ∧ ∃ d' : LowW w2, w' = d'.w))
  have cMd := hi_ (fun d : LowW w2 => cM.out d.w _ (h2.below d.low) rfl)
  replace h2 := hi_ h2
  replace hbx3 := hi_ hbx3
  replace hbx4 := hi_ hbx4
  clear hI
  go_wp2_with fail
  refine wp_region_low_last 4 rfl rfl (by kernel_rfl) (by kernel_rfl) (by kernel_rfl) ?_
  simp only [List.take_succ_cons, List.take_zero]
  repeat (go_big_quiet_step (first | (go_at_call 57; exact cI.out _)))
  refine wpQuiet_nil ?_
  rintro _ ⟨d, rfl⟩ K hKK
  go_simp
  go_at_call 51
  refine (cMd.out d).mono ?_
  first | rintro e wz rfl hz | rintro e wz ⟨rfl, hz⟩
  refine hKK.out _ _ ?_
  clear hKK K y11 y0 z0 y1 z1 y2 z2 y3 z3 y4 z4 y5 z5 y6 z6 y7 z7 y8 z8 y9 z9
  replace hz := hi_ hz.drop.drop.drop
  go_wp2_with fail
  exact bodyPost_end (v := .tuple #[]) (results_none (by kernel_rfl) _ _ _) rfl ⟨rfl, hz.out⟩
 ·have y2 : (v.n == 0) = false := by simp [h0]
  replace h0 := hi_ h0
  go_wp2_with (go_at_call 51; refine (c1.out _ _ k4.out (by simp [h0.out, h1.out])).mono ?_)
  first | rintro e w1 rfl hw1 | rintro e w1 ⟨rfl, hw1⟩
  clear x0 x1 x11
  obtain ⟨-, x1, -⟩ := c10_ (hw1.box M1_)
  have x11 := c1_ (hw1.box M2_)
  have c2a := hi_ (c2.out w1 hw1)
  have h1'' := hi_ hw1
  clear h1
  go_wp2_with (go_at_call 27; refine c2a.out.mono ?_)
  first | rintro e w2 rfl h2 | rintro e w2 ⟨rfl, h2⟩
  clear x1 x11
  clear y1 y2
  have hI := bare_is v q hL.out true false false false false (⟨#[]⟩) (v.n) rfl rfl
  simp only [Bool.false_eq_true, if_false] at hI
  have hbx3 := h2.box M1_
  have hbx4 := h2.box M0_
  have l3 := (h2.boxlt M1_).1
  have l4 := (h2.boxlt M0_).1
  have l1 := (h2.boxlt M2_).1
  have y11 := l1_ l1 (h2.box M2_)
  obtain ⟨y0, -⟩ := l10_ l3 hbx3
  obtain ⟨z0, -⟩ := l10_ l4 hbx4
  obtain ⟨-, y1, -⟩ := l10_ l3 hbx3
  obtain ⟨-, z1, -⟩ := l10_ l4 hbx4
  obtain ⟨-, -, y2, -⟩ := l10_ l3 hbx3
  obtain ⟨-, -, z2, -⟩ := l10_ l4 hbx4
  obtain ⟨-, -, -, y3, -⟩ := l10_ l3 hbx3
  obtain ⟨-, -, -, z3, -⟩ := l10_ l4 hbx4
  obtain ⟨-, -, -, -, y4, -⟩ := l10_ l3 hbx3
  obtain ⟨-, -, -, -, z4, -⟩ := l10_ l4 hbx4
  obtain ⟨-, -, -, -, -, y5, -⟩ := l10_ l3 hbx3
  obtain ⟨-, -, -, -, -, z5, -⟩ := l10_ l4 hbx4
  obtain ⟨-, -, -, -, -, -, y6, -⟩ := l10_ l3 hbx3
  obtain ⟨-, -, -, -, -, -, z6, -⟩ := l10_ l4 hbx4
  obtain ⟨-, -, -, -, -, -, -, y7, -⟩ := l10_ l3 hbx3
  obtain ⟨-, -, -, -, -, -, -, z7, -⟩ := l10_ l4 hbx4
  obtain ⟨-, -, -, -, -, -, -, -, y8, -⟩ := l10_ l3 hbx3
  obtain ⟨-, -, -, -, -, -, -, -, z8, -⟩ := l10_ l4 hbx4
  obtain ⟨-, -, -, -, -, -, -, -, -, y9⟩ := l10_ l3 hbx3
  obtain ⟨-, -, -, -, -, -, -, -, -, z9⟩ := l10_ l4 hbx4
  have cI := hi_ (fun d : LowW w2 => (by have := is_any v.kind v.n v.s q.argsa q.namesa q.valsa q.keya q.actsa q.argsn q.argsc q.namesn q.namesc q.valsn q.valsc v.elem q.keyn q.keyc q.actsn q.actsc v.site v.kind (v.n) (⟨#[]⟩) d.w; rw [hI] at this; exact this.mono fun e w' k => ⟨k.1, d.more k.2⟩ : Calls Tryz.prog 57 #[.agg (A0_ v q), .agg (A42_ v)] d.w fun e w' => e = .returned (.bool (bareB v true false false false false)) ∧ ∃ d' : LowW w2, w' = d'.w))
  have cMd := hi_ (fun d : LowW w2 => cM.out d.w _ (h2.below d.low) rfl)
  replace h2 := hi_ h2
  replace hbx3 := hi_ hbx3
  replace hbx4 := hi_ hbx4
  clear hI
  go_wp2_with fail
  refine wp_region_low_last 4 rfl rfl (by kernel_rfl) (by kernel_rfl) (by kernel_rfl) ?_
  simp only [List.take_succ_cons, List.take_zero]
  repeat (go_big_quiet_step (first | (go_at_call 57; exact cI.out _)))
  refine wpQuiet_nil ?_
  rintro _ ⟨d, rfl⟩ K hKK
  go_simp
  go_at_call 51
  refine (cMd.out d).mono ?_
  first | rintro e wz rfl hz | rintro e wz ⟨rfl, hz⟩
  refine hKK.out _ _ ?_
  clear hKK K y11 y0 z0 y1 z1 y2 z2 y3 z3 y4 z4 y5 z5 y6 z6 y7 z7 y8 z8 y9 z9
  replace hz := hi_ hz.drop.drop.drop
  go_wp2_with fail
  exact bodyPost_end (v := .tuple #[]) (results_none (by kernel_rfl) _ _ _) rfl ⟨rfl, hz.out⟩
theorem exprp4_P (w0 : World) (B b : Nat) (v : Ex) (q : QEx) (t : PS) (he : v.kind = 4)  (hv : ExAt w0 B v q) : DoesP w0 B b 32 #[.pointer (some ⟨b, 0, none⟩), .agg (A0_ v q)] t (PS.expr v (pExs v.args) (pExs v.vals) (pExs v.key) (pAcs v.acts) (pPairs v.vals v.names) t) := by
 unfold A0_
 intro bx w h hF
 have hL := hi_ hv.lens
 have hs := hv.s
 have hn := hv.n
 have hEq : PS.expr v (pExs v.args) (pExs v.vals) (pExs v.key) (pAcs v.acts) (pPairs v.vals v.names) t = ((t.plain v.s).must (bareB v false true false false false)) := by
  unfold PS.expr
  rw [if_neg (by omega), if_neg (by omega), if_neg (by omega), if_neg (by omega), if_pos he]
 rw [hEq] at hF ⊢
 clear hEq
 have f1 : FitP (t.plain v.s) := hF
 obtain ⟨p1, hp1⟩ : ∃ p, p = w.heap.size := ⟨_, rfl⟩
 obtain ⟨S1, hS1⟩ : ∃ S, S = w.alloc ((PB_ 35 b)) := ⟨_, rfl⟩
 have k1 : PK w0 B b t ((p1, (PB_ 35 b)) :: bx) S1 := by rw [hS1, hp1]; exact h.alloc _
 obtain ⟨p3, hp3⟩ : ∃ p, p = S1.heap.size := ⟨_, rfl⟩
 obtain ⟨S2, hS2⟩ : ∃ S, S = S1.alloc ((O0_ v q)) := ⟨_, rfl⟩
 have k2 : PK w0 B b t (L2_ p3 p1 b (O0_ v q) bx) S2 := by rw [hS2, hp3]; exact k1.alloc _
 have hW1 : Hid (S1 = _) := hS1
 have hW2 : Hid (S2 = _) := hS2
 replace hp1 := hi_ hp1
 replace hp3 := hi_ hp3
 replace h := hi_ h
 replace k1 := hi_ k1
 clear hS1 hS2
 obtain ⟨p4, hp4⟩ : ∃ p, p = S2.heap.size := ⟨_, rfl⟩
 obtain ⟨S3, hS3⟩ : ∃ S, S = S2.alloc (.cells A4_ 50) := ⟨_, rfl⟩
 have k3 : PK w0 B b t ((p4, O4_) :: (L2_ p3 p1 b (O0_ v q) bx)) S3 := by rw [hS3, hp4]; exact k2.alloc _
 have hst := row_store (k3.box M0_) (cs := (A42_ v)) sizeEx_info rfl (by simp [Value.oneCell', A42_])
 have k4 : PK w0 B b t ((p4, (O41_ v)) :: (L2_ p3 p1 b (O0_ v q) bx)) (S3.setRow p4 (A42_ v)) := k3.row (A42_ v)
 obtain ⟨S4, hS4⟩ : ∃ S, S = S3.setRow p4 (A42_ v) := ⟨_, rfl⟩
 rw [← hS4] at k4 hst
 obtain ⟨x0, x1, -⟩ := c10_ (k2.box M0_)
 have hW3 : Hid (S3 = _) := hS3
 replace hp4 := hi_ hp4
 replace hst := hi_ hst
 replace k2 := hi_ k2
 replace k3 := hi_ k3
 clear hS3 hS4
 have c1 := hi_ (fun W hW => plain_P w0 B b t v.s hs ((p4, (O43_ v)) :: (L2_ p3 p1 b (O0_ v q) bx)) W hW f1)
 have cM := hi_ (fun W ok (hW : PK w0 B b (t.plain v.s) ((p4, (O43_ v)) :: (L2_ p3 p1 b (O0_ v q) bx)) W) (e : ok = (bareB v false true false false false)) => must_asP w0 B b (t.plain v.s) (bareB v false true false false false) _ ok W hW e f1)
 clear f1
 replace he := hi_ he
 replace hs := hi_ hs
 replace hn := hi_ hn
 clear hF hv
 go_enter Tryz.func32, Tryz.ntmps32
 go_upto_region 2 with (first | (rw [← hW1.out]) | (rw [← hW2.out]) | (rw [← hp1.out]) | (rw [← hp3.out]) | (rw [← hW3.out]) | (rw [← hp4.out]) | (refine st_arm hst.out rfl _ _ rfl rfl rfl ?_))
 clear x0 x1
 obtain ⟨x0, -, x2, -⟩ := c10_ (k4.box M1_)
 rw [he.out] at x0
 obtain ⟨-, ga, -⟩ := c10_ (k4.box M0_)
 have gb : S4.frozen? ⟨p4, 1, none⟩ = false := fz_ (k4.box M0_)
 obtain ⟨-, -, gc, -⟩ := c10_ (k4.box M0_)
 have gd : S4.frozen? ⟨p4, 2, none⟩ = false := fz_ (k4.box M0_)
 obtain ⟨S5, hS5⟩ : ∃ S, S = ((S4.setCell ⟨p4, 1, none⟩ (.int .i64 0)).setCell ⟨p4, 2, none⟩ (.string v.s)).drew := ⟨_, rfl⟩
 have k5 : PK w0 B b t ((p4, (O43_ v)) :: (L2_ p3 p1 b (O0_ v q) bx)) S5 := by
  have h5 : PK w0 B b t ((p4, (O43_ v)) :: (L2_ p3 p1 b (O0_ v q) bx)) ((S4.setCell ⟨p4, 1, none⟩ (.int .i64 0)).setCell ⟨p4, 2, none⟩ (.string v.s)) := (k4.set 1 _).set 2 _
  rw [hS5]; exact h5.below ⟨rfl, rfl, rfl, Nat.le_refl _, fun _ _ => rfl⟩
 have hQ5 : Hid (S5 = _) := hS5
 clear hS5
 replace k4 := hi_ k4
 have k5' := hi_ k5
 clear k5
 go_wp2_with fail
 go_region
 rw [← hQ5.out]
 have k5 := k5'.out
 clear ga gb gc gd x0 x2
 obtain ⟨-, -, x2, -⟩ := c10_ (k5.box M1_)
 have x11 := c1_ (k5.box M2_)
 replace k5 := hi_ k5
 go_wp2_with (go_at_call 28; refine (c1.out S5 k5.out).mono ?_)
 first | rintro e w1 rfl h1 | rintro e w1 ⟨rfl, h1⟩
 clear x2 x11
 have hI := bare_is v q hL.out false true false false false (v.s) (0) rfl rfl
 simp only [Bool.false_eq_true, if_false] at hI
 have hbx3 := h1.box M1_
 have hbx4 := h1.box M0_
 have l3 := (h1.boxlt M1_).1
 have l4 := (h1.boxlt M0_).1
 have l1 := (h1.boxlt M2_).1
 have y11 := l1_ l1 (h1.box M2_)
 obtain ⟨y0, -⟩ := l10_ l3 hbx3
 obtain ⟨z0, -⟩ := l10_ l4 hbx4
 obtain ⟨-, y1, -⟩ := l10_ l3 hbx3
 obtain ⟨-, z1, -⟩ := l10_ l4 hbx4
 obtain ⟨-, -, y2, -⟩ := l10_ l3 hbx3
 obtain ⟨-, -, z2, -⟩ := l10_ l4 hbx4
 obtain ⟨-, -, -, y3, -⟩ := l10_ l3 hbx3
 obtain ⟨-, -, -, z3, -⟩ := l10_ l4 hbx4
 obtain ⟨-, -, -, -, y4, -⟩ := l10_ l3 hbx3
 obtain ⟨-, -, -, -, z4, -⟩ := l10_ l4 hbx4
 obtain ⟨-, -, -, -, -, y5, -⟩ := l10_ l3 hbx3
 obtain ⟨-, -, -, -, -, z5, -⟩ := l10_ l4 hbx4
 obtain ⟨-, -, -, -, -, -, y6, -⟩ := l10_ l3 hbx3
 obtain ⟨-, -, -, -, -, -, z6, -⟩ := l10_ l4 hbx4
 obtain ⟨-, -, -, -, -, -, -, y7, -⟩ := l10_ l3 hbx3
 obtain ⟨-, -, -, -, -, -, -, z7, -⟩ := l10_ l4 hbx4
 obtain ⟨-, -, -, -, -, -, -, -, y8, -⟩ := l10_ l3 hbx3
 obtain ⟨-, -, -, -, -, -, -, -, z8, -⟩ := l10_ l4 hbx4
 obtain ⟨-, -, -, -, -, -, -, -, -, y9⟩ := l10_ l3 hbx3
 obtain ⟨-, -, -, -, -, -, -, -, -, z9⟩ := l10_ l4 hbx4
 have cI := hi_ (fun d : LowW w1 => (by have := is_any v.kind v.n v.s q.argsa q.namesa q.valsa q.keya q.actsa q.argsn q.argsc q.namesn q.namesc q.valsn q.valsc v.elem q.keyn q.keyc q.actsn q.actsc v.site v.kind (0) (v.s) d.w; rw [hI] at this; exact this.mono fun e w' k => ⟨k.1, d.more k.2⟩ : Calls Tryz.prog 57 #[.agg (A0_ v q), .agg (A44_ v)] d.w fun e w' => e = .returned (.bool (bareB v false true false false false)) ∧ ∃ d' : LowW w1, w' = d'.w))
 have cMd := hi_ (fun d : LowW w1 => cM.out d.w _ (h1.below d.low) rfl)
 replace h1 := hi_ h1
 replace hbx3 := hi_ hbx3
 replace hbx4 := hi_ hbx4
 clear hI
 go_wp2_with fail
 refine wp_region_low_last 4 rfl rfl (by kernel_rfl) (by kernel_rfl) (by kernel_rfl) ?_
 simp only [List.take_succ_cons, List.take_zero]
 repeat (go_big_quiet_step (first | (go_at_call 57; exact cI.out _)))
 refine wpQuiet_nil ?_
 rintro _ ⟨d, rfl⟩ K hKK
 go_simp
 go_at_call 51
 refine (cMd.out d).mono ?_
 first | rintro e wz rfl hz | rintro e wz ⟨rfl, hz⟩
 refine hKK.out _ _ ?_
 clear hKK K y11 y0 z0 y1 z1 y2 z2 y3 z3 y4 z4 y5 z5 y6 z6 y7 z7 y8 z8 y9 z9
 replace hz := hi_ hz.drop.drop.drop
 go_wp2_with fail
 exact bodyPost_end (v := .tuple #[]) (results_none (by kernel_rfl) _ _ _) rfl ⟨rfl, hz.out⟩
theorem exprp3_P (w0 : World) (B b : Nat) (v : Ex) (q : QEx) (t : PS) (he : v.kind = 3)  (hv : ExAt w0 B v q) : DoesP w0 B b 32 #[.pointer (some ⟨b, 0, none⟩), .agg (A0_ v q)] t (PS.expr v (pExs v.args) (pExs v.vals) (pExs v.key) (pAcs v.acts) (pPairs v.vals v.names) t) := by
 unfold A0_
 intro bx w h hF
 have hL := hi_ hv.lens
 have hs := hv.s
 have hn := hv.n
 have hEq : PS.expr v (pExs v.args) (pExs v.vals) (pExs v.key) (pAcs v.acts) (pPairs v.vals v.names) t = (((t.must (decide (v.s.size ≤ 4096))).put (if v.s.size ≤ 4096 then quoteL v.s.data.toList else [])).must (bareB v false true false false false)) := by
  unfold PS.expr
  rw [if_neg (by omega), if_neg (by omega), if_neg (by omega), if_pos he]
 rw [hEq] at hF ⊢
 clear hEq
 have f2 : FitP ((t.must (decide (v.s.size ≤ 4096))).put (if v.s.size ≤ 4096 then quoteL v.s.data.toList else [])) := hF
 have f1 : FitP (t.must (decide (v.s.size ≤ 4096))) := f2.put
 obtain ⟨TF, hTF⟩ : ∃ TF, TF = ((t.must (decide (v.s.size ≤ 4096))).put (if v.s.size ≤ 4096 then quoteL v.s.data.toList else [])).must (bareB v false true false false false) := ⟨_, rfl⟩
 rw [← hTF]
 replace hTF := hi_ hTF
 obtain ⟨p1, hp1⟩ : ∃ p, p = w.heap.size := ⟨_, rfl⟩
 obtain ⟨S1, hS1⟩ : ∃ S, S = w.alloc ((PB_ 35 b)) := ⟨_, rfl⟩
 have k1 : PK w0 B b t ((p1, (PB_ 35 b)) :: bx) S1 := by rw [hS1, hp1]; exact h.alloc _
 obtain ⟨p3, hp3⟩ : ∃ p, p = S1.heap.size := ⟨_, rfl⟩
 obtain ⟨S2, hS2⟩ : ∃ S, S = S1.alloc ((O0_ v q)) := ⟨_, rfl⟩
 have k2 : PK w0 B b t (L2_ p3 p1 b (O0_ v q) bx) S2 := by rw [hS2, hp3]; exact k1.alloc _
 have hW1 : Hid (S1 = _) := hS1
 have hW2 : Hid (S2 = _) := hS2
 replace hp1 := hi_ hp1
 replace hp3 := hi_ hp3
 replace h := hi_ h
 replace k1 := hi_ k1
 clear hS1 hS2
 obtain ⟨p4, hp4⟩ : ∃ p, p = S2.heap.size := ⟨_, rfl⟩
 obtain ⟨S3, hS3⟩ : ∃ S, S = S2.alloc (.cells A4_ 50) := ⟨_, rfl⟩
 have k3 : PK w0 B b t ((p4, O4_) :: (L2_ p3 p1 b (O0_ v q) bx)) S3 := by rw [hS3, hp4]; exact k2.alloc _
 have hst := row_store (k3.box M0_) (cs := (A42_ v)) sizeEx_info rfl (by simp [Value.oneCell', A42_])
 have k4 : PK w0 B b t ((p4, (O41_ v)) :: (L2_ p3 p1 b (O0_ v q) bx)) (S3.setRow p4 (A42_ v)) := k3.row (A42_ v)
 obtain ⟨S4, hS4⟩ : ∃ S, S = S3.setRow p4 (A42_ v) := ⟨_, rfl⟩
 rw [← hS4] at k4 hst
 obtain ⟨x0, x1, -⟩ := c10_ (k2.box M0_)
 have hW3 : Hid (S3 = _) := hS3
 replace hp4 := hi_ hp4
 replace hst := hi_ hst
 replace k2 := hi_ k2
 replace k3 := hi_ k3
 clear hS3 hS4
 have cS := hi_ (fun W ok (hW : PK w0 B b t ((p4, (O43_ v)) :: (L2_ p3 p1 b (O0_ v q) bx)) W) (e : ok = (decide (v.s.size ≤ 4096))) => must_asP w0 B b t (decide (v.s.size ≤ 4096)) _ ok W hW e f1)
 have c2 := hi_ (fun W hW => put_P w0 B b (t.must (decide (v.s.size ≤ 4096))) (if v.s.size ≤ 4096 then quoteL v.s.data.toList else []) ((p4, (O43_ v)) :: (L2_ p3 p1 b (O0_ v q) bx)) W hW f2)
 have cM := hi_ (fun W ok (hW : PK w0 B b ((t.must (decide (v.s.size ≤ 4096))).put (if v.s.size ≤ 4096 then quoteL v.s.data.toList else [])) ((p4, (O43_ v)) :: (L2_ p3 p1 b (O0_ v q) bx)) W) (e : ok = (bareB v false true false false false)) => must_asP w0 B b ((t.must (decide (v.s.size ≤ 4096))).put (if v.s.size ≤ 4096 then quoteL v.s.data.toList else [])) (bareB v false true false false false) _ ok W hW e f2)
 have hs9 := hi_ hs
 clear f1 f2
 replace he := hi_ he
 replace hs := hi_ hs
 replace hn := hi_ hn
 clear hF hv
 go_enter Tryz.func32, Tryz.ntmps32
 go_upto_region 2 with (first | (rw [← hW1.out]) | (rw [← hW2.out]) | (rw [← hp1.out]) | (rw [← hp3.out]) | (rw [← hW3.out]) | (rw [← hp4.out]) | (refine st_arm hst.out rfl _ _ rfl rfl rfl ?_))
 clear x0 x1
 obtain ⟨x0, -, x2, -⟩ := c10_ (k4.box M1_)
 rw [he.out] at x0
 obtain ⟨-, ga, -⟩ := c10_ (k4.box M0_)
 have gb : S4.frozen? ⟨p4, 1, none⟩ = false := fz_ (k4.box M0_)
 obtain ⟨-, -, gc, -⟩ := c10_ (k4.box M0_)
 have gd : S4.frozen? ⟨p4, 2, none⟩ = false := fz_ (k4.box M0_)
 obtain ⟨S5, hS5⟩ : ∃ S, S = ((S4.setCell ⟨p4, 1, none⟩ (.int .i64 0)).setCell ⟨p4, 2, none⟩ (.string v.s)).drew := ⟨_, rfl⟩
 have k5 : PK w0 B b t ((p4, (O43_ v)) :: (L2_ p3 p1 b (O0_ v q) bx)) S5 := by
  have h5 : PK w0 B b t ((p4, (O43_ v)) :: (L2_ p3 p1 b (O0_ v q) bx)) ((S4.setCell ⟨p4, 1, none⟩ (.int .i64 0)).setCell ⟨p4, 2, none⟩ (.string v.s)) := (k4.set 1 _).set 2 _
  rw [hS5]; exact h5.below ⟨rfl, rfl, rfl, Nat.le_refl _, fun _ _ => rfl⟩
 have hQ5 : Hid (S5 = _) := hS5
 clear hS5
 replace k4 := hi_ k4
 have k5' := hi_ k5
 clear k5
 go_wp2_with fail
 go_region
 rw [← hQ5.out]
 have k5 := k5'.out
 clear ga gb gc gd x0 x2
 obtain ⟨-, -, x2, -⟩ := c10_ (k5.box M1_)
 have x11 := c1_ (k5.box M2_)
 replace k5 := hi_ k5
 go_wp2_with (go_at_call 51; refine (cS.out _ _ k5.out (by first | (simp; done) | (rw [Bool.eq_iff_iff]; simp; omega))).mono ?_)
 first | rintro e w1 rfl h1 | rintro e w1 ⟨rfl, h1⟩
 clear x2 x11
 have hYb := h1.box M1_
 have hYl := (h1.boxlt M1_).1
 have hPl := (h1.boxlt M2_).1
 have n11 := l1_ hPl (h1.box M2_)
 obtain ⟨-, -, n2, -⟩ := l10_ hYl hYb
 obtain ⟨L, hLL⟩ : ∃ L, L = (if v.s.size ≤ 4096 then quoteL v.s.data.toList else []) := ⟨_, rfl⟩
 rw [← hLL] at c2
 have cD := hi_ (fun d : LowW w1 => ((text3_any v.s d.w (h1.below d.low).envw hs9.out).mono fun e w' k => ⟨by rw [hLL]; exact k.1, d.more k.2⟩ : Calls Tryz.prog 59 #[.agg (A45_ v)] d.w fun e w' => e = .returned (.string (bs L)) ∧ ∃ d' : LowW w1, w' = d'.w))
 have c2d := hi_ (fun d : LowW w1 => c2.out d.w (h1.below d.low))
 have hLL' := hi_ hLL
 replace h1 := hi_ h1
 clear hYb hLL
 go_wp2_with fail
 refine wp_region_low_last 5 rfl rfl (by kernel_rfl) (by kernel_rfl) (by kernel_rfl) ?_
 simp only [List.take_succ_cons, List.take_zero]
 repeat (go_big_quiet_step (first | (go_at_call 59; exact cD.out _)))
 refine wpQuiet_nil ?_
 rintro _ ⟨d, rfl⟩ K hKK
 go_simp
 go_at_call 27
 refine (c2d.out d).mono ?_
 first | rintro e w2 rfl h2 | rintro e w2 ⟨rfl, h2⟩
 refine hKK.out _ _ ?_
 clear hKK K n11 n2
 rw [hLL'.out] at h2
 have hI := bare_is v q hL.out false true false false false (v.s) (0) rfl rfl
 simp only [Bool.false_eq_true, if_false] at hI
 have hbx3 := h2.box M1_
 have hbx4 := h2.box M0_
 have l3 := (h2.boxlt M1_).1
 have l4 := (h2.boxlt M0_).1
 have l1 := (h2.boxlt M2_).1
 have y11 := l1_ l1 (h2.box M2_)
 obtain ⟨y0, -⟩ := l10_ l3 hbx3
 obtain ⟨z0, -⟩ := l10_ l4 hbx4
 obtain ⟨-, y1, -⟩ := l10_ l3 hbx3
 obtain ⟨-, z1, -⟩ := l10_ l4 hbx4
 obtain ⟨-, -, y2, -⟩ := l10_ l3 hbx3
 obtain ⟨-, -, z2, -⟩ := l10_ l4 hbx4
 obtain ⟨-, -, -, y3, -⟩ := l10_ l3 hbx3
 obtain ⟨-, -, -, z3, -⟩ := l10_ l4 hbx4
 obtain ⟨-, -, -, -, y4, -⟩ := l10_ l3 hbx3
 obtain ⟨-, -, -, -, z4, -⟩ := l10_ l4 hbx4
 obtain ⟨-, -, -, -, -, y5, -⟩ := l10_ l3 hbx3
 obtain ⟨-, -, -, -, -, z5, -⟩ := l10_ l4 hbx4
 obtain ⟨-, -, -, -, -, -, y6, -⟩ := l10_ l3 hbx3
 obtain ⟨-, -, -, -, -, -, z6, -⟩ := l10_ l4 hbx4
 obtain ⟨-, -, -, -, -, -, -, y7, -⟩ := l10_ l3 hbx3
 obtain ⟨-, -, -, -, -, -, -, z7, -⟩ := l10_ l4 hbx4
 obtain ⟨-, -, -, -, -, -, -, -, y8, -⟩ := l10_ l3 hbx3
 obtain ⟨-, -, -, -, -, -, -, -, z8, -⟩ := l10_ l4 hbx4
 obtain ⟨-, -, -, -, -, -, -, -, -, y9⟩ := l10_ l3 hbx3
 obtain ⟨-, -, -, -, -, -, -, -, -, z9⟩ := l10_ l4 hbx4
 have cI := hi_ (fun d : LowW w2 => (by have := is_any v.kind v.n v.s q.argsa q.namesa q.valsa q.keya q.actsa q.argsn q.argsc q.namesn q.namesc q.valsn q.valsc v.elem q.keyn q.keyc q.actsn q.actsc v.site v.kind (0) (v.s) d.w; rw [hI] at this; exact this.mono fun e w' k => ⟨k.1, d.more k.2⟩ : Calls Tryz.prog 57 #[.agg (A0_ v q), .agg (A44_ v)] d.w fun e w' => e = .returned (.bool (bareB v false true false false false)) ∧ ∃ d' : LowW w2, w' = d'.w))
 have cMd := hi_ (fun d : LowW w2 => cM.out d.w _ (h2.below d.low) rfl)
 replace h2 := hi_ h2
 replace hbx3 := hi_ hbx3
 replace hbx4 := hi_ hbx4
 clear hI
 go_wp2_with fail
 refine wp_region_low_last 4 rfl rfl (by kernel_rfl) (by kernel_rfl) (by kernel_rfl) ?_
 simp only [List.take_succ_cons, List.take_zero]
 repeat (go_big_quiet_step (first | (go_at_call 57; exact cI.out _)))
 refine wpQuiet_nil ?_
 rintro _ ⟨d, rfl⟩ K hKK
 go_simp
 go_at_call 51
 refine (cMd.out d).mono ?_
 first | rintro e wz rfl hz | rintro e wz ⟨rfl, hz⟩
 refine hKK.out _ _ ?_
 clear hKK K y11 y0 z0 y1 z1 y2 z2 y3 z3 y4 z4 y5 z5 y6 z6 y7 z7 y8 z8 y9 z9
 replace hz := hi_ hz.drop.drop.drop
 go_wp2_with fail
 exact bodyPost_end (v := .tuple #[]) (results_none (by kernel_rfl) _ _ _) rfl ⟨rfl, by rw [hTF.out]; exact hz.out⟩
theorem exprpf_P (w0 : World) (B b : Nat) (v : Ex) (q : QEx) (t : PS) (he : ¬ v.kind = 0 ∧ ¬ v.kind = 1 ∧ ¬ v.kind = 2 ∧ ¬ v.kind = 3 ∧ ¬ v.kind = 4) (hv : ExAt w0 B v q) (hA : ExsP w0 B b v.args) (hV : ExsP w0 B b v.vals) (hK : ExsP w0 B b v.key) (hC : AcsP w0 B b v.acts) (hP : PairsP w0 B b v) : DoesP w0 B b 32 #[.pointer (some ⟨b, 0, none⟩), .agg (A0_ v q)] t (PS.expr v (pExs v.args) (pExs v.vals) (pExs v.key) (pAcs v.acts) (pPairs v.vals v.names) t) := by
 unfold A0_
 intro bx w h hF
 have hEq : PS.expr v (pExs v.args) (pExs v.vals) (pExs v.key) (pAcs v.acts) (pPairs v.vals v.names) t = PS.round (PS.form v (pExs v.args) (pExs v.vals) (pExs v.key) (pAcs v.acts) (pPairs v.vals v.names)) t := by
  unfold PS.expr
  rw [if_neg he.1, if_neg he.2.1, if_neg he.2.2.1, if_neg he.2.2.2.1, if_neg he.2.2.2.2]
 rw [hEq] at hF ⊢
 clear hEq
 obtain ⟨p1, hp1⟩ : ∃ p, p = w.heap.size := ⟨_, rfl⟩
 obtain ⟨S1, hS1⟩ : ∃ S, S = w.alloc ((PB_ 35 b)) := ⟨_, rfl⟩
 have k1 : PK w0 B b t ((p1, (PB_ 35 b)) :: bx) S1 := by rw [hS1, hp1]; exact h.alloc _
 obtain ⟨p3, hp3⟩ : ∃ p, p = S1.heap.size := ⟨_, rfl⟩
 obtain ⟨S2, hS2⟩ : ∃ S, S = S1.alloc ((O0_ v q)) := ⟨_, rfl⟩
 have k2 : PK w0 B b t (L2_ p3 p1 b (O0_ v q) bx) S2 := by rw [hS2, hp3]; exact k1.alloc _
 have hW1 : Hid (S1 = _) := hS1
 have hW2 : Hid (S2 = _) := hS2
 replace hp1 := hi_ hp1
 replace hp3 := hi_ hp3
 replace h := hi_ h
 replace k1 := hi_ k1
 clear hS1 hS2
 obtain ⟨p4, hp4⟩ : ∃ p, p = S2.heap.size := ⟨_, rfl⟩
 obtain ⟨S3, hS3⟩ : ∃ S, S = S2.alloc (.cells A4_ 50) := ⟨_, rfl⟩
 have k3 : PK w0 B b t ((p4, O4_) :: (L2_ p3 p1 b (O0_ v q) bx)) S3 := by rw [hS3, hp4]; exact k2.alloc _
 have hst := row_store (k3.box M0_) (cs := (A42_ v)) sizeEx_info rfl (by simp [Value.oneCell', A42_])
 have k4 : PK w0 B b t ((p4, (O41_ v)) :: (L2_ p3 p1 b (O0_ v q) bx)) (S3.setRow p4 (A42_ v)) := k3.row (A42_ v)
 obtain ⟨S4, hS4⟩ : ∃ S, S = S3.setRow p4 (A42_ v) := ⟨_, rfl⟩
 rw [← hS4] at k4 hst
 obtain ⟨x0, x1, -⟩ := c10_ (k2.box M0_)
 have hW3 : Hid (S3 = _) := hS3
 replace hp4 := hi_ hp4
 replace hst := hi_ hst
 replace k2 := hi_ k2
 replace k3 := hi_ k3
 clear hS3 hS4
 have cR := hi_ (round_P w0 B b 60 #[.pointer (some ⟨p1, 0, none⟩), .pointer (some ⟨p3, 0, none⟩)] t (PS.form v (pExs v.args) (pExs v.vals) (pExs v.key) (pAcs v.acts) (pPairs v.vals v.names)) ((p4, (O41_ v)) :: (L2_ p3 p1 b (O0_ v q) bx)) S4 (enters_of Tryz.func60 (by kernel_rfl) rfl) (form_lo hv _)
  (fun W hW => expr1c_P w0 B b v q _ p1 p3 ((p4, (O41_ v)) :: (L2_ p3 p1 b (O0_ v q) bx)) W hv hA hV hK hC hP M2_ M1_ hW (Nat.le_trans (Nat.le_succ _) hF.round)) k4 hF)
 obtain ⟨e0, e1, e2, e3, e4⟩ := he
 have y0 : (v.kind == 0) = false := by simp [e0]
 clear e0
 have y1 : (v.kind == 1) = false := by simp [e1]
 clear e1
 have y2 : (v.kind == 2) = false := by simp [e2]
 clear e2
 have y3 : (v.kind == 3) = false := by simp [e3]
 clear e3
 have y4 : (v.kind == 4) = false := by simp [e4]
 clear e4
 clear hF hv
 go_enter Tryz.func32, Tryz.ntmps32
 go_upto_region 2 with (first | (rw [← hW1.out]) | (rw [← hW2.out]) | (rw [← hp1.out]) | (rw [← hp3.out]) | (rw [← hW3.out]) | (rw [← hp4.out]) | (refine st_arm hst.out rfl _ _ rfl rfl rfl ?_))
 clear x0 x1
 obtain ⟨x0, -⟩ := c10_ (k4.box M1_)
 have x11 := c1_ (k4.box M2_)
 replace k4 := hi_ k4
 go_wp2_with (go_at_call 25; refine cR.out.mono ?_)
 first | rintro e w1 rfl h1 | rintro e w1 ⟨rfl, h1⟩
 replace h1 := hi_ h1.drop.drop.drop
 clear x0 x11 y0 y1 y2 y3 y4
 go_wp2_with fail
 exact bodyPost_ret (v := .tuple #[]) (results_none (by kernel_rfl) _ _ _) rfl ⟨rfl, h1.out⟩
theorem expr_P (w0 : World) (B b : Nat) (v : Ex) (q : QEx) (t : PS) (hv : ExAt w0 B v q) (hA : ExsP w0 B b v.args) (hV : ExsP w0 B b v.vals) (hK : ExsP w0 B b v.key) (hC : AcsP w0 B b v.acts) (hP : PairsP w0 B b v) : DoesP w0 B b 32 #[.pointer (some ⟨b, 0, none⟩), .agg (A0_ v q)] t (PS.expr v (pExs v.args) (pExs v.vals) (pExs v.key) (pAcs v.acts) (pPairs v.vals v.names) t) := by
 unfold A0_
 by_cases h0 : v.kind = 0
 ·exact exprp0_P w0 B b v q t h0 hv
 by_cases h1 : v.kind = 1
 ·exact exprp1_P w0 B b v q t h1 hv
 by_cases h2 : v.kind = 2
 ·by_cases hn : v.n = 1
  ·exact exprp2a_P w0 B b v q t h2 hn hv
  ·exact exprp2b_P w0 B b v q t h2 hn hv
 by_cases h3 : v.kind = 3
 ·exact exprp3_P w0 B b v q t h3 hv
 by_cases h4 : v.kind = 4
 ·exact exprp4_P w0 B b v q t h4 hv
 exact exprpf_P w0 B b v q t ⟨h0, h1, h2, h3, h4⟩ hv hA hV hK hC hP
end Go.Proofs.YtlppklbmdedipaaGreatDoor
