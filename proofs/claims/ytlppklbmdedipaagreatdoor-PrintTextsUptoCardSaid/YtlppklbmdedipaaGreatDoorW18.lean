/- PrintTexts, part 18. -/
import Derived.Test.YtlppklbmdedipaaGreatDoorW02
import Derived.Test.YtlppklbmdedipaaGreatDoorW17
import Derived.WalkMore
import Derived.Test.YtlppklbmdedipaaGreatDoorW13
namespace Go.Proofs.YtlppklbmdedipaaGreatDoor
open Go Go.RowKit
set_option maxHeartbeats 8000000
set_option maxRecDepth 100000
theorem rest_is (v : Ex) (q : QEx) (h : ExLens v q) (s args pairs deed : Bool) :
  (isB 0 v.n (if s = true then ⟨#[]⟩ else v.s) (if args = true then 0 else q.argsn) (if pairs = true then 0 else q.namesn) (if pairs = true then 0 else q.valsn) v.elem q.keyn (if deed = true then 0 else q.actsn) (if deed = true then ⟨#[]⟩ else v.site) 0 0 ⟨#[]⟩) = bareB v false s args pairs deed := by
 have he : ∀ s : ByteArray, (s = ⟨#[]⟩) = (s.size = 0) := fun s => by
  rw [← str_eq, show (⟨#[]⟩ : ByteArray).toList = [] from by rw [ByteArray.toList_eq], size_nil]
 unfold isB bareB
 rw [h.args, h.names, h.vals, h.key, h.acts, Bool.eq_iff_iff]
 have hem : (⟨#[]⟩ : ByteArray).size = 0 := rfl
 cases s <;> cases args <;> cases pairs <;> cases deed <;> simp only [Bool.false_eq_true, if_false, if_true, Bool.and_eq_true, Bool.or_eq_true, decide_eq_true_eq, true_or, false_or, true_and, and_true, he, hem] <;> constructor <;> (intro h; simp_all only [and_self])
theorem formp10_P (w0 : World) (B b : Nat) (v : Ex) (q : QEx) (t : PS) (he : v.kind = 10)  (hv : ExAt w0 B v q) (_hA : ExsP w0 B b v.args) (_hV : ExsP w0 B b v.vals) (_hK : ExsP w0 B b v.key) (_hC : AcsP w0 B b v.acts) (hP : PairsP w0 B b v) : DoesP w0 B b 61 #[.pointer (some ⟨b, 0, none⟩), .agg (A0_ v q)] t (PS.form v (pExs v.args) (pExs v.vals) (pExs v.key) (pAcs v.acts) (pPairs v.vals v.names) t) := by
 unfold A0_
 intro bx w h hF
 have hL := hi_ hv.lens
 have hs := hv.s
 have hEq : PS.form v (pExs v.args) (pExs v.vals) (pExs v.key) (pAcs v.acts) (pPairs v.vals v.names) t = ((PS.pairsF v (pPairs v.vals v.names) (t.put w13_)).must (bareB v false false false true false)) := by
  unfold PS.form
  rw [if_neg (by omega), if_neg (by omega), if_pos (by omega)]

 rw [hEq] at hF ⊢
 clear hEq
 have f2 : FitP (PS.pairsF v (pPairs v.vals v.names) (t.put w13_)) := hF
 have f1 : FitP (t.put w13_) := f2.of (pairsF_le hv _)
 obtain ⟨p3, hp3⟩ : ∃ p, p = w.heap.size := ⟨_, rfl⟩
 obtain ⟨S2, hS2⟩ : ∃ S, S = w.alloc ((O0_ v q)) := ⟨_, rfl⟩
 have k2 : PK w0 B b t ((p3, (O0_ v q)) :: bx) S2 := by rw [hS2, hp3]; exact h.alloc _
 have hW2 : Hid (S2 = _) := hS2
 replace hp3 := hi_ hp3
 replace h := hi_ h
 clear hS2
 obtain ⟨p4, hp4⟩ : ∃ p, p = S2.heap.size := ⟨_, rfl⟩
 obtain ⟨S3, hS3⟩ : ∃ S, S = S2.alloc (.cells A4_ 50) := ⟨_, rfl⟩
 have k3 : PK w0 B b t ((p4, O4_) :: ((p3, (O0_ v q)) :: bx)) S3 := by rw [hS3, hp4]; exact k2.alloc _
 have hst := row_store (k3.box M0_) (cs := q.arr v) sizeEx_info rfl (q.one v)
 have k4 : PK w0 B b t ((p4, (O0_ v q)) :: ((p3, (O0_ v q)) :: bx)) (S3.setRow p4 (q.arr v)) := k3.row (q.arr v)
 obtain ⟨S4, hS4⟩ : ∃ S, S = S3.setRow p4 (q.arr v) := ⟨_, rfl⟩
 rw [← hS4] at k4 hst
 have hl2 := hi_ (row_load (k2.box M0_) Tryz.underlying50 rfl sizeEx_info)
 obtain ⟨g0, -⟩ := c10_ (k4.box M0_)
 have g1 : S4.frozen? ⟨p4, 0, none⟩ = false := fz_ (k4.box M0_)
 obtain ⟨S5, hS5⟩ : ∃ S, S = S4.setCell ⟨p4, 0, none⟩ (.int .u8 0) := ⟨_, rfl⟩
 have k5 : PK w0 B b t ((p4, (O32_ v q)) :: ((p3, (O0_ v q)) :: bx)) S5 := by rw [hS5]; exact k4.set 0 _
 have hW3 : Hid (S3 = _) := hS3
 have hW5 : Hid (S5 = _) := hS5
 replace hp4 := hi_ hp4
 replace hst := hi_ hst
 replace k2 := hi_ k2
 replace k3 := hi_ k3
 replace k4 := hi_ k4
 clear hS3 hS4 hS5
 have c1 := hi_ (put_P w0 B b t w13_ _ _ k5 f1)
 have c2 := hi_ (fun W hW => hP q (t.put w13_) hv ((p4, (O32_ v q)) :: ((p3, (O0_ v q)) :: bx)) W hW f2)
 have cM := hi_ (fun W ok (hW : PK w0 B b (PS.pairsF v (pPairs v.vals v.names) (t.put w13_)) ((p4, (O33_ v q)) :: ((p3, (O0_ v q)) :: bx)) W) (e : ok = (bareB v false false false true false)) => must_asP w0 B b (PS.pairsF v (pPairs v.vals v.names) (t.put w13_)) (bareB v false false false true false) _ ok W hW e f2)
 clear f1 f2
 have hv' := hi_ hv
 replace he := hi_ he
 replace hs := hi_ hs
 clear hF hv
 go_enter Tryz.func61, Tryz.ntmps61
 go_wp2_with (first | (rw [← hW2.out]) | (rw [← hp3.out]) | (rw [← hW3.out]) | (rw [← hW5.out]) | (rw [← hp4.out]) | (refine ld_arm hl2.out rfl _ rfl rfl ?_) | (refine st_arm hst.out rfl _ _ rfl rfl rfl ?_))
 go_step3
 go_wp2_with (first | (rw [← hW2.out]) | (rw [← hp3.out]) | (rw [← hW3.out]) | (rw [← hW5.out]) | (rw [← hp4.out]) | (refine ld_arm hl2.out rfl _ rfl rfl ?_) | (refine st_arm hst.out rfl _ _ rfl rfl rfl ?_))
 go_step3
 obtain ⟨x0, -⟩ := c10_ (k5.box M1_)
 rw [he.out] at x0
 replace k5 := hi_ k5
 go_wp2_with (go_at_call 27; refine c1.out.mono ?_)
 first | rintro e w1 rfl h1 | rintro e w1 ⟨rfl, h1⟩
 clear x0 g0 g1
 have c2a := hi_ (c2.out w1 h1)
 have hl1 := hi_ (row_load (h1.box M1_) Tryz.underlying50 rfl sizeEx_info)
 replace h1 := hi_ h1
 go_wp2_with (first | (refine ld_arm hl1.out rfl _ rfl rfl ?_) | (go_at_call 93; refine c2a.out.mono ?_))
 first | rintro e w2 rfl h2 | rintro e w2 ⟨rfl, h2⟩
 obtain ⟨-, -, -, -, ga0, -⟩ := c10_ (h2.box M0_)
 have gb0 : w2.frozen? ⟨p4, 4, none⟩ = false := fz_ (h2.box M0_)
 obtain ⟨R0, hR0⟩ : ∃ S, S = w2.setCell ⟨p4, 4, none⟩ (.slice none 0 0) := ⟨_, rfl⟩
 have hr0 : PK w0 B b (PS.pairsF v (pPairs v.vals v.names) (t.put w13_)) ((p4, (O34_ v q)) :: ((p3, (O0_ v q)) :: bx)) R0 := by rw [hR0]; exact h2.set 4 _
 have hQ0 : Hid (R0 = _) := hR0
 replace h2 := hi_ h2
 clear hR0
 obtain ⟨-, -, -, -, -, ga1, -⟩ := c10_ (hr0.box M0_)
 have gb1 : R0.frozen? ⟨p4, 5, none⟩ = false := fz_ (hr0.box M0_)
 obtain ⟨R1, hR1⟩ : ∃ S, S = R0.setCell ⟨p4, 5, none⟩ (.slice none 0 0) := ⟨_, rfl⟩
 have hr1 : PK w0 B b (PS.pairsF v (pPairs v.vals v.names) (t.put w13_)) ((p4, (O33_ v q)) :: ((p3, (O0_ v q)) :: bx)) R1 := by rw [hR1]; exact hr0.set 5 _
 have hQ1 : Hid (R1 = _) := hR1
 replace hr0 := hi_ hr0
 clear hR1
 have hI := rest_is v q hL.out false false true false
 simp only [Bool.false_eq_true, if_true, if_false] at hI
 have cI := is_any 0 v.n v.s q.argsa none none q.keya q.actsa q.argsn q.argsc 0 0 0 0 v.elem q.keyn q.keyc q.actsn q.actsc v.site 0 0 ⟨#[]⟩ R1
 rw [hI] at cI
 replace cI := hi_ cI
 clear hI
 have hlr := hi_ (row_load (hr1.box M0_) Tryz.underlying50 rfl sizeEx_info)
 replace hr1 := hi_ hr1
 go_wp2_with (first | (rw [← hQ0.out]) | (rw [← hQ1.out]) | (refine ld_arm hlr.out rfl _ rfl rfl ?_) | (go_at_call 57; refine cI.out.mono ?_))
 first | rintro e wi rfl hbi | rintro e wi ⟨rfl, hbi⟩
 have hi := hi_ (hr1.out.below hbi)
 replace hbi := hi_ hbi
 clear ga0 gb0 ga1 gb1
 go_wp2_with (go_at_call 51; refine (cM.out _ _ hi.out rfl).mono ?_)
 first | rintro e wz rfl hz | rintro e wz ⟨rfl, hz⟩
 replace hz := hi_ hz.drop.drop
 go_wp2_with fail
 (try go_big_unhide)
 (try simp only [Exit.noGoto_normal])
 exact bodyPost_end (v := .tuple #[]) (results_none (by kernel_rfl) _ _ _) rfl ⟨rfl, hz.out⟩
theorem formp11_P (w0 : World) (B b : Nat) (v : Ex) (q : QEx) (t : PS) (he : v.kind = 11)  (hv : ExAt w0 B v q) (hA : ExsP w0 B b v.args) (hV : ExsP w0 B b v.vals) (hK : ExsP w0 B b v.key) (_hC : AcsP w0 B b v.acts) (hP : PairsP w0 B b v) : DoesP w0 B b 61 #[.pointer (some ⟨b, 0, none⟩), .agg (A0_ v q)] t (PS.form v (pExs v.args) (pExs v.vals) (pExs v.key) (pAcs v.acts) (pPairs v.vals v.names) t) := by
 unfold A0_
 intro bx w h hF
 have hL := hi_ hv.lens
 have hs := hv.s
 have hEq : PS.form v (pExs v.args) (pExs v.vals) (pExs v.key) (pAcs v.acts) (pPairs v.vals v.names) t = PS.elem v (pExs v.args) (pExs v.vals) (pExs v.key) (pPairs v.vals v.names) t := by
  unfold PS.form
  rw [if_pos (by omega)]

 rw [hEq] at hF ⊢
 clear hEq

 obtain ⟨p3, hp3⟩ : ∃ p, p = w.heap.size := ⟨_, rfl⟩
 obtain ⟨S2, hS2⟩ : ∃ S, S = w.alloc ((O0_ v q)) := ⟨_, rfl⟩
 have k2 : PK w0 B b t ((p3, (O0_ v q)) :: bx) S2 := by rw [hS2, hp3]; exact h.alloc _
 have hW2 : Hid (S2 = _) := hS2
 replace hp3 := hi_ hp3
 replace h := hi_ h
 clear hS2
 obtain ⟨p4, hp4⟩ : ∃ p, p = S2.heap.size := ⟨_, rfl⟩
 obtain ⟨S3, hS3⟩ : ∃ S, S = S2.alloc (.cells A4_ 50) := ⟨_, rfl⟩
 have k3 : PK w0 B b t ((p4, O4_) :: ((p3, (O0_ v q)) :: bx)) S3 := by rw [hS3, hp4]; exact k2.alloc _
 have hst := row_store (k3.box M0_) (cs := q.arr v) sizeEx_info rfl (q.one v)
 have k4 : PK w0 B b t ((p4, (O0_ v q)) :: ((p3, (O0_ v q)) :: bx)) (S3.setRow p4 (q.arr v)) := k3.row (q.arr v)
 obtain ⟨S4, hS4⟩ : ∃ S, S = S3.setRow p4 (q.arr v) := ⟨_, rfl⟩
 rw [← hS4] at k4 hst
 have hl2 := hi_ (row_load (k2.box M0_) Tryz.underlying50 rfl sizeEx_info)
 obtain ⟨g0, -⟩ := c10_ (k4.box M0_)
 have g1 : S4.frozen? ⟨p4, 0, none⟩ = false := fz_ (k4.box M0_)
 obtain ⟨S5, hS5⟩ : ∃ S, S = S4.setCell ⟨p4, 0, none⟩ (.int .u8 0) := ⟨_, rfl⟩
 have k5 : PK w0 B b t ((p4, (O32_ v q)) :: ((p3, (O0_ v q)) :: bx)) S5 := by rw [hS5]; exact k4.set 0 _
 have hW3 : Hid (S3 = _) := hS3
 have hW5 : Hid (S5 = _) := hS5
 replace hp4 := hi_ hp4
 replace hst := hi_ hst
 replace k2 := hi_ k2
 replace k3 := hi_ k3
 replace k4 := hi_ k4
 clear hS3 hS4 hS5
 have c1 := hi_ (elem_P w0 B b v q t hv hA hV hK hP _ _ k5 hF)
 have hl5 := hi_ (row_load (k5.box M1_) Tryz.underlying50 rfl sizeEx_info)
 have hv' := hi_ hv
 replace he := hi_ he
 replace hs := hi_ hs
 clear hF hv
 go_enter Tryz.func61, Tryz.ntmps61
 go_wp2_with (first | (rw [← hW2.out]) | (rw [← hp3.out]) | (rw [← hW3.out]) | (rw [← hW5.out]) | (rw [← hp4.out]) | (refine ld_arm hl2.out rfl _ rfl rfl ?_) | (refine st_arm hst.out rfl _ _ rfl rfl rfl ?_))
 go_step3
 go_wp2_with (first | (rw [← hW2.out]) | (rw [← hp3.out]) | (rw [← hW3.out]) | (rw [← hW5.out]) | (rw [← hp4.out]) | (refine ld_arm hl2.out rfl _ rfl rfl ?_) | (refine st_arm hst.out rfl _ _ rfl rfl rfl ?_))
 go_step3
 obtain ⟨x0, -⟩ := c10_ (k5.box M1_)
 rw [he.out] at x0
 replace k5 := hi_ k5
 go_wp2_with (first | (refine ld_arm hl5.out rfl _ rfl rfl ?_) | (go_at_call 91; refine c1.out.mono ?_))
 first | rintro e w1 rfl h1 | rintro e w1 ⟨rfl, h1⟩
 clear x0 g0 g1
 replace h1 := hi_ h1.drop.drop
 go_wp2_with fail
 (try go_big_unhide)
 (try simp only [Exit.noGoto_ret])
 exact bodyPost_ret (v := .tuple #[]) (results_none (by kernel_rfl) _ _ _) rfl ⟨rfl, h1.out⟩
theorem formp7_P (w0 : World) (B b : Nat) (v : Ex) (q : QEx) (t : PS) (he : v.kind = 7)  (hv : ExAt w0 B v q) (hA : ExsP w0 B b v.args) (_hV : ExsP w0 B b v.vals) (_hK : ExsP w0 B b v.key) (_hC : AcsP w0 B b v.acts) (_hP : PairsP w0 B b v) : DoesP w0 B b 61 #[.pointer (some ⟨b, 0, none⟩), .agg (A0_ v q)] t (PS.form v (pExs v.args) (pExs v.vals) (pExs v.key) (pAcs v.acts) (pPairs v.vals v.names) t) := by
 unfold A0_
 intro bx w h hF
 have hL := hi_ hv.lens
 have hs := hv.s
 have hEq : PS.form v (pExs v.args) (pExs v.vals) (pExs v.key) (pAcs v.acts) (pPairs v.vals v.names) t = ((pExs v.args (((t.put w14_).plain v.s).must (decide (v.args.length = 2)))).must (bareB v false true true false false)) := by
  unfold PS.form
  rw [if_neg (by omega), if_neg (by omega), if_neg (by omega), if_pos (by omega)]

 rw [hEq] at hF ⊢
 clear hEq
 have f4 : FitP (pExs v.args (((t.put w14_).plain v.s).must (decide (v.args.length = 2)))) := hF
 have f3 : FitP (((t.put w14_).plain v.s).must (decide (v.args.length = 2))) := FitP.exs hv.args f4
 have f2 : FitP ((t.put w14_).plain v.s) := f3
 have f1 : FitP (t.put w14_) := f2.plain
 obtain ⟨p3, hp3⟩ : ∃ p, p = w.heap.size := ⟨_, rfl⟩
 obtain ⟨S2, hS2⟩ : ∃ S, S = w.alloc ((O0_ v q)) := ⟨_, rfl⟩
 have k2 : PK w0 B b t ((p3, (O0_ v q)) :: bx) S2 := by rw [hS2, hp3]; exact h.alloc _
 have hW2 : Hid (S2 = _) := hS2
 replace hp3 := hi_ hp3
 replace h := hi_ h
 clear hS2
 obtain ⟨p4, hp4⟩ : ∃ p, p = S2.heap.size := ⟨_, rfl⟩
 obtain ⟨S3, hS3⟩ : ∃ S, S = S2.alloc (.cells A4_ 50) := ⟨_, rfl⟩
 have k3 : PK w0 B b t ((p4, O4_) :: ((p3, (O0_ v q)) :: bx)) S3 := by rw [hS3, hp4]; exact k2.alloc _
 have hst := row_store (k3.box M0_) (cs := q.arr v) sizeEx_info rfl (q.one v)
 have k4 : PK w0 B b t ((p4, (O0_ v q)) :: ((p3, (O0_ v q)) :: bx)) (S3.setRow p4 (q.arr v)) := k3.row (q.arr v)
 obtain ⟨S4, hS4⟩ : ∃ S, S = S3.setRow p4 (q.arr v) := ⟨_, rfl⟩
 rw [← hS4] at k4 hst
 have hl2 := hi_ (row_load (k2.box M0_) Tryz.underlying50 rfl sizeEx_info)
 obtain ⟨g0, -⟩ := c10_ (k4.box M0_)
 have g1 : S4.frozen? ⟨p4, 0, none⟩ = false := fz_ (k4.box M0_)
 obtain ⟨S5, hS5⟩ : ∃ S, S = S4.setCell ⟨p4, 0, none⟩ (.int .u8 0) := ⟨_, rfl⟩
 have k5 : PK w0 B b t ((p4, (O32_ v q)) :: ((p3, (O0_ v q)) :: bx)) S5 := by rw [hS5]; exact k4.set 0 _
 have hW3 : Hid (S3 = _) := hS3
 have hW5 : Hid (S5 = _) := hS5
 replace hp4 := hi_ hp4
 replace hst := hi_ hst
 replace k2 := hi_ k2
 replace k3 := hi_ k3
 replace k4 := hi_ k4
 clear hS3 hS4 hS5
 have c1 := hi_ (put_P w0 B b t w14_ _ _ k5 f1)
 have c2 := hi_ (fun W hW => plain_P w0 B b (t.put w14_) v.s hs ((p4, (O32_ v q)) :: ((p3, (O0_ v q)) :: bx)) W hW f2)
 have cL := hi_ (fun W ok (hW : PK w0 B b ((t.put w14_).plain v.s) ((p4, (O32_ v q)) :: ((p3, (O0_ v q)) :: bx)) W) (e : ok = (decide (v.args.length = 2))) => must_asP w0 B b ((t.put w14_).plain v.s) (decide (v.args.length = 2)) _ ok W hW e f3)
 have hla := hi_ hL.out.args
 have c4 := hi_ (fun W hW => hA _ _ q.argsc (((t.put w14_).plain v.s).must (decide (v.args.length = 2))) hv.args ((p4, (O32_ v q)) :: ((p3, (O0_ v q)) :: bx)) W hW f4)
 have cM := hi_ (fun W ok (hW : PK w0 B b (pExs v.args (((t.put w14_).plain v.s).must (decide (v.args.length = 2)))) ((p4, (O35_ v q)) :: ((p3, (O0_ v q)) :: bx)) W) (e : ok = (bareB v false true true false false)) => must_asP w0 B b (pExs v.args (((t.put w14_).plain v.s).must (decide (v.args.length = 2)))) (bareB v false true true false false) _ ok W hW e f4)
 clear f1 f2 f3 f4
 have hv' := hi_ hv
 replace he := hi_ he
 replace hs := hi_ hs
 clear hF hv
 go_enter Tryz.func61, Tryz.ntmps61
 go_wp2_with (first | (rw [← hW2.out]) | (rw [← hp3.out]) | (rw [← hW3.out]) | (rw [← hW5.out]) | (rw [← hp4.out]) | (refine ld_arm hl2.out rfl _ rfl rfl ?_) | (refine st_arm hst.out rfl _ _ rfl rfl rfl ?_))
 go_step3
 go_wp2_with (first | (rw [← hW2.out]) | (rw [← hp3.out]) | (rw [← hW3.out]) | (rw [← hW5.out]) | (rw [← hp4.out]) | (refine ld_arm hl2.out rfl _ rfl rfl ?_) | (refine st_arm hst.out rfl _ _ rfl rfl rfl ?_))
 go_step3
 obtain ⟨x0, -⟩ := c10_ (k5.box M1_)
 rw [he.out] at x0
 replace k5 := hi_ k5
 go_wp2_with (go_at_call 27; refine c1.out.mono ?_)
 first | rintro e w1 rfl h1 | rintro e w1 ⟨rfl, h1⟩
 clear x0 g0 g1
 obtain ⟨-, -, x2, -⟩ := c10_ (h1.box M1_)
 replace h1 := hi_ h1
 go_wp2_with (go_at_call 28; refine (c2.out w1 h1.out).mono ?_)
 first | rintro e w2 rfl h2 | rintro e w2 ⟨rfl, h2⟩
 clear x2
 obtain ⟨-, -, -, x3, -⟩ := c10_ (h2.box M1_)
 replace h2 := hi_ h2
 go_wp2_with (go_at_call 51; refine (cL.out _ _ h2.out (by rw [← hla.out]; first | (rw [int_beq]; simp; done) | (rw [Bool.eq_iff_iff]; simp; done) | (rw [Bool.eq_iff_iff]; simp; omega))).mono ?_)
 first | rintro e w3 rfl h3 | rintro e w3 ⟨rfl, h3⟩
 clear x3
 obtain ⟨-, -, -, x3, -⟩ := c10_ (h3.box M1_)
 replace h3 := hi_ h3
 go_wp2_with (go_at_call 84; refine (c4.out w3 h3.out).mono ?_)
 first | rintro e w4 rfl h4 | rintro e w4 ⟨rfl, h4⟩
 clear x3
 obtain ⟨-, -, ga0, -⟩ := c10_ (h4.box M0_)
 have gb0 : w4.frozen? ⟨p4, 2, none⟩ = false := fz_ (h4.box M0_)
 obtain ⟨R0, hR0⟩ : ∃ S, S = w4.setCell ⟨p4, 2, none⟩ (.string ⟨#[]⟩) := ⟨_, rfl⟩
 have hr0 : PK w0 B b (pExs v.args (((t.put w14_).plain v.s).must (decide (v.args.length = 2)))) ((p4, (O36_ v q)) :: ((p3, (O0_ v q)) :: bx)) R0 := by rw [hR0]; exact h4.set 2 _
 have hQ0 : Hid (R0 = _) := hR0
 replace h4 := hi_ h4
 clear hR0
 obtain ⟨-, -, -, ga1, -⟩ := c10_ (hr0.box M0_)
 have gb1 : R0.frozen? ⟨p4, 3, none⟩ = false := fz_ (hr0.box M0_)
 obtain ⟨R1, hR1⟩ : ∃ S, S = R0.setCell ⟨p4, 3, none⟩ (.slice none 0 0) := ⟨_, rfl⟩
 have hr1 : PK w0 B b (pExs v.args (((t.put w14_).plain v.s).must (decide (v.args.length = 2)))) ((p4, (O35_ v q)) :: ((p3, (O0_ v q)) :: bx)) R1 := by rw [hR1]; exact hr0.set 3 _
 have hQ1 : Hid (R1 = _) := hR1
 replace hr0 := hi_ hr0
 clear hR1
 have hI := rest_is v q hL.out true true false false
 simp only [Bool.false_eq_true, if_true, if_false] at hI
 have cI := is_any 0 v.n ⟨#[]⟩ none q.namesa q.valsa q.keya q.actsa 0 0 q.namesn q.namesc q.valsn q.valsc v.elem q.keyn q.keyc q.actsn q.actsc v.site 0 0 ⟨#[]⟩ R1
 rw [hI] at cI
 replace cI := hi_ cI
 clear hI
 have hlr := hi_ (row_load (hr1.box M0_) Tryz.underlying50 rfl sizeEx_info)
 replace hr1 := hi_ hr1
 go_wp2_with (first | (rw [← hQ0.out]) | (rw [← hQ1.out]) | (refine ld_arm hlr.out rfl _ rfl rfl ?_) | (go_at_call 57; refine cI.out.mono ?_))
 first | rintro e wi rfl hbi | rintro e wi ⟨rfl, hbi⟩
 have hi := hi_ (hr1.out.below hbi)
 replace hbi := hi_ hbi
 clear ga0 gb0 ga1 gb1
 go_wp2_with (go_at_call 51; refine (cM.out _ _ hi.out rfl).mono ?_)
 first | rintro e wz rfl hz | rintro e wz ⟨rfl, hz⟩
 replace hz := hi_ hz.drop.drop
 go_wp2_with fail
 (try go_big_unhide)
 (try simp only [Exit.noGoto_normal])
 exact bodyPost_end (v := .tuple #[]) (results_none (by kernel_rfl) _ _ _) rfl ⟨rfl, hz.out⟩
theorem formp6_P (w0 : World) (B b : Nat) (v : Ex) (q : QEx) (t : PS) (he : v.kind = 6)  (hv : ExAt w0 B v q) (hA : ExsP w0 B b v.args) (_hV : ExsP w0 B b v.vals) (_hK : ExsP w0 B b v.key) (_hC : AcsP w0 B b v.acts) (_hP : PairsP w0 B b v) : DoesP w0 B b 61 #[.pointer (some ⟨b, 0, none⟩), .agg (A0_ v q)] t (PS.form v (pExs v.args) (pExs v.vals) (pExs v.key) (pAcs v.acts) (pPairs v.vals v.names) t) := by
 unfold A0_
 intro bx w h hF
 have hL := hi_ hv.lens
 have hs := hv.s
 have hEq : PS.form v (pExs v.args) (pExs v.vals) (pExs v.key) (pAcs v.acts) (pPairs v.vals v.names) t = ((pExs v.args ((t.put [105, 102]).must (decide (v.args.length = 3)))).must (bareB v false false true false false)) := by
  unfold PS.form
  rw [if_neg (by omega), if_neg (by omega), if_neg (by omega), if_neg (by omega), if_neg (by omega), if_pos (by omega)]
  rw [he]; rfl
 rw [hEq] at hF ⊢
 clear hEq
 have f4 : FitP (pExs v.args ((t.put [105, 102]).must (decide (v.args.length = 3)))) := hF
 have f3 : FitP ((t.put [105, 102]).must (decide (v.args.length = 3))) := FitP.exs hv.args f4
 have f1 : FitP (t.put [105, 102]) := f3
 obtain ⟨p3, hp3⟩ : ∃ p, p = w.heap.size := ⟨_, rfl⟩
 obtain ⟨S2, hS2⟩ : ∃ S, S = w.alloc ((O0_ v q)) := ⟨_, rfl⟩
 have k2 : PK w0 B b t ((p3, (O0_ v q)) :: bx) S2 := by rw [hS2, hp3]; exact h.alloc _
 have hW2 : Hid (S2 = _) := hS2
 replace hp3 := hi_ hp3
 replace h := hi_ h
 clear hS2
 obtain ⟨p4, hp4⟩ : ∃ p, p = S2.heap.size := ⟨_, rfl⟩
 obtain ⟨S3, hS3⟩ : ∃ S, S = S2.alloc (.cells A4_ 50) := ⟨_, rfl⟩
 have k3 : PK w0 B b t ((p4, O4_) :: ((p3, (O0_ v q)) :: bx)) S3 := by rw [hS3, hp4]; exact k2.alloc _
 have hst := row_store (k3.box M0_) (cs := q.arr v) sizeEx_info rfl (q.one v)
 have k4 : PK w0 B b t ((p4, (O0_ v q)) :: ((p3, (O0_ v q)) :: bx)) (S3.setRow p4 (q.arr v)) := k3.row (q.arr v)
 obtain ⟨S4, hS4⟩ : ∃ S, S = S3.setRow p4 (q.arr v) := ⟨_, rfl⟩
 rw [← hS4] at k4 hst
 have hl2 := hi_ (row_load (k2.box M0_) Tryz.underlying50 rfl sizeEx_info)
 obtain ⟨g0, -⟩ := c10_ (k4.box M0_)
 have g1 : S4.frozen? ⟨p4, 0, none⟩ = false := fz_ (k4.box M0_)
 obtain ⟨S5, hS5⟩ : ∃ S, S = S4.setCell ⟨p4, 0, none⟩ (.int .u8 0) := ⟨_, rfl⟩
 have k5 : PK w0 B b t ((p4, (O32_ v q)) :: ((p3, (O0_ v q)) :: bx)) S5 := by rw [hS5]; exact k4.set 0 _
 have hW3 : Hid (S3 = _) := hS3
 have hW5 : Hid (S5 = _) := hS5
 replace hp4 := hi_ hp4
 replace hst := hi_ hst
 replace k2 := hi_ k2
 replace k3 := hi_ k3
 replace k4 := hi_ k4
 clear hS3 hS4 hS5
 have c1 := hi_ (put_P w0 B b t [105, 102] _ _ k5 f1)
 have cL := hi_ (fun W ok (hW : PK w0 B b (t.put [105, 102]) ((p4, (O32_ v q)) :: ((p3, (O0_ v q)) :: bx)) W) (e : ok = (decide (v.args.length = 3))) => must_asP w0 B b (t.put [105, 102]) (decide (v.args.length = 3)) _ ok W hW e f3)
 have hla := hi_ hL.out.args
 have c4 := hi_ (fun W hW => hA _ _ q.argsc ((t.put [105, 102]).must (decide (v.args.length = 3))) hv.args ((p4, (O32_ v q)) :: ((p3, (O0_ v q)) :: bx)) W hW f4)
 have cM := hi_ (fun W ok (hW : PK w0 B b (pExs v.args ((t.put [105, 102]).must (decide (v.args.length = 3)))) ((p4, (O37_ v q)) :: ((p3, (O0_ v q)) :: bx)) W) (e : ok = (bareB v false false true false false)) => must_asP w0 B b (pExs v.args ((t.put [105, 102]).must (decide (v.args.length = 3)))) (bareB v false false true false false) _ ok W hW e f4)
 clear f1 f3 f4
 have hv' := hi_ hv
 replace he := hi_ he
 replace hs := hi_ hs
 clear hF hv
 go_enter Tryz.func61, Tryz.ntmps61
 go_wp2_with (first | (rw [← hW2.out]) | (rw [← hp3.out]) | (rw [← hW3.out]) | (rw [← hW5.out]) | (rw [← hp4.out]) | (refine ld_arm hl2.out rfl _ rfl rfl ?_) | (refine st_arm hst.out rfl _ _ rfl rfl rfl ?_))
 go_step3
 go_wp2_with (first | (rw [← hW2.out]) | (rw [← hp3.out]) | (rw [← hW3.out]) | (rw [← hW5.out]) | (rw [← hp4.out]) | (refine ld_arm hl2.out rfl _ rfl rfl ?_) | (refine st_arm hst.out rfl _ _ rfl rfl rfl ?_))
 go_step3
 obtain ⟨x0, -⟩ := c10_ (k5.box M1_)
 rw [he.out] at x0
 replace k5 := hi_ k5
 go_wp2_with (go_at_call 27; refine c1.out.mono ?_)
 first | rintro e w1 rfl h1 | rintro e w1 ⟨rfl, h1⟩
 clear x0 g0 g1
 obtain ⟨-, -, -, x3, -⟩ := c10_ (h1.box M1_)
 replace h1 := hi_ h1
 go_wp2_with (go_at_call 51; refine (cL.out _ _ h1.out (by rw [← hla.out]; first | (rw [int_beq]; simp; done) | (rw [Bool.eq_iff_iff]; simp; done) | (rw [Bool.eq_iff_iff]; simp; omega))).mono ?_)
 first | rintro e w3 rfl h3 | rintro e w3 ⟨rfl, h3⟩
 clear x3
 obtain ⟨-, -, -, x3, -⟩ := c10_ (h3.box M1_)
 replace h3 := hi_ h3
 go_wp2_with (go_at_call 84; refine (c4.out w3 h3.out).mono ?_)
 first | rintro e w4 rfl h4 | rintro e w4 ⟨rfl, h4⟩
 clear x3
 obtain ⟨-, -, -, ga0, -⟩ := c10_ (h4.box M0_)
 have gb0 : w4.frozen? ⟨p4, 3, none⟩ = false := fz_ (h4.box M0_)
 obtain ⟨R0, hR0⟩ : ∃ S, S = w4.setCell ⟨p4, 3, none⟩ (.slice none 0 0) := ⟨_, rfl⟩
 have hr0 : PK w0 B b (pExs v.args ((t.put [105, 102]).must (decide (v.args.length = 3)))) ((p4, (O37_ v q)) :: ((p3, (O0_ v q)) :: bx)) R0 := by rw [hR0]; exact h4.set 3 _
 have hQ0 : Hid (R0 = _) := hR0
 replace h4 := hi_ h4
 clear hR0
 have hI := rest_is v q hL.out false true false false
 simp only [Bool.false_eq_true, if_true, if_false] at hI
 have cI := is_any 0 v.n v.s none q.namesa q.valsa q.keya q.actsa 0 0 q.namesn q.namesc q.valsn q.valsc v.elem q.keyn q.keyc q.actsn q.actsc v.site 0 0 ⟨#[]⟩ R0
 rw [hI] at cI
 replace cI := hi_ cI
 clear hI
 have hlr := hi_ (row_load (hr0.box M0_) Tryz.underlying50 rfl sizeEx_info)
 replace hr0 := hi_ hr0
 go_wp2_with (first | (rw [← hQ0.out]) | (refine ld_arm hlr.out rfl _ rfl rfl ?_) | (go_at_call 57; refine cI.out.mono ?_))
 first | rintro e wi rfl hbi | rintro e wi ⟨rfl, hbi⟩
 have hi := hi_ (hr0.out.below hbi)
 replace hbi := hi_ hbi
 clear ga0 gb0
 go_wp2_with (go_at_call 51; refine (cM.out _ _ hi.out rfl).mono ?_)
 first | rintro e wz rfl hz | rintro e wz ⟨rfl, hz⟩
 replace hz := hi_ hz.drop.drop
 go_wp2_with fail
 (try go_big_unhide)
 (try simp only [Exit.noGoto_normal])
 exact bodyPost_end (v := .tuple #[]) (results_none (by kernel_rfl) _ _ _) rfl ⟨rfl, hz.out⟩
theorem formp8_P (w0 : World) (B b : Nat) (v : Ex) (q : QEx) (t : PS) (he : v.kind = 8)  (hv : ExAt w0 B v q) (hA : ExsP w0 B b v.args) (_hV : ExsP w0 B b v.vals) (_hK : ExsP w0 B b v.key) (_hC : AcsP w0 B b v.acts) (_hP : PairsP w0 B b v) : DoesP w0 B b 61 #[.pointer (some ⟨b, 0, none⟩), .agg (A0_ v q)] t (PS.form v (pExs v.args) (pExs v.vals) (pExs v.key) (pAcs v.acts) (pPairs v.vals v.names) t) := by
 unfold A0_
 intro bx w h hF
 have hL := hi_ hv.lens
 have hs := hv.s
 have hEq : PS.form v (pExs v.args) (pExs v.vals) (pExs v.key) (pAcs v.acts) (pPairs v.vals v.names) t = ((pExs v.args ((t.put w15_).must (decide (v.args.length = 1)))).must (bareB v false false true false false)) := by
  unfold PS.form
  rw [if_neg (by omega), if_neg (by omega), if_neg (by omega), if_neg (by omega), if_neg (by omega), if_pos (by omega)]
  rw [he]; rfl
 rw [hEq] at hF ⊢
 clear hEq
 have f4 : FitP (pExs v.args ((t.put w15_).must (decide (v.args.length = 1)))) := hF
 have f3 : FitP ((t.put w15_).must (decide (v.args.length = 1))) := FitP.exs hv.args f4
 have f1 : FitP (t.put w15_) := f3
 obtain ⟨p3, hp3⟩ : ∃ p, p = w.heap.size := ⟨_, rfl⟩
 obtain ⟨S2, hS2⟩ : ∃ S, S = w.alloc ((O0_ v q)) := ⟨_, rfl⟩
 have k2 : PK w0 B b t ((p3, (O0_ v q)) :: bx) S2 := by rw [hS2, hp3]; exact h.alloc _
 have hW2 : Hid (S2 = _) := hS2
 replace hp3 := hi_ hp3
 replace h := hi_ h
 clear hS2
 obtain ⟨p4, hp4⟩ : ∃ p, p = S2.heap.size := ⟨_, rfl⟩
 obtain ⟨S3, hS3⟩ : ∃ S, S = S2.alloc (.cells A4_ 50) := ⟨_, rfl⟩
 have k3 : PK w0 B b t ((p4, O4_) :: ((p3, (O0_ v q)) :: bx)) S3 := by rw [hS3, hp4]; exact k2.alloc _
 have hst := row_store (k3.box M0_) (cs := q.arr v) sizeEx_info rfl (q.one v)
 have k4 : PK w0 B b t ((p4, (O0_ v q)) :: ((p3, (O0_ v q)) :: bx)) (S3.setRow p4 (q.arr v)) := k3.row (q.arr v)
 obtain ⟨S4, hS4⟩ : ∃ S, S = S3.setRow p4 (q.arr v) := ⟨_, rfl⟩
 rw [← hS4] at k4 hst
 have hl2 := hi_ (row_load (k2.box M0_) Tryz.underlying50 rfl sizeEx_info)
 obtain ⟨g0, -⟩ := c10_ (k4.box M0_)
 have g1 : S4.frozen? ⟨p4, 0, none⟩ = false := fz_ (k4.box M0_)
 obtain ⟨S5, hS5⟩ : ∃ S, S = S4.setCell ⟨p4, 0, none⟩ (.int .u8 0) := ⟨_, rfl⟩
 have k5 : PK w0 B b t ((p4, (O32_ v q)) :: ((p3, (O0_ v q)) :: bx)) S5 := by rw [hS5]; exact k4.set 0 _
 have hW3 : Hid (S3 = _) := hS3
 have hW5 : Hid (S5 = _) := hS5
 replace hp4 := hi_ hp4
 replace hst := hi_ hst
 replace k2 := hi_ k2
 replace k3 := hi_ k3
 replace k4 := hi_ k4
 clear hS3 hS4 hS5
 have c1 := hi_ (put_P w0 B b t w15_ _ _ k5 f1)
 have cL := hi_ (fun W ok (hW : PK w0 B b (t.put w15_) ((p4, (O32_ v q)) :: ((p3, (O0_ v q)) :: bx)) W) (e : ok = (decide (v.args.length = 1))) => must_asP w0 B b (t.put w15_) (decide (v.args.length = 1)) _ ok W hW e f3)
 have hla := hi_ hL.out.args
 have c4 := hi_ (fun W hW => hA _ _ q.argsc ((t.put w15_).must (decide (v.args.length = 1))) hv.args ((p4, (O32_ v q)) :: ((p3, (O0_ v q)) :: bx)) W hW f4)
 have cM := hi_ (fun W ok (hW : PK w0 B b (pExs v.args ((t.put w15_).must (decide (v.args.length = 1)))) ((p4, (O37_ v q)) :: ((p3, (O0_ v q)) :: bx)) W) (e : ok = (bareB v false false true false false)) => must_asP w0 B b (pExs v.args ((t.put w15_).must (decide (v.args.length = 1)))) (bareB v false false true false false) _ ok W hW e f4)
 clear f1 f3 f4
 have hv' := hi_ hv
 replace he := hi_ he
 replace hs := hi_ hs
 clear hF hv
 go_enter Tryz.func61, Tryz.ntmps61
 go_wp2_with (first | (rw [← hW2.out]) | (rw [← hp3.out]) | (rw [← hW3.out]) | (rw [← hW5.out]) | (rw [← hp4.out]) | (refine ld_arm hl2.out rfl _ rfl rfl ?_) | (refine st_arm hst.out rfl _ _ rfl rfl rfl ?_))
 go_step3
 go_wp2_with (first | (rw [← hW2.out]) | (rw [← hp3.out]) | (rw [← hW3.out]) | (rw [← hW5.out]) | (rw [← hp4.out]) | (refine ld_arm hl2.out rfl _ rfl rfl ?_) | (refine st_arm hst.out rfl _ _ rfl rfl rfl ?_))
 go_step3
 obtain ⟨x0, -⟩ := c10_ (k5.box M1_)
 rw [he.out] at x0
 replace k5 := hi_ k5
 go_wp2_with (go_at_call 27; refine c1.out.mono ?_)
 first | rintro e w1 rfl h1 | rintro e w1 ⟨rfl, h1⟩
 clear x0 g0 g1
 obtain ⟨-, -, -, x3, -⟩ := c10_ (h1.box M1_)
 replace h1 := hi_ h1
 go_wp2_with (go_at_call 51; refine (cL.out _ _ h1.out (by rw [← hla.out]; first | (rw [int_beq]; simp; done) | (rw [Bool.eq_iff_iff]; simp; done) | (rw [Bool.eq_iff_iff]; simp; omega))).mono ?_)
 first | rintro e w3 rfl h3 | rintro e w3 ⟨rfl, h3⟩
 clear x3
 obtain ⟨-, -, -, x3, -⟩ := c10_ (h3.box M1_)
 replace h3 := hi_ h3
 go_wp2_with (go_at_call 84; refine (c4.out w3 h3.out).mono ?_)
 first | rintro e w4 rfl h4 | rintro e w4 ⟨rfl, h4⟩
 clear x3
 obtain ⟨-, -, -, ga0, -⟩ := c10_ (h4.box M0_)
 have gb0 : w4.frozen? ⟨p4, 3, none⟩ = false := fz_ (h4.box M0_)
 obtain ⟨R0, hR0⟩ : ∃ S, S = w4.setCell ⟨p4, 3, none⟩ (.slice none 0 0) := ⟨_, rfl⟩
 have hr0 : PK w0 B b (pExs v.args ((t.put w15_).must (decide (v.args.length = 1)))) ((p4, (O37_ v q)) :: ((p3, (O0_ v q)) :: bx)) R0 := by rw [hR0]; exact h4.set 3 _
 have hQ0 : Hid (R0 = _) := hR0
 replace h4 := hi_ h4
 clear hR0
 have hI := rest_is v q hL.out false true false false
 simp only [Bool.false_eq_true, if_true, if_false] at hI
 have cI := is_any 0 v.n v.s none q.namesa q.valsa q.keya q.actsa 0 0 q.namesn q.namesc q.valsn q.valsc v.elem q.keyn q.keyc q.actsn q.actsc v.site 0 0 ⟨#[]⟩ R0
 rw [hI] at cI
 replace cI := hi_ cI
 clear hI
 have hlr := hi_ (row_load (hr0.box M0_) Tryz.underlying50 rfl sizeEx_info)
 replace hr0 := hi_ hr0
 go_wp2_with (first | (rw [← hQ0.out]) | (refine ld_arm hlr.out rfl _ rfl rfl ?_) | (go_at_call 57; refine cI.out.mono ?_))
 first | rintro e wi rfl hbi | rintro e wi ⟨rfl, hbi⟩
 have hi := hi_ (hr0.out.below hbi)
 replace hbi := hi_ hbi
 clear ga0 gb0
 go_wp2_with (go_at_call 51; refine (cM.out _ _ hi.out rfl).mono ?_)
 first | rintro e wz rfl hz | rintro e wz ⟨rfl, hz⟩
 replace hz := hi_ hz.drop.drop
 go_wp2_with fail
 (try go_big_unhide)
 (try simp only [Exit.noGoto_normal])
 exact bodyPost_end (v := .tuple #[]) (results_none (by kernel_rfl) _ _ _) rfl ⟨rfl, hz.out⟩
theorem formp9_P (w0 : World) (B b : Nat) (v : Ex) (q : QEx) (t : PS) (he : v.kind = 9)  (hv : ExAt w0 B v q) (hA : ExsP w0 B b v.args) (_hV : ExsP w0 B b v.vals) (_hK : ExsP w0 B b v.key) (_hC : AcsP w0 B b v.acts) (_hP : PairsP w0 B b v) : DoesP w0 B b 61 #[.pointer (some ⟨b, 0, none⟩), .agg (A0_ v q)] t (PS.form v (pExs v.args) (pExs v.vals) (pExs v.key) (pAcs v.acts) (pPairs v.vals v.names) t) := by
 unfold A0_
 intro bx w h hF
 have hL := hi_ hv.lens
 have hs := hv.s
 have hEq : PS.form v (pExs v.args) (pExs v.vals) (pExs v.key) (pAcs v.acts) (pPairs v.vals v.names) t = ((pExs v.args ((t.put w16_).must (decide (v.args.length = 1)))).must (bareB v false false true false false)) := by
  unfold PS.form
  rw [if_neg (by omega), if_neg (by omega), if_neg (by omega), if_neg (by omega), if_neg (by omega), if_pos (by omega)]
  rw [he]; rfl
 rw [hEq] at hF ⊢
 clear hEq
 have f4 : FitP (pExs v.args ((t.put w16_).must (decide (v.args.length = 1)))) := hF
 have f3 : FitP ((t.put w16_).must (decide (v.args.length = 1))) := FitP.exs hv.args f4
 have f1 : FitP (t.put w16_) := f3
 obtain ⟨p3, hp3⟩ : ∃ p, p = w.heap.size := ⟨_, rfl⟩
 obtain ⟨S2, hS2⟩ : ∃ S, S = w.alloc ((O0_ v q)) := ⟨_, rfl⟩
 have k2 : PK w0 B b t ((p3, (O0_ v q)) :: bx) S2 := by rw [hS2, hp3]; exact h.alloc _
 have hW2 : Hid (S2 = _) := hS2
 replace hp3 := hi_ hp3
 replace h := hi_ h
 clear hS2
 obtain ⟨p4, hp4⟩ : ∃ p, p = S2.heap.size := ⟨_, rfl⟩
 obtain ⟨S3, hS3⟩ : ∃ S, S = S2.alloc (.cells A4_ 50) := ⟨_, rfl⟩
 have k3 : PK w0 B b t ((p4, O4_) :: ((p3, (O0_ v q)) :: bx)) S3 := by rw [hS3, hp4]; exact k2.alloc _
 have hst := row_store (k3.box M0_) (cs := q.arr v) sizeEx_info rfl (q.one v)
 have k4 : PK w0 B b t ((p4, (O0_ v q)) :: ((p3, (O0_ v q)) :: bx)) (S3.setRow p4 (q.arr v)) := k3.row (q.arr v)
 obtain ⟨S4, hS4⟩ : ∃ S, S = S3.setRow p4 (q.arr v) := ⟨_, rfl⟩
 rw [← hS4] at k4 hst
 have hl2 := hi_ (row_load (k2.box M0_) Tryz.underlying50 rfl sizeEx_info)
 obtain ⟨g0, -⟩ := c10_ (k4.box M0_)
 have g1 : S4.frozen? ⟨p4, 0, none⟩ = false := fz_ (k4.box M0_)
 obtain ⟨S5, hS5⟩ : ∃ S, S = S4.setCell ⟨p4, 0, none⟩ (.int .u8 0) := ⟨_, rfl⟩
 have k5 : PK w0 B b t ((p4, (O32_ v q)) :: ((p3, (O0_ v q)) :: bx)) S5 := by rw [hS5]; exact k4.set 0 _
 have hW3 : Hid (S3 = _) := hS3
 have hW5 : Hid (S5 = _) := hS5
 replace hp4 := hi_ hp4
 replace hst := hi_ hst
 replace k2 := hi_ k2
 replace k3 := hi_ k3
 replace k4 := hi_ k4
 clear hS3 hS4 hS5
 have c1 := hi_ (put_P w0 B b t w16_ _ _ k5 f1)
 have cL := hi_ (fun W ok (hW : PK w0 B b (t.put w16_) ((p4, (O32_ v q)) :: ((p3, (O0_ v q)) :: bx)) W) (e : ok = (decide (v.args.length = 1))) => must_asP w0 B b (t.put w16_) (decide (v.args.length = 1)) _ ok W hW e f3)
 have hla := hi_ hL.out.args
 have c4 := hi_ (fun W hW => hA _ _ q.argsc ((t.put w16_).must (decide (v.args.length = 1))) hv.args ((p4, (O32_ v q)) :: ((p3, (O0_ v q)) :: bx)) W hW f4)
 have cM := hi_ (fun W ok (hW : PK w0 B b (pExs v.args ((t.put w16_).must (decide (v.args.length = 1)))) ((p4, (O37_ v q)) :: ((p3, (O0_ v q)) :: bx)) W) (e : ok = (bareB v false false true false false)) => must_asP w0 B b (pExs v.args ((t.put w16_).must (decide (v.args.length = 1)))) (bareB v false false true false false) _ ok W hW e f4)
 clear f1 f3 f4
 have hv' := hi_ hv
 replace he := hi_ he
 replace hs := hi_ hs
 clear hF hv
 go_enter Tryz.func61, Tryz.ntmps61
 go_wp2_with (first | (rw [← hW2.out]) | (rw [← hp3.out]) | (rw [← hW3.out]) | (rw [← hW5.out]) | (rw [← hp4.out]) | (refine ld_arm hl2.out rfl _ rfl rfl ?_) | (refine st_arm hst.out rfl _ _ rfl rfl rfl ?_))
 go_step3
 go_wp2_with (first | (rw [← hW2.out]) | (rw [← hp3.out]) | (rw [← hW3.out]) | (rw [← hW5.out]) | (rw [← hp4.out]) | (refine ld_arm hl2.out rfl _ rfl rfl ?_) | (refine st_arm hst.out rfl _ _ rfl rfl rfl ?_))
 go_step3
 obtain ⟨x0, -⟩ := c10_ (k5.box M1_)
 rw [he.out] at x0
 replace k5 := hi_ k5
 go_wp2_with (go_at_call 27; refine c1.out.mono ?_)
 first | rintro e w1 rfl h1 | rintro e w1 ⟨rfl, h1⟩
 clear x0 g0 g1
 obtain ⟨-, -, -, x3, -⟩ := c10_ (h1.box M1_)
 replace h1 := hi_ h1
 go_wp2_with (go_at_call 51; refine (cL.out _ _ h1.out (by rw [← hla.out]; first | (rw [int_beq]; simp; done) | (rw [Bool.eq_iff_iff]; simp; done) | (rw [Bool.eq_iff_iff]; simp; omega))).mono ?_)
 first | rintro e w3 rfl h3 | rintro e w3 ⟨rfl, h3⟩
 clear x3
 obtain ⟨-, -, -, x3, -⟩ := c10_ (h3.box M1_)
 replace h3 := hi_ h3
 go_wp2_with (go_at_call 84; refine (c4.out w3 h3.out).mono ?_)
 first | rintro e w4 rfl h4 | rintro e w4 ⟨rfl, h4⟩
 clear x3
 obtain ⟨-, -, -, ga0, -⟩ := c10_ (h4.box M0_)
 have gb0 : w4.frozen? ⟨p4, 3, none⟩ = false := fz_ (h4.box M0_)
 obtain ⟨R0, hR0⟩ : ∃ S, S = w4.setCell ⟨p4, 3, none⟩ (.slice none 0 0) := ⟨_, rfl⟩
 have hr0 : PK w0 B b (pExs v.args ((t.put w16_).must (decide (v.args.length = 1)))) ((p4, (O37_ v q)) :: ((p3, (O0_ v q)) :: bx)) R0 := by rw [hR0]; exact h4.set 3 _
 have hQ0 : Hid (R0 = _) := hR0
 replace h4 := hi_ h4
 clear hR0
 have hI := rest_is v q hL.out false true false false
 simp only [Bool.false_eq_true, if_true, if_false] at hI
 have cI := is_any 0 v.n v.s none q.namesa q.valsa q.keya q.actsa 0 0 q.namesn q.namesc q.valsn q.valsc v.elem q.keyn q.keyc q.actsn q.actsc v.site 0 0 ⟨#[]⟩ R0
 rw [hI] at cI
 replace cI := hi_ cI
 clear hI
 have hlr := hi_ (row_load (hr0.box M0_) Tryz.underlying50 rfl sizeEx_info)
 replace hr0 := hi_ hr0
 go_wp2_with (first | (rw [← hQ0.out]) | (refine ld_arm hlr.out rfl _ rfl rfl ?_) | (go_at_call 57; refine cI.out.mono ?_))
 first | rintro e wi rfl hbi | rintro e wi ⟨rfl, hbi⟩
 have hi := hi_ (hr0.out.below hbi)
 replace hbi := hi_ hbi
 clear ga0 gb0
 go_wp2_with (go_at_call 51; refine (cM.out _ _ hi.out rfl).mono ?_)
 first | rintro e wz rfl hz | rintro e wz ⟨rfl, hz⟩
 replace hz := hi_ hz.drop.drop
 go_wp2_with fail
 (try go_big_unhide)
 (try simp only [Exit.noGoto_normal])
 exact bodyPost_end (v := .tuple #[]) (results_none (by kernel_rfl) _ _ _) rfl ⟨rfl, hz.out⟩
theorem formp0_P (w0 : World) (B b : Nat) (v : Ex) (q : QEx) (t : PS) (he : ¬ v.kind = 11 ∧ ¬ v.kind = 12 ∧ ¬ v.kind = 10 ∧ ¬ v.kind = 7 ∧ ¬ v.kind = 5 ∧ ¬ (v.kind = 6 ∨ v.kind = 8 ∨ v.kind = 9))  (hv : ExAt w0 B v q) (_hA : ExsP w0 B b v.args) (_hV : ExsP w0 B b v.vals) (_hK : ExsP w0 B b v.key) (_hC : AcsP w0 B b v.acts) (_hP : PairsP w0 B b v) : DoesP w0 B b 61 #[.pointer (some ⟨b, 0, none⟩), .agg (A0_ v q)] t (PS.form v (pExs v.args) (pExs v.vals) (pExs v.key) (pAcs v.acts) (pPairs v.vals v.names) t) := by
 unfold A0_
 intro bx w h hF
 have hL := hi_ hv.lens
 have hs := hv.s
 have hEq : PS.form v (pExs v.args) (pExs v.vals) (pExs v.key) (pAcs v.acts) (pPairs v.vals v.names) t = (t.worse.must (bareB v false false false false false)) := by
  unfold PS.form
  rw [if_neg he.1, if_neg he.2.1, if_neg he.2.2.1, if_neg he.2.2.2.1, if_neg he.2.2.2.2.1, if_neg he.2.2.2.2.2]

 rw [hEq] at hF ⊢
 clear hEq

 obtain ⟨p3, hp3⟩ : ∃ p, p = w.heap.size := ⟨_, rfl⟩
 obtain ⟨S2, hS2⟩ : ∃ S, S = w.alloc ((O0_ v q)) := ⟨_, rfl⟩
 have k2 : PK w0 B b t ((p3, (O0_ v q)) :: bx) S2 := by rw [hS2, hp3]; exact h.alloc _
 have hW2 : Hid (S2 = _) := hS2
 replace hp3 := hi_ hp3
 replace h := hi_ h
 clear hS2
 obtain ⟨p4, hp4⟩ : ∃ p, p = S2.heap.size := ⟨_, rfl⟩
 obtain ⟨S3, hS3⟩ : ∃ S, S = S2.alloc (.cells A4_ 50) := ⟨_, rfl⟩
 have k3 : PK w0 B b t ((p4, O4_) :: ((p3, (O0_ v q)) :: bx)) S3 := by rw [hS3, hp4]; exact k2.alloc _
 have hst := row_store (k3.box M0_) (cs := q.arr v) sizeEx_info rfl (q.one v)
 have k4 : PK w0 B b t ((p4, (O0_ v q)) :: ((p3, (O0_ v q)) :: bx)) (S3.setRow p4 (q.arr v)) := k3.row (q.arr v)
 obtain ⟨S4, hS4⟩ : ∃ S, S = S3.setRow p4 (q.arr v) := ⟨_, rfl⟩
 rw [← hS4] at k4 hst
 have hl2 := hi_ (row_load (k2.box M0_) Tryz.underlying50 rfl sizeEx_info)
 obtain ⟨g0, -⟩ := c10_ (k4.box M0_)
 have g1 : S4.frozen? ⟨p4, 0, none⟩ = false := fz_ (k4.box M0_)
 obtain ⟨S5, hS5⟩ : ∃ S, S = S4.setCell ⟨p4, 0, none⟩ (.int .u8 0) := ⟨_, rfl⟩
 have k5 : PK w0 B b t ((p4, (O32_ v q)) :: ((p3, (O0_ v q)) :: bx)) S5 := by rw [hS5]; exact k4.set 0 _
 have hW3 : Hid (S3 = _) := hS3
 have hW5 : Hid (S5 = _) := hS5
 replace hp4 := hi_ hp4
 replace hst := hi_ hst
 replace k2 := hi_ k2
 replace k3 := hi_ k3
 replace k4 := hi_ k4
 clear hS3 hS4 hS5
 have cM := hi_ (fun W ok (hW : PK w0 B b t.worse ((p4, (O32_ v q)) :: ((p3, (O0_ v q)) :: bx)) W) (e : ok = (bareB v false false false false false)) => must_asP w0 B b t.worse (bareB v false false false false false) _ ok W hW e hF)
 have hv' := hi_ hv
 replace hs := hi_ hs
 clear hF hv
 go_enter Tryz.func61, Tryz.ntmps61
 go_wp2_with (first | (rw [← hW2.out]) | (rw [← hp3.out]) | (rw [← hW3.out]) | (rw [← hW5.out]) | (rw [← hp4.out]) | (refine ld_arm hl2.out rfl _ rfl rfl ?_) | (refine st_arm hst.out rfl _ _ rfl rfl rfl ?_))
 go_step3
 go_wp2_with (first | (rw [← hW2.out]) | (rw [← hp3.out]) | (rw [← hW3.out]) | (rw [← hW5.out]) | (rw [← hp4.out]) | (refine ld_arm hl2.out rfl _ rfl rfl ?_) | (refine st_arm hst.out rfl _ _ rfl rfl rfl ?_))
 go_step3
 obtain ⟨x0, -⟩ := c10_ (k5.box M1_)
 obtain ⟨zbS6, zfS6⟩ := bad_cell k5
 obtain ⟨S6, hSS6⟩ : ∃ S, S = S5.setCell ⟨b, 3, none⟩ (.bool true) := ⟨_, rfl⟩
 have k6 : PK w0 B b t.worse ((p4, (O32_ v q)) :: ((p3, (O0_ v q)) :: bx)) S6 := by rw [hSS6]; exact worse_K k5
 have hQS6 : Hid (S6 = _) := hSS6
 clear hSS6
 replace k5 := hi_ k5
 obtain ⟨e11, e12, e10, e7, e5, e689⟩ := he
 have e6 : ¬ v.kind = 6 := fun h => e689 (.inl h)
 have e8 : ¬ v.kind = 8 := fun h => e689 (.inr (.inl h))
 have e9 : ¬ v.kind = 9 := fun h => e689 (.inr (.inr h))
 clear e689
 have y11 : (v.kind == 11) = false := by simp [e11]
 clear e11
 have y12 : (v.kind == 12) = false := by simp [e12]
 clear e12
 have y10 : (v.kind == 10) = false := by simp [e10]
 clear e10
 have y7 : (v.kind == 7) = false := by simp [e7]
 clear e7
 have y5 : (v.kind == 5) = false := by simp [e5]
 clear e5
 have y6 : (v.kind == 6) = false := by simp [e6]
 clear e6
 have y8 : (v.kind == 8) = false := by simp [e8]
 clear e8
 have y9 : (v.kind == 9) = false := by simp [e9]
 clear e9
 have hI := rest_is v q hL.out false false false false
 simp only [Bool.false_eq_true, if_false] at hI
 have cI := is_any 0 v.n v.s q.argsa q.namesa q.valsa q.keya q.actsa q.argsn q.argsc q.namesn q.namesc q.valsn q.valsc v.elem q.keyn q.keyc q.actsn q.actsc v.site 0 0 ⟨#[]⟩ S6
 rw [hI] at cI
 replace cI := hi_ cI
 clear hI
 clear g0 g1
 have hlr := hi_ (row_load (k6.box M0_) Tryz.underlying50 rfl sizeEx_info)
 replace k6 := hi_ k6
 go_wp2_with (first | (rw [← hQS6.out]) | (refine ld_arm hlr.out rfl _ rfl rfl ?_) | (go_at_call 57; refine cI.out.mono ?_))
 first | rintro e wi rfl hbi | rintro e wi ⟨rfl, hbi⟩
 have hi := hi_ (k6.out.below hbi)
 replace hbi := hi_ hbi
 go_wp2_with (go_at_call 51; refine (cM.out _ _ hi.out rfl).mono ?_)
 first | rintro e wz rfl hz | rintro e wz ⟨rfl, hz⟩
 replace hz := hi_ hz.drop.drop
 go_wp2_with fail
 (try go_big_unhide)
 (try simp only [Exit.noGoto_normal])
 exact bodyPost_end (v := .tuple #[]) (results_none (by kernel_rfl) _ _ _) rfl ⟨rfl, hz.out⟩
theorem elem0_R (w0 : World) (B b : Nat) (v : Ex) (q : QEx) (t : RS) (he : v.elem = 0 ∨ 9 ≤ v.elem) (hv : ExAt w0 B v q) (_hA : ExsR w0 B b v.args) (_hV : ExsR w0 B b v.vals) (_hK : ExsR w0 B b v.key) (_hP : PairsR w0 B b v) : DoesR w0 B b 69 #[.pointer (some ⟨b, 0, none⟩), .agg (A0_ v q)] t (RS.elem v (rExs v.args) (rExs v.vals) (rExs v.key) (RS.pairsF v (rPairs v.vals v.names)) t) := by
 unfold A0_
 intro bx w h hF
 have hL := hi_ hv.lens
 have hmx := ExLens.maxes hv
 have hs := hv.s
 have hEq : RS.elem v (rExs v.args) (rExs v.vals) (rExs v.key) (RS.pairsF v (rPairs v.vals v.names)) t = (t.must (RS.elemOk v)).must false := by
  unfold RS.elem; rw [if_pos he]
 rw [hEq] at hF ⊢
 obtain ⟨S, hS⟩ : ∃ S, S = w.alloc ((O0_ v q)) := ⟨_, rfl⟩
 have h0 : RK w0 B b t ((w.heap.size, (O0_ v q)) :: bx) S := by rw [hS]; exact h.alloc _
 have hWS : Hid (S = _) := hS
 clear hS
 replace h := hi_ h
 have cM := hi_ (must_as w0 B b t (RS.elemOk v) ((w.heap.size, (O0_ v q)) :: bx) hF)
 have cF := hi_ (fun W (hW : RK w0 B b (t.must (RS.elemOk v)) ((w.heap.size, (O0_ v q)) :: bx) W) => must_R w0 B b (t.must (RS.elemOk v)) false _ W hW hF)
 have hv' := hi_ hv
 clear hEq hF hv
 go_enter Tryz.func69, Tryz.ntmps69
 go_upto_region 1 with (rw [← hWS.out])
 go_cut [] (fun wx => RK w0 B b (t.must (RS.elemOk v)) ((w.heap.size, (O0_ v q)) :: bx) wx)
 case first =>
  obtain ⟨-, x1, -, -, -, -, -, x7, x8, x9⟩ := c10_ (h0.box M0_)
  replace h0 := hi_ h0
  have hok : Hid (RS.elemOk v = (decide (v.n = 0) && decide (q.actsn = 0) && decide (v.site.size = 0) && decide (q.keyn ≤ 1))) := by
   show _ = _
   rw [hL.out.acts, hL.out.key]; rfl
  clear hmx
  by_cases c1 : v.n = 0
  ·skip
   have yc10 : (v.n == 0) = true := by simp [c1]
   replace c1 := hi_ c1
   by_cases c2 : q.actsn = 0
   ·skip
    have yc20 : ((q.actsn : Int) == 0) = true := by simp [c2]
    replace c2 := hi_ c2
    by_cases c3 : v.site.size = 0
    ·skip
     have yc30 : v.site.toList = [] := by rw [size_nil]; exact c3
     have yc31 : v.site.toList.isEmpty = true := by rw [size_emp]; simp [c3]
     replace c3 := hi_ c3
     go_wp2_with (go_at_call 34; refine (cM.out _ _ h0.out (by rw [hok.out]; simp [c1.out, c2.out, c3.out]; try omega)).mono ?_)
     first | rintro e w3 rfl h3 | rintro e w3 ⟨rfl, h3⟩
     replace h3 := hi_ h3
     clear yc10 yc20 yc30 yc31
     go_wp2_with fail
     go_meet
     exact h3.out
    ·skip
     have yc30 : ¬ v.site.toList = [] := by rw [size_nil]; exact c3
     have yc31 : v.site.toList.isEmpty = false := by rw [size_emp]; simp [c3]
     have yc32 : (v.site.toList == []) = false := by rw [size_beq]; simp [c3]
     replace c3 := hi_ c3
     go_wp2_with (go_at_call 34; refine (cM.out _ _ h0.out (by rw [hok.out]; simp [c1.out, c2.out, c3.out]; try omega)).mono ?_)
     first | rintro e w3 rfl h3 | rintro e w3 ⟨rfl, h3⟩
     replace h3 := hi_ h3
     clear yc10 yc20 yc30 yc31 yc32
     go_wp2_with fail
     go_meet
     exact h3.out
   ·skip
    have yc20 : ((q.actsn : Int) == 0) = false := by simp [c2]
    replace c2 := hi_ c2
    go_wp2_with (go_at_call 34; refine (cM.out _ _ h0.out (by rw [hok.out]; simp [c1.out, c2.out]; try omega)).mono ?_)
    first | rintro e w3 rfl h3 | rintro e w3 ⟨rfl, h3⟩
    replace h3 := hi_ h3
    clear yc10 yc20
    go_wp2_with fail
    go_meet
    exact h3.out
  ·skip
   have yc10 : (v.n == 0) = false := by simp [c1]
   replace c1 := hi_ c1
   go_wp2_with (go_at_call 34; refine (cM.out _ _ h0.out (by rw [hok.out]; simp [c1.out]; try omega)).mono ?_)
   first | rintro e w3 rfl h3 | rintro e w3 ⟨rfl, h3⟩
   replace h3 := hi_ h3
   clear yc10
   go_wp2_with fail
   go_meet
   exact h3.out
 case rest =>
  obtain ⟨S2, hS2⟩ : ∃ S2, S2 = wc.alloc (.cells A24_ 9) := ⟨_, rfl⟩
  have h2 : RK w0 B b (t.must (RS.elemOk v)) ((w.heap.size, (O0_ v q)) :: bx) S2 := by rw [hS2]; exact (hcut.alloc _).drop
  have hW2 : Hid (S2 = _) := hS2
  clear hS2
  replace hcut := hi_ hcut
  replace h0 := hi_ h0
  have cF2 := hi_ (cF.out S2 h2)
  obtain ⟨-, -, -, -, -, -, x6, -⟩ := c10_ (h2.box M0_)
  replace h2 := hi_ h2
  rcases he with he | he
  ·rw [he] at x6
   go_wp2_with (first | (rw [← hW2.out]) | (go_at_call 34; refine cF2.out.mono ?_))
   first | rintro e w4 rfl h4 | rintro e w4 ⟨rfl, h4⟩
   replace h4 := hi_ h4.drop
   go_wp2_with fail
   exact bodyPost_ret (v := .tuple #[]) (results_none (by kernel_rfl) _ _ _) rfl ⟨rfl, h4.out⟩
  ·have y : (v.elem == 0) = false := by simp; omega
   go_wp2_with (first | (rw [← hW2.out]) | (go_at_call 34; refine cF2.out.mono ?_))
   first | rintro e w4 rfl h4 | rintro e w4 ⟨rfl, h4⟩
   replace h4 := hi_ h4.drop
   go_wp2_with fail
   exact bodyPost_ret (v := .tuple #[]) (results_none (by kernel_rfl) _ _ _) rfl ⟨rfl, h4.out⟩
end Go.Proofs.YtlppklbmdedipaaGreatDoor
