/- PrintTexts, part 21. -/
import Derived.Test.YtlppklbmdedipaaGreatDoorW02
import Derived.Test.YtlppklbmdedipaaGreatDoorW18
import Derived.Test.YtlppklbmdedipaaGreatDoorW20
namespace Go.Proofs.YtlppklbmdedipaaGreatDoor
open Go Go.RowKit
set_option maxHeartbeats 8000000
set_option maxRecDepth 100000
theorem in_map (L : List (List UInt8)) (s : ByteArray) : Lib.containsS (L.map bs) s = L.contains s.data.toList := by
 rw [Bool.eq_iff_iff, Lib.containsS_iff]
 constructor
 ·intro h
  obtain ⟨l, hl, e⟩ := List.mem_map.1 h
  subst e
  rw [show (bs l).data.toList = l from rfl]
  simpa using hl
 ·intro h
  exact List.mem_map.2 ⟨s.data.toList, by simpa using h, bs_toList s⟩
theorem keys_in (s : ByteArray) : Lib.containsS [bs [105, 102], bs w14_, bs w15_, bs w16_, bs w13_, bs [100, 111], bs w2_, bs w3_, bs w4_, bs w5_, bs w6_, bs w8_, bs w11_, bs w12_] s = keyP s := in_map keysL s
theorem deed_KP {w0 : World} {B b : Nat} {t : PS} {bx : Bx} {w : World} (h : PK w0 B b t bx w) : PK w0 B b t.deed bx (w.setCell ⟨b, 5, none⟩ (.int .i64 (IntKind.i64.wrap (t.deeds + 1)))) :=
 h.head (C' := PC b t.deed) 5 _ (by
  rintro v cs ⟨⟨p, hp, rfl⟩, h2, h3, h4⟩
  refine ⟨⟨p, hp, rfl⟩, ?_, h3, h4⟩
  show (Lit.int .i64 (IntKind.i64.wrap (t.deeds + 1))).wf = true
  exact wrap_wf _)
theorem formp5k_P (w0 : World) (B b : Nat) (v : Ex) (q : QEx) (t : PS) (he : v.kind = 5) (hk : keyP v.s = true) (hv : ExAt w0 B v q) (_hA : ExsP w0 B b v.args) (_hV : ExsP w0 B b v.vals) (_hK : ExsP w0 B b v.key) (_hC : AcsP w0 B b v.acts) (_hP : PairsP w0 B b v) : DoesP w0 B b 61 #[.pointer (some ⟨b, 0, none⟩), .agg (A0_ v q)] t (PS.form v (pExs v.args) (pExs v.vals) (pExs v.key) (pAcs v.acts) (pPairs v.vals v.names) t) := by
 unfold A0_
 intro bx w h hF
 have hL := hi_ hv.lens
 have hs := hv.s
 have hEq : PS.form v (pExs v.args) (pExs v.vals) (pExs v.key) (pAcs v.acts) (pPairs v.vals v.names) t = (t.worse.must (bareB v false false false false false)) := by
  unfold PS.form
  rw [if_neg (by omega), if_neg (by omega), if_neg (by omega), if_neg (by omega), if_pos he, if_pos hk]

 rw [hEq] at hF ⊢
 clear hEq

 obtain ⟨p3, hp3⟩ : ∃ p, p = w.heap.size := ⟨_, rfl⟩
 obtain ⟨S2, hS2⟩ : ∃ S, S = w.alloc ((O0_ v q)) := ⟨_, rfl⟩
 have k2 : PK w0 B b t ((p3, (O0_ v q)) :: bx) S2 := by rw [hS2, hp3]; exact h.alloc _
 have hW2 : Hid (S2 = _) := hS2
 replace hp3 := hi_ hp3
 replace h := hi_ h
 clear hS2
 obtain ⟨p4, hp4⟩ : ∃ p, p = S2.heap.size := ⟨_, rfl⟩
 obtain ⟨S3, hS3⟩ : ∃ S, S = S2.alloc (.cells A4_ 50) := ⟨_, rfl⟩
 have k3 : PK w0 B b t ((p4, O4_) :: ((p3, (O0_ v q)) :: bx)) S3 := by rw [hS3, hp4]; exact k2.alloc _
 have hst := row_store (k3.box M0_) (cs := q.arr v) sizeEx_info rfl (q.one v)
 have k4 : PK w0 B b t ((p4, (O0_ v q)) :: ((p3, (O0_ v q)) :: bx)) (S3.setRow p4 (q.arr v)) := k3.row (q.arr v)
 obtain ⟨S4, hS4⟩ : ∃ S, S = S3.setRow p4 (q.arr v) := ⟨_, rfl⟩
 rw [← hS4] at k4 hst
 have hl2 := hi_ (row_load (k2.box M0_) Tryz.underlying50 rfl sizeEx_info)
 obtain ⟨g0, -⟩ := c10_ (k4.box M0_)
 have g1 : S4.frozen? ⟨p4, 0, none⟩ = false := fz_ (k4.box M0_)
 obtain ⟨S5, hS5⟩ : ∃ S, S = S4.setCell ⟨p4, 0, none⟩ (.int .u8 0) := ⟨_, rfl⟩
 have k5 : PK w0 B b t ((p4, (O32_ v q)) :: ((p3, (O0_ v q)) :: bx)) S5 := by rw [hS5]; exact k4.set 0 _
 have hW3 : Hid (S3 = _) := hS3
 have hW5 : Hid (S5 = _) := hS5
 replace hp4 := hi_ hp4
 replace hst := hi_ hst
 replace k2 := hi_ k2
 replace k3 := hi_ k3
 replace k4 := hi_ k4
 clear hS3 hS4 hS5
 have cM := hi_ (fun W ok (hW : PK w0 B b t.worse ((p4, (O32_ v q)) :: ((p3, (O0_ v q)) :: bx)) W) (e : ok = (bareB v false false false false false)) => must_asP w0 B b t.worse (bareB v false false false false false) _ ok W hW e hF)
 have hv' := hi_ hv
 replace he := hi_ he
 replace hs := hi_ hs
 clear hF hv
 go_enter Tryz.func61, Tryz.ntmps61
 go_wp2_with (first | (rw [← hW2.out]) | (rw [← hp3.out]) | (rw [← hW3.out]) | (rw [← hW5.out]) | (rw [← hp4.out]) | (refine ld_arm hl2.out rfl _ rfl rfl ?_) | (refine st_arm hst.out rfl _ _ rfl rfl rfl ?_))
 go_step3
 go_wp2_with (first | (rw [← hW2.out]) | (rw [← hp3.out]) | (rw [← hW3.out]) | (rw [← hW5.out]) | (rw [← hp4.out]) | (refine ld_arm hl2.out rfl _ rfl rfl ?_) | (refine st_arm hst.out rfl _ _ rfl rfl rfl ?_))
 go_step3
 obtain ⟨S6, hS6⟩ : ∃ S, S = S5.alloc (.cells A8_ 9) := ⟨_, rfl⟩
 have h6 : PK w0 B b t ((S5.heap.size, O40_) :: ((p4, (O32_ v q)) :: ((p3, (O0_ v q)) :: bx))) S6 := by rw [hS6]; exact k5.alloc _
 have hW6 : Hid (S6 = _) := hS6
 clear hS6
 have hbx6 := h6.box M0_
 have cC := Tryz.slices_Contains_string S5.heap.size 0 14 14 [bs [105, 102], bs w14_, bs w15_, bs w16_, bs w13_, bs [100, 111], bs w2_, bs w3_, bs w4_, bs w5_, bs w6_, bs w8_, bs w11_, bs w12_] v.s S6 (by decide) (by decide) (by
  intro j hj
  match j, hj with
  | 0, _ | 1, _ | 2, _ | 3, _ | 4, _ | 5, _ | 6, _ | 7, _ | 8, _ | 9, _ | 10, _ | 11, _ | 12, _ | 13, _ => simp [World.cell?, hbx6]; rfl)
 rw [show List.take 14 [bs [105, 102], bs w14_, bs w15_, bs w16_, bs w13_, bs [100, 111], bs w2_, bs w3_, bs w4_, bs w5_, bs w6_, bs w8_, bs w11_, bs w12_] = [bs [105, 102], bs w14_, bs w15_, bs w16_, bs w13_, bs [100, 111], bs w2_, bs w3_, bs w4_, bs w5_, bs w6_, bs w8_, bs w11_, bs w12_] from rfl, keys_in, hk] at cC
 replace cC := hi_ cC
 obtain ⟨-, -, x2, -⟩ := c10_ (h6.drop.box M1_)
 have k6 := h6.drop
 clear h6 hbx6
 obtain ⟨x0, -⟩ := c10_ (k5.box M1_)
 rw [he.out] at x0
 obtain ⟨zbS7, zfS7⟩ := bad_cell k6
 obtain ⟨S7, hSS7⟩ : ∃ S, S = S6.setCell ⟨b, 3, none⟩ (.bool true) := ⟨_, rfl⟩
 have k7 : PK w0 B b t.worse ((p4, (O32_ v q)) :: ((p3, (O0_ v q)) :: bx)) S7 := by rw [hSS7]; exact worse_K k6
 have hQS7 : Hid (S7 = _) := hSS7
 clear hSS7
 replace k5 := hi_ k5
 replace k6 := hi_ k6
 have hI := rest_is v q hL.out false false false false
 simp only [Bool.false_eq_true, if_false] at hI
 have cI := is_any 0 v.n v.s q.argsa q.namesa q.valsa q.keya q.actsa q.argsn q.argsc q.namesn q.namesc q.valsn q.valsc v.elem q.keyn q.keyc q.actsn q.actsc v.site 0 0 ⟨#[]⟩ S7
 rw [hI] at cI
 replace cI := hi_ cI
 clear hI
 clear g0 g1
 have hlr := hi_ (row_load (k7.box M0_) Tryz.underlying50 rfl sizeEx_info)
 replace k7 := hi_ k7
 go_wp2_with (first | (rw [← hW6.out]) | (rw [← hQS7.out]) | (go_at_call 52; refine cC.out.mono ?_; rintro e w9 ⟨rfl, hw9⟩; obtain rfl := hw9.symm) | (refine ld_arm hlr.out rfl _ rfl rfl ?_) | (go_at_call 57; refine cI.out.mono ?_))
 first | rintro e wi rfl hbi | rintro e wi ⟨rfl, hbi⟩
 have hi := hi_ (k7.out.below hbi)
 replace hbi := hi_ hbi
 go_wp2_with (go_at_call 51; refine (cM.out _ _ hi.out rfl).mono ?_)
 first | rintro e wz rfl hz | rintro e wz ⟨rfl, hz⟩
 replace hz := hi_ hz.drop.drop
 go_wp2_with fail
 (try go_big_unhide)
 (try simp only [Exit.noGoto_normal])
 exact bodyPost_end (v := .tuple #[]) (results_none (by kernel_rfl) _ _ _) rfl ⟨rfl, hz.out⟩
theorem formp5_P (w0 : World) (B b : Nat) (v : Ex) (q : QEx) (t : PS) (he : v.kind = 5) (hk : keyP v.s = false) (hv : ExAt w0 B v q) (hA : ExsP w0 B b v.args) (_hV : ExsP w0 B b v.vals) (_hK : ExsP w0 B b v.key) (_hC : AcsP w0 B b v.acts) (_hP : PairsP w0 B b v) : DoesP w0 B b 61 #[.pointer (some ⟨b, 0, none⟩), .agg (A0_ v q)] t (PS.form v (pExs v.args) (pExs v.vals) (pExs v.key) (pAcs v.acts) (pPairs v.vals v.names) t) := by
 unfold A0_
 intro bx w h hF
 have hL := hi_ hv.lens
 have hs := hv.s
 have hEq : PS.form v (pExs v.args) (pExs v.vals) (pExs v.key) (pAcs v.acts) (pPairs v.vals v.names) t = ((pExs v.args (t.plain v.s)).must (bareB v false true true false false)) := by
  unfold PS.form
  rw [if_neg (by omega), if_neg (by omega), if_neg (by omega), if_neg (by omega), if_pos he, if_neg (by rw [hk]; decide)]

 rw [hEq] at hF ⊢
 clear hEq
 have f2 : FitP (pExs v.args (t.plain v.s)) := hF
 have f1 : FitP (t.plain v.s) := FitP.exs hv.args f2
 obtain ⟨p3, hp3⟩ : ∃ p, p = w.heap.size := ⟨_, rfl⟩
 obtain ⟨S2, hS2⟩ : ∃ S, S = w.alloc ((O0_ v q)) := ⟨_, rfl⟩
 have k2 : PK w0 B b t ((p3, (O0_ v q)) :: bx) S2 := by rw [hS2, hp3]; exact h.alloc _
 have hW2 : Hid (S2 = _) := hS2
 replace hp3 := hi_ hp3
 replace h := hi_ h
 clear hS2
 obtain ⟨p4, hp4⟩ : ∃ p, p = S2.heap.size := ⟨_, rfl⟩
 obtain ⟨S3, hS3⟩ : ∃ S, S = S2.alloc (.cells A4_ 50) := ⟨_, rfl⟩
 have k3 : PK w0 B b t ((p4, O4_) :: ((p3, (O0_ v q)) :: bx)) S3 := by rw [hS3, hp4]; exact k2.alloc _
 have hst := row_store (k3.box M0_) (cs := q.arr v) sizeEx_info rfl (q.one v)
 have k4 : PK w0 B b t ((p4, (O0_ v q)) :: ((p3, (O0_ v q)) :: bx)) (S3.setRow p4 (q.arr v)) := k3.row (q.arr v)
 obtain ⟨S4, hS4⟩ : ∃ S, S = S3.setRow p4 (q.arr v) := ⟨_, rfl⟩
 rw [← hS4] at k4 hst
 have hl2 := hi_ (row_load (k2.box M0_) Tryz.underlying50 rfl sizeEx_info)
 obtain ⟨g0, -⟩ := c10_ (k4.box M0_)
 have g1 : S4.frozen? ⟨p4, 0, none⟩ = false := fz_ (k4.box M0_)
 obtain ⟨S5, hS5⟩ : ∃ S, S = S4.setCell ⟨p4, 0, none⟩ (.int .u8 0) := ⟨_, rfl⟩
 have k5 : PK w0 B b t ((p4, (O32_ v q)) :: ((p3, (O0_ v q)) :: bx)) S5 := by rw [hS5]; exact k4.set 0 _
 have hW3 : Hid (S3 = _) := hS3
 have hW5 : Hid (S5 = _) := hS5
 replace hp4 := hi_ hp4
 replace hst := hi_ hst
 replace k2 := hi_ k2
 replace k3 := hi_ k3
 replace k4 := hi_ k4
 clear hS3 hS4 hS5
 have c2 := hi_ (fun W hW => plain_P w0 B b t v.s hs ((p4, (O32_ v q)) :: ((p3, (O0_ v q)) :: bx)) W hW f1)
 have c4 := hi_ (fun W hW => hA _ _ q.argsc (t.plain v.s) hv.args ((p4, (O32_ v q)) :: ((p3, (O0_ v q)) :: bx)) W hW f2)
 have cM := hi_ (fun W ok (hW : PK w0 B b (pExs v.args (t.plain v.s)) ((p4, (O35_ v q)) :: ((p3, (O0_ v q)) :: bx)) W) (e : ok = (bareB v false true true false false)) => must_asP w0 B b (pExs v.args (t.plain v.s)) (bareB v false true true false false) _ ok W hW e f2)
 clear f1 f2
 have hv' := hi_ hv
 replace he := hi_ he
 replace hs := hi_ hs
 clear hF hv
 go_enter Tryz.func61, Tryz.ntmps61
 go_wp2_with (first | (rw [← hW2.out]) | (rw [← hp3.out]) | (rw [← hW3.out]) | (rw [← hW5.out]) | (rw [← hp4.out]) | (refine ld_arm hl2.out rfl _ rfl rfl ?_) | (refine st_arm hst.out rfl _ _ rfl rfl rfl ?_))
 go_step3
 go_wp2_with (first | (rw [← hW2.out]) | (rw [← hp3.out]) | (rw [← hW3.out]) | (rw [← hW5.out]) | (rw [← hp4.out]) | (refine ld_arm hl2.out rfl _ rfl rfl ?_) | (refine st_arm hst.out rfl _ _ rfl rfl rfl ?_))
 go_step3
 obtain ⟨S6, hS6⟩ : ∃ S, S = S5.alloc (.cells A8_ 9) := ⟨_, rfl⟩
 have h6 : PK w0 B b t ((S5.heap.size, O40_) :: ((p4, (O32_ v q)) :: ((p3, (O0_ v q)) :: bx))) S6 := by rw [hS6]; exact k5.alloc _
 have hW6 : Hid (S6 = _) := hS6
 clear hS6
 have hbx6 := h6.box M0_
 have cC := Tryz.slices_Contains_string S5.heap.size 0 14 14 [bs [105, 102], bs w14_, bs w15_, bs w16_, bs w13_, bs [100, 111], bs w2_, bs w3_, bs w4_, bs w5_, bs w6_, bs w8_, bs w11_, bs w12_] v.s S6 (by decide) (by decide) (by
  intro j hj
  match j, hj with
  | 0, _ | 1, _ | 2, _ | 3, _ | 4, _ | 5, _ | 6, _ | 7, _ | 8, _ | 9, _ | 10, _ | 11, _ | 12, _ | 13, _ => simp [World.cell?, hbx6]; rfl)
 rw [show List.take 14 [bs [105, 102], bs w14_, bs w15_, bs w16_, bs w13_, bs [100, 111], bs w2_, bs w3_, bs w4_, bs w5_, bs w6_, bs w8_, bs w11_, bs w12_] = [bs [105, 102], bs w14_, bs w15_, bs w16_, bs w13_, bs [100, 111], bs w2_, bs w3_, bs w4_, bs w5_, bs w6_, bs w8_, bs w11_, bs w12_] from rfl, keys_in, hk] at cC
 replace cC := hi_ cC
 obtain ⟨-, -, x2, -⟩ := c10_ (h6.drop.box M1_)
 have k6 := h6.drop
 clear h6 hbx6
 obtain ⟨x0, -⟩ := c10_ (k5.box M1_)
 rw [he.out] at x0
 replace k5 := hi_ k5
 replace k6 := hi_ k6
 go_wp2_with (first | (rw [← hW6.out]) | (go_at_call 52; refine cC.out.mono ?_; rintro e w9 ⟨rfl, hw9⟩; obtain rfl := hw9.symm) | (go_at_call 28; refine (c2.out S6 k6.out).mono ?_))
 first | rintro e w1 rfl h1 | rintro e w1 ⟨rfl, h1⟩
 clear x0 x2 g0 g1
 obtain ⟨-, -, -, x3, -⟩ := c10_ (h1.box M1_)
 replace h1 := hi_ h1
 go_wp2_with (go_at_call 84; refine (c4.out w1 h1.out).mono ?_)
 first | rintro e w4 rfl h4 | rintro e w4 ⟨rfl, h4⟩
 clear x3
 obtain ⟨-, -, ga0, -⟩ := c10_ (h4.box M0_)
 have gb0 : w4.frozen? ⟨p4, 2, none⟩ = false := fz_ (h4.box M0_)
 obtain ⟨R0, hR0⟩ : ∃ S, S = w4.setCell ⟨p4, 2, none⟩ (.string ⟨#[]⟩) := ⟨_, rfl⟩
 have hr0 : PK w0 B b (pExs v.args (t.plain v.s)) ((p4, (O36_ v q)) :: ((p3, (O0_ v q)) :: bx)) R0 := by rw [hR0]; exact h4.set 2 _
 have hQ0 : Hid (R0 = _) := hR0
 replace h4 := hi_ h4
 clear hR0
 obtain ⟨-, -, -, ga1, -⟩ := c10_ (hr0.box M0_)
 have gb1 : R0.frozen? ⟨p4, 3, none⟩ = false := fz_ (hr0.box M0_)
 obtain ⟨R1, hR1⟩ : ∃ S, S = R0.setCell ⟨p4, 3, none⟩ (.slice none 0 0) := ⟨_, rfl⟩
 have hr1 : PK w0 B b (pExs v.args (t.plain v.s)) ((p4, (O35_ v q)) :: ((p3, (O0_ v q)) :: bx)) R1 := by rw [hR1]; exact hr0.set 3 _
 have hQ1 : Hid (R1 = _) := hR1
 replace hr0 := hi_ hr0
 clear hR1
 have hI := rest_is v q hL.out true true false false
 simp only [Bool.false_eq_true, if_true, if_false] at hI
 have cI := is_any 0 v.n ⟨#[]⟩ none q.namesa q.valsa q.keya q.actsa 0 0 q.namesn q.namesc q.valsn q.valsc v.elem q.keyn q.keyc q.actsn q.actsc v.site 0 0 ⟨#[]⟩ R1
 rw [hI] at cI
 replace cI := hi_ cI
 clear hI
 have hlr := hi_ (row_load (hr1.box M0_) Tryz.underlying50 rfl sizeEx_info)
 replace hr1 := hi_ hr1
 go_wp2_with (first | (rw [← hQ0.out]) | (rw [← hQ1.out]) | (refine ld_arm hlr.out rfl _ rfl rfl ?_) | (go_at_call 57; refine cI.out.mono ?_))
 first | rintro e wi rfl hbi | rintro e wi ⟨rfl, hbi⟩
 have hi := hi_ (hr1.out.below hbi)
 replace hbi := hi_ hbi
 clear ga0 gb0 ga1 gb1
 go_wp2_with (go_at_call 51; refine (cM.out _ _ hi.out rfl).mono ?_)
 first | rintro e wz rfl hz | rintro e wz ⟨rfl, hz⟩
 replace hz := hi_ hz.drop.drop
 go_wp2_with fail
 (try go_big_unhide)
 (try simp only [Exit.noGoto_normal])
 exact bodyPost_end (v := .tuple #[]) (results_none (by kernel_rfl) _ _ _) rfl ⟨rfl, hz.out⟩
theorem formp12_P (w0 : World) (B b : Nat) (v : Ex) (q : QEx) (t : PS) (he : v.kind = 12)  (hv : ExAt w0 B v q) (_hA : ExsP w0 B b v.args) (_hV : ExsP w0 B b v.vals) (_hK : ExsP w0 B b v.key) (hC : AcsP w0 B b v.acts) (_hP : PairsP w0 B b v) : DoesP w0 B b 61 #[.pointer (some ⟨b, 0, none⟩), .agg (A0_ v q)] t (PS.form v (pExs v.args) (pExs v.vals) (pExs v.key) (pAcs v.acts) (pPairs v.vals v.names) t) := by
 unfold A0_
 intro bx w h hF
 have hL := hi_ hv.lens
 have hs := hv.s
 have hEq : PS.form v (pExs v.args) (pExs v.vals) (pExs v.key) (pAcs v.acts) (pPairs v.vals v.names) t = ((pAcs v.acts ((t.must (siteB v t.name t.deeds)).deed.put [100, 111])).must (bareB v false false false false true)) := by
  unfold PS.form
  rw [if_neg (by omega), if_pos (by omega)]

 rw [hEq] at hF ⊢
 clear hEq
 have f4 : FitP (pAcs v.acts ((t.must (siteB v t.name t.deeds)).deed.put [100, 111])) := hF
 have f3 : FitP ((t.must (siteB v t.name t.deeds)).deed.put [100, 111]) := FitP.acs hv.acts f4
 have f1 : FitP (t.must (siteB v t.name t.deeds)) := show FitP (t.must (siteB v t.name t.deeds)).deed from f3.put
 obtain ⟨p3, hp3⟩ : ∃ p, p = w.heap.size := ⟨_, rfl⟩
 obtain ⟨S2, hS2⟩ : ∃ S, S = w.alloc ((O0_ v q)) := ⟨_, rfl⟩
 have k2 : PK w0 B b t ((p3, (O0_ v q)) :: bx) S2 := by rw [hS2, hp3]; exact h.alloc _
 have hW2 : Hid (S2 = _) := hS2
 replace hp3 := hi_ hp3
 replace h := hi_ h
 clear hS2
 obtain ⟨p4, hp4⟩ : ∃ p, p = S2.heap.size := ⟨_, rfl⟩
 obtain ⟨S3, hS3⟩ : ∃ S, S = S2.alloc (.cells A4_ 50) := ⟨_, rfl⟩
 have k3 : PK w0 B b t ((p4, O4_) :: ((p3, (O0_ v q)) :: bx)) S3 := by rw [hS3, hp4]; exact k2.alloc _
 have hst := row_store (k3.box M0_) (cs := q.arr v) sizeEx_info rfl (q.one v)
 have k4 : PK w0 B b t ((p4, (O0_ v q)) :: ((p3, (O0_ v q)) :: bx)) (S3.setRow p4 (q.arr v)) := k3.row (q.arr v)
 obtain ⟨S4, hS4⟩ : ∃ S, S = S3.setRow p4 (q.arr v) := ⟨_, rfl⟩
 rw [← hS4] at k4 hst
 have hl2 := hi_ (row_load (k2.box M0_) Tryz.underlying50 rfl sizeEx_info)
 obtain ⟨g0, -⟩ := c10_ (k4.box M0_)
 have g1 : S4.frozen? ⟨p4, 0, none⟩ = false := fz_ (k4.box M0_)
 obtain ⟨S5, hS5⟩ : ∃ S, S = S4.setCell ⟨p4, 0, none⟩ (.int .u8 0) := ⟨_, rfl⟩
 have k5 : PK w0 B b t ((p4, (O32_ v q)) :: ((p3, (O0_ v q)) :: bx)) S5 := by rw [hS5]; exact k4.set 0 _
 have hW3 : Hid (S3 = _) := hS3
 have hW5 : Hid (S5 = _) := hS5
 replace hp4 := hi_ hp4
 replace hst := hi_ hst
 replace k2 := hi_ k2
 replace k3 := hi_ k3
 replace k4 := hi_ k4
 clear hS3 hS4 hS5
 have cS := hi_ (fun W ok (hW : PK w0 B b t ((p4, (O32_ v q)) :: ((p3, (O0_ v q)) :: bx)) W) (e : ok = (siteB v t.name t.deeds)) => must_asP w0 B b t (siteB v t.name t.deeds) _ ok W hW e f1)
 have c3 := hi_ (fun W hW => put_P w0 B b (t.must (siteB v t.name t.deeds)).deed [100, 111] ((p4, (O32_ v q)) :: ((p3, (O0_ v q)) :: bx)) W hW f3)
 have c4 := hi_ (fun W hW => hC _ _ q.actsc ((t.must (siteB v t.name t.deeds)).deed.put [100, 111]) hv.acts ((p4, (O32_ v q)) :: ((p3, (O0_ v q)) :: bx)) W hW f4)
 have cM := hi_ (fun W ok (hW : PK w0 B b (pAcs v.acts ((t.must (siteB v t.name t.deeds)).deed.put [100, 111])) ((p4, (O38_ v q)) :: ((p3, (O0_ v q)) :: bx)) W) (e : ok = (bareB v false false false false true)) => must_asP w0 B b (pAcs v.acts ((t.must (siteB v t.name t.deeds)).deed.put [100, 111])) (bareB v false false false false true) _ ok W hW e f4)
 have hst9 := hv.site
 clear f1 f3 f4
 have hv' := hi_ hv
 replace he := hi_ he
 replace hs := hi_ hs
 clear hF hv
 go_enter Tryz.func61, Tryz.ntmps61
 go_wp2_with (first | (rw [← hW2.out]) | (rw [← hp3.out]) | (rw [← hW3.out]) | (rw [← hW5.out]) | (rw [← hp4.out]) | (refine ld_arm hl2.out rfl _ rfl rfl ?_) | (refine st_arm hst.out rfl _ _ rfl rfl rfl ?_))
 go_step3
 go_wp2_with (first | (rw [← hW2.out]) | (rw [← hp3.out]) | (rw [← hW3.out]) | (rw [← hW5.out]) | (rw [← hp4.out]) | (refine ld_arm hl2.out rfl _ rfl rfl ?_) | (refine st_arm hst.out rfl _ _ rfl rfl rfl ?_))
 go_step3
 obtain ⟨x0, -⟩ := c10_ (k5.box M1_)
 rw [he.out] at x0
 obtain ⟨_, _, _, hb, _, _, _, _, hd, hnm⟩ := PK.cells k5
 have hlt := k5.lt
 have hYb := k5.box M1_
 have hYl := (k5.boxlt M1_).1
 have n0 : ∀ d : LowW S5, d.w.cell? ⟨b, 4, none⟩ = some (.string t.name) := fun d => (d.cell hlt).trans (by simp [World.cell?, hb])
 have d0 : ∀ d : LowW S5, d.w.cell? ⟨b, 5, none⟩ = some (.int .i64 t.deeds) := fun d => (d.cell hlt).trans (by simp [World.cell?, hb])
 obtain ⟨-, -, -, -, -, -, -, -, -, s0⟩ := l10_ hYl hYb
 have hd9 := n64 (show (Lit.int .i64 t.deeds).wf = true from hd)
 have hnm9 : t.name.size ≤ 140737488355328 := hnm
 have hil := itoa_len t.deeds hd
 have hzs : (bs (Lib.itoa t.deeds)).size ≤ 21 := by rw [bs_size]; exact hil
 have cD := hi_ (fun d : LowW S5 => (Tryz.strconv_Itoa t.deeds hd9.1 hd9.2 d.w (k5.below d.low).envw.2.2).mono fun e w' h => (⟨h.1, by obtain ⟨_, k, os, hw⟩ := h; exact d.more (hw ▸ Lx.below_grow d.w k os)⟩ : e = .returned (.string (bs (Lib.itoa t.deeds))) ∧ ∃ d' : LowW S5, w' = d'.w))
 have cM3 := hi_ (fun (d : LowW S5) ok => cS.out d.w ok (k5.below d.low))
 obtain ⟨Z, hZ⟩ : ∃ Z, Z = bs (Lib.itoa t.deeds) := ⟨_, rfl⟩
 rw [← hZ] at cD hzs
 have hse := hi_ (site_eq v.site t.name t.deeds)
 rw [← hZ] at hse
 replace hZ := hi_ hZ
 replace k5 := hi_ k5
 clear hb hYb hd hnm hd9 hil
 go_wp2_with fail
 refine wp_region_low_last 15 rfl rfl (by kernel_rfl) (by kernel_rfl) (by kernel_rfl) ?_
 simp only [List.take_succ_cons, List.take_zero]
 repeat (go_big_quiet_step (first | (go_at_call 92; exact cD.out _)))
 refine wpQuiet_nil ?_
 rintro _ ⟨d, rfl⟩ K hKK
 go_simp
 go_at_call 51
 refine (cM3.out d _ (by rw [siteB]; exact hse.out)).mono ?_
 first | rintro e w3 rfl h3 | rintro e w3 ⟨rfl, h3⟩
 refine hKK.out _ _ ?_
 clear hKK K n0 d0 s0 x0 g0 g1
 obtain ⟨_, _, _, hb, _, _, _, _, hd, hnm⟩ := PK.cells h3
 have d3 : w3.cell? ⟨b, 5, none⟩ = some (.int .i64 t.deeds) := by simp [World.cell?, hb]; rfl
 have f3 : w3.frozen? ⟨b, 5, none⟩ = false := fz_ hb
 have hD := deed_KP h3
 rw [show IntKind.i64.wrap ((t.must (siteB v t.name t.deeds)).deeds + 1) = wrap64 (t.deeds + 1) from wrap_is _] at hD
 obtain ⟨W5, hW5'⟩ : ∃ W5, W5 = w3.setCell ⟨b, 5, none⟩ (.int .i64 (wrap64 (t.deeds + 1))) := ⟨_, rfl⟩
 have h5 : PK w0 B b (t.must (siteB v t.name t.deeds)).deed ((p4, (O32_ v q)) :: ((p3, (O0_ v q)) :: bx)) W5 := by rw [hW5']; exact hD
 have hQ5 : Hid (W5 = _) := hW5'
 clear hD hW5' hb hd hnm
 replace h3 := hi_ h3
 replace h5 := hi_ h5
 go_wp2_with (first | (rw [← hQ5.out]) | (go_at_call 27; refine (c3.out W5 h5.out).mono ?_))
 first | rintro e w6 rfl h6 | rintro e w6 ⟨rfl, h6⟩
 clear d3 f3
 obtain ⟨-, -, -, -, -, -, -, -, x8, -⟩ := c10_ (h6.box M1_)
 replace h6 := hi_ h6
 go_wp2_with (go_at_call 86; refine (c4.out w6 h6.out).mono ?_)
 first | rintro e w7 rfl h7 | rintro e w7 ⟨rfl, h7⟩
 clear x8
 obtain ⟨-, -, -, -, -, -, -, -, -, ga0⟩ := c10_ (h7.box M0_)
 have gb0 : w7.frozen? ⟨p4, 9, none⟩ = false := fz_ (h7.box M0_)
 obtain ⟨R0, hR0⟩ : ∃ S, S = w7.setCell ⟨p4, 9, none⟩ (.string ⟨#[]⟩) := ⟨_, rfl⟩
 have hr0 : PK w0 B b (pAcs v.acts ((t.must (siteB v t.name t.deeds)).deed.put [100, 111])) ((p4, (O39_ v q)) :: ((p3, (O0_ v q)) :: bx)) R0 := by rw [hR0]; exact h7.set 9 _
 have hQ0 : Hid (R0 = _) := hR0
 replace h7 := hi_ h7
 clear hR0
 obtain ⟨-, -, -, -, -, -, -, -, ga1, -⟩ := c10_ (hr0.box M0_)
 have gb1 : R0.frozen? ⟨p4, 8, none⟩ = false := fz_ (hr0.box M0_)
 obtain ⟨R1, hR1⟩ : ∃ S, S = R0.setCell ⟨p4, 8, none⟩ (.slice none 0 0) := ⟨_, rfl⟩
 have hr1 : PK w0 B b (pAcs v.acts ((t.must (siteB v t.name t.deeds)).deed.put [100, 111])) ((p4, (O38_ v q)) :: ((p3, (O0_ v q)) :: bx)) R1 := by rw [hR1]; exact hr0.set 8 _
 have hQ1 : Hid (R1 = _) := hR1
 replace hr0 := hi_ hr0
 clear hR1
 have hI := rest_is v q hL.out false false false true
 simp only [Bool.false_eq_true, if_true, if_false] at hI
 have cI := is_any 0 v.n v.s q.argsa q.namesa q.valsa q.keya none q.argsn q.argsc q.namesn q.namesc q.valsn q.valsc v.elem q.keyn q.keyc 0 0 ⟨#[]⟩ 0 0 ⟨#[]⟩ R1
 rw [hI] at cI
 replace cI := hi_ cI
 clear hI
 have hlr := hi_ (row_load (hr1.box M0_) Tryz.underlying50 rfl sizeEx_info)
 replace hr1 := hi_ hr1
 go_wp2_with (first | (rw [← hQ0.out]) | (rw [← hQ1.out]) | (refine ld_arm hlr.out rfl _ rfl rfl ?_) | (go_at_call 57; refine cI.out.mono ?_))
 first | rintro e wi rfl hbi | rintro e wi ⟨rfl, hbi⟩
 have hi := hi_ (hr1.out.below hbi)
 replace hbi := hi_ hbi
 clear ga0 gb0 ga1 gb1
 go_wp2_with (go_at_call 51; refine (cM.out _ _ hi.out rfl).mono ?_)
 first | rintro e wz rfl hz | rintro e wz ⟨rfl, hz⟩
 replace hz := hi_ hz.drop.drop
 go_wp2_with fail
 (try go_big_unhide)
 (try simp only [Exit.noGoto_normal])
 exact bodyPost_end (v := .tuple #[]) (results_none (by kernel_rfl) _ _ _) rfl ⟨rfl, hz.out⟩
theorem form_P (w0 : World) (B b : Nat) (v : Ex) (q : QEx) (t : PS) (hv : ExAt w0 B v q) (hA : ExsP w0 B b v.args) (hV : ExsP w0 B b v.vals) (hK : ExsP w0 B b v.key) (hC : AcsP w0 B b v.acts) (hP : PairsP w0 B b v) : DoesP w0 B b 61 #[.pointer (some ⟨b, 0, none⟩), .agg (A0_ v q)] t (PS.form v (pExs v.args) (pExs v.vals) (pExs v.key) (pAcs v.acts) (pPairs v.vals v.names) t) := by
 unfold A0_
 by_cases h6 : v.kind = 6
 ·exact formp6_P w0 B b v q t h6 hv hA hV hK hC hP
 by_cases h8 : v.kind = 8
 ·exact formp8_P w0 B b v q t h8 hv hA hV hK hC hP
 by_cases h9 : v.kind = 9
 ·exact formp9_P w0 B b v q t h9 hv hA hV hK hC hP
 by_cases h7 : v.kind = 7
 ·exact formp7_P w0 B b v q t h7 hv hA hV hK hC hP
 by_cases h10 : v.kind = 10
 ·exact formp10_P w0 B b v q t h10 hv hA hV hK hC hP
 by_cases h12 : v.kind = 12
 ·exact formp12_P w0 B b v q t h12 hv hA hV hK hC hP
 by_cases h11 : v.kind = 11
 ·exact formp11_P w0 B b v q t h11 hv hA hV hK hC hP
 by_cases h5 : v.kind = 5
 ·cases hk : keyP v.s
  ·exact formp5_P w0 B b v q t h5 hk hv hA hV hK hC hP
  ·exact formp5k_P w0 B b v q t h5 hk hv hA hV hK hC hP
 exact formp0_P w0 B b v q t ⟨h11, h12, h10, h7, h5, by rintro (h | h | h) <;> contradiction⟩ hv hA hV hK hC hP
end Go.Proofs.YtlppklbmdedipaaGreatDoor
