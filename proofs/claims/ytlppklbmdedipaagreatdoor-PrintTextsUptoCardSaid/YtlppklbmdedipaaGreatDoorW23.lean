/- PrintTexts, part 23. -/
import Derived.Test.YtlppklbmdedipaaGreatDoorW02
import Derived.Test.YtlppklbmdedipaaGreatDoorW22
import Derived.Test.YtlppklbmdedipaaGreatDoorW13
import Derived.WalkMore
import Derived.BigRegion
import Derived.Deep.CutBlock
namespace Go.Proofs.YtlppklbmdedipaaGreatDoor
open Go Go.RowKit
set_option maxHeartbeats 8000000
set_option maxRecDepth 100000
theorem none_is (v : Ex) (q : QEx) (h : ExLens v q) : isB v.kind v.n v.s q.argsn q.namesn q.valsn v.elem q.keyn q.actsn v.site 0 0 ⟨#[]⟩ = noneB v := by
 have he : ∀ s : ByteArray, (s = ⟨#[]⟩) = (s.size = 0) := fun s => by
  rw [← str_eq, show (⟨#[]⟩ : ByteArray).toList = [] from by rw [ByteArray.toList_eq], size_nil]
 unfold isB noneB bareB
 rw [h.args, h.names, h.vals, h.key, h.acts, Bool.eq_iff_iff]
 simp only [Bool.false_eq_true, Bool.and_eq_true, Bool.or_eq_true, decide_eq_true_eq, false_or, he]
 constructor <;> (intro h; simp_all only [and_self])
theorem none_P (v : Ex) (q : QEx) (w : World) (h : ExLens v q) :
  Calls Tryz.prog 57 #[.agg (A0_ v q), .agg A4_] w fun e w' => e = .returned (.bool (noneB v)) ∧ Below w.heap.size w w' := by
 unfold A0_ A4_
 have := is_any v.kind v.n v.s q.argsa q.namesa q.valsa q.keya q.actsa q.argsn q.argsc q.namesn q.namesc q.valsn q.valsc v.elem q.keyn q.keyc q.actsn q.actsc v.site 0 0 ⟨#[]⟩ w
 rw [none_is v q h] at this
 exact this
theorem act11_P (w0 : World) (B b : Nat) (v : Ac) (q : QAc) (t : PS) (p1 p3 : Nat) (bx : Bx) (w : World) (he : v.kind = 1) (hv : AcAt w0 B v q) (hE : ExP w0 B b v.expr)
  (m1 : (p1, (PB_ 35 b)) ∈ bx) (m3 : (p3, (O1_ v q.expr)) ∈ bx) (h : PK w0 B b t bx w) (hF : FitP ((pEx v.expr ((t.put w17_).plain v.name)))) :
  Calls Tryz.prog 87 #[.pointer (some ⟨p3, 0, none⟩), .pointer (some ⟨p1, 0, none⟩)] w fun e w' => e = .returned (.tuple #[]) ∧ PK w0 B b ((pEx v.expr ((t.put w17_).plain v.name))) bx w' := by
 have hs := hv.name
 have hx := hv.expr
 have f3 : FitP (pEx v.expr ((t.put w17_).plain v.name)) := hF
 have f2 : FitP ((t.put w17_).plain v.name) := FitP.ex hx f3
 have f1 : FitP (t.put w17_) := f2.plain
 have c1 := hi_ (fun W hW => put_P w0 B b t w17_ bx W hW f1)
 have c2 := hi_ (fun W hW => plain_P w0 B b (t.put w17_) v.name hs bx W hW f2)
 have cX := hi_ (fun W hW => hE _ ((t.put w17_).plain v.name) hx bx W hW f3)
 clear f1 f2 f3
 replace hs := hi_ hs
 clear hF hv
 go_enter Tryz.func87, Tryz.ntmps87
 obtain ⟨x0, -⟩ := c12_ (h.box m3)
 rw [he] at x0
 replace he := hi_ he
 have yp := c1_ (h.box m1)
 replace h := hi_ h
 go_wp2_with (go_at_call 27; refine (c1.out w h.out).mono ?_)
 first | rintro e w1 rfl h1 | rintro e w1 ⟨rfl, h1⟩
 clear x0 yp
 obtain ⟨-, x1, -⟩ := c12_ (h1.box m3)
 have yp := c1_ (h1.box m1)
 replace h1 := hi_ h1
 go_wp2_with (go_at_call 28; refine (c2.out w1 h1.out).mono ?_)
 first | rintro e w2 rfl h2 | rintro e w2 ⟨rfl, h2⟩
 clear x1 yp
 obtain ⟨-, -, x2, x3, x4, x5, x6, x7, x8, x9, x10, x11⟩ := c12_ (h2.box m3)
 have yp := c1_ (h2.box m1)
 replace h2 := hi_ h2
 go_wp2_with (go_at_call 32; refine (cX.out w2 h2.out).mono ?_)
 first | rintro e w3 rfl h3 | rintro e w3 ⟨rfl, h3⟩
 clear yp x2 x3 x4 x5 x6 x7 x8 x9 x10 x11
 replace h3 := hi_ h3
 go_wp2_with fail
 exact bodyPost_ret (v := .tuple #[]) (results_none (by kernel_rfl) _ _ _) rfl ⟨rfl, h3.out⟩
theorem act12_P (w0 : World) (B b : Nat) (v : Ac) (q : QAc) (t : PS) (p1 p3 : Nat) (bx : Bx) (w : World) (he : v.kind = 2) (hv : AcAt w0 B v q) (hE : ExP w0 B b v.expr)
  (m1 : (p1, (PB_ 35 b)) ∈ bx) (m3 : (p3, (O1_ v q.expr)) ∈ bx) (h : PK w0 B b t bx w) (hF : FitP ((pEx v.expr (t.put w18_)).must (decide (v.name.size = 0)))) :
  Calls Tryz.prog 87 #[.pointer (some ⟨p3, 0, none⟩), .pointer (some ⟨p1, 0, none⟩)] w fun e w' => e = .returned (.tuple #[]) ∧ PK w0 B b ((pEx v.expr (t.put w18_)).must (decide (v.name.size = 0))) bx w' := by
 have hs := hv.name
 have hx := hv.expr
 have f2 : FitP (pEx v.expr (t.put w18_)) := hF
 have f1 : FitP (t.put w18_) := FitP.ex hx f2
 have c1 := hi_ (fun W hW => put_P w0 B b t w18_ bx W hW f1)
 have cX := hi_ (fun W hW => hE _ (t.put w18_) hx bx W hW f2)
 have cM := hi_ (fun W ok (hW : PK w0 B b (pEx v.expr (t.put w18_)) bx W) (e : ok = (decide (v.name.size = 0))) => must_asP w0 B b (pEx v.expr (t.put w18_)) (decide (v.name.size = 0)) bx ok W hW e f2)
 clear f1 f2
 replace hs := hi_ hs
 clear hF hv
 go_enter Tryz.func87, Tryz.ntmps87
 obtain ⟨x0, -⟩ := c12_ (h.box m3)
 rw [he] at x0
 replace he := hi_ he
 have yp := c1_ (h.box m1)
 replace h := hi_ h
 go_wp2_with (go_at_call 27; refine (c1.out w h.out).mono ?_)
 first | rintro e w1 rfl h1 | rintro e w1 ⟨rfl, h1⟩
 clear x0 yp
 obtain ⟨-, -, x2, x3, x4, x5, x6, x7, x8, x9, x10, x11⟩ := c12_ (h1.box m3)
 have yp := c1_ (h1.box m1)
 replace h1 := hi_ h1
 go_wp2_with (go_at_call 32; refine (cX.out w1 h1.out).mono ?_)
 first | rintro e w2 rfl h2 | rintro e w2 ⟨rfl, h2⟩
 clear yp x2 x3 x4 x5 x6 x7 x8 x9 x10 x11
 obtain ⟨-, x1, -⟩ := c12_ (h2.box m3)
 have yp := c1_ (h2.box m1)
 replace h2 := hi_ h2
 go_wp2_with (go_at_call 51; refine (cM.out _ _ h2.out (by (first | rw [size_beq] | rw [size_emp] | simp [size_nil]))).mono ?_)
 first | rintro e wz rfl hz | rintro e wz ⟨rfl, hz⟩
 replace hz := hi_ hz
 go_wp2_with fail
 exact bodyPost_end (v := .tuple #[]) (results_none (by kernel_rfl) _ _ _) rfl ⟨rfl, hz.out⟩
theorem act13_P (w0 : World) (B b : Nat) (v : Ac) (q : QAc) (t : PS) (p1 p3 : Nat) (bx : Bx) (w : World) (he : v.kind = 3) (hv : AcAt w0 B v q) (hE : ExP w0 B b v.expr)
  (m1 : (p1, (PB_ 35 b)) ∈ bx) (m3 : (p3, (O1_ v q.expr)) ∈ bx) (h : PK w0 B b t bx w) (hF : FitP ((pEx v.expr (t.put w19_)).must (decide (v.name.size = 0)))) :
  Calls Tryz.prog 87 #[.pointer (some ⟨p3, 0, none⟩), .pointer (some ⟨p1, 0, none⟩)] w fun e w' => e = .returned (.tuple #[]) ∧ PK w0 B b ((pEx v.expr (t.put w19_)).must (decide (v.name.size = 0))) bx w' := by
 have hs := hv.name
 have hx := hv.expr
 have f2 : FitP (pEx v.expr (t.put w19_)) := hF
 have f1 : FitP (t.put w19_) := FitP.ex hx f2
 have c1 := hi_ (fun W hW => put_P w0 B b t w19_ bx W hW f1)
 have cX := hi_ (fun W hW => hE _ (t.put w19_) hx bx W hW f2)
 have cM := hi_ (fun W ok (hW : PK w0 B b (pEx v.expr (t.put w19_)) bx W) (e : ok = (decide (v.name.size = 0))) => must_asP w0 B b (pEx v.expr (t.put w19_)) (decide (v.name.size = 0)) bx ok W hW e f2)
 clear f1 f2
 replace hs := hi_ hs
 clear hF hv
 go_enter Tryz.func87, Tryz.ntmps87
 obtain ⟨x0, -⟩ := c12_ (h.box m3)
 rw [he] at x0
 replace he := hi_ he
 have yp := c1_ (h.box m1)
 replace h := hi_ h
 go_wp2_with (go_at_call 27; refine (c1.out w h.out).mono ?_)
 first | rintro e w1 rfl h1 | rintro e w1 ⟨rfl, h1⟩
 clear x0 yp
 obtain ⟨-, -, x2, x3, x4, x5, x6, x7, x8, x9, x10, x11⟩ := c12_ (h1.box m3)
 have yp := c1_ (h1.box m1)
 replace h1 := hi_ h1
 go_wp2_with (go_at_call 32; refine (cX.out w1 h1.out).mono ?_)
 first | rintro e w2 rfl h2 | rintro e w2 ⟨rfl, h2⟩
 clear yp x2 x3 x4 x5 x6 x7 x8 x9 x10 x11
 obtain ⟨-, x1, -⟩ := c12_ (h2.box m3)
 have yp := c1_ (h2.box m1)
 replace h2 := hi_ h2
 go_wp2_with (go_at_call 51; refine (cM.out _ _ h2.out (by (first | rw [size_beq] | rw [size_emp] | simp [size_nil]))).mono ?_)
 first | rintro e wz rfl hz | rintro e wz ⟨rfl, hz⟩
 replace hz := hi_ hz
 go_wp2_with fail
 exact bodyPost_end (v := .tuple #[]) (results_none (by kernel_rfl) _ _ _) rfl ⟨rfl, hz.out⟩
theorem act14_P (w0 : World) (B b : Nat) (v : Ac) (q : QAc) (t : PS) (p1 p3 : Nat) (bx : Bx) (w : World) (he : v.kind = 4) (hv : AcAt w0 B v q) 
  (m1 : (p1, (PB_ 35 b)) ∈ bx) (m3 : (p3, (O1_ v q.expr)) ∈ bx) (h : PK w0 B b t bx w) (hF : FitP (((t.put w20_).must (decide (v.kind = 4) && noneB v.expr)).must (decide (v.name.size = 0)))) :
  Calls Tryz.prog 87 #[.pointer (some ⟨p3, 0, none⟩), .pointer (some ⟨p1, 0, none⟩)] w fun e w' => e = .returned (.tuple #[]) ∧ PK w0 B b (((t.put w20_).must (decide (v.kind = 4) && noneB v.expr)).must (decide (v.name.size = 0))) bx w' := by
 have hs := hv.name
 have hx := hv.expr
 have f2 : FitP ((t.put w20_).must (decide (v.kind = 4) && noneB v.expr)) := hF
 have f1 : FitP (t.put w20_) := f2
 have c1 := hi_ (fun W hW => put_P w0 B b t w20_ bx W hW f1)
 have c2 := hi_ (fun W ok (hW : PK w0 B b (t.put w20_) bx W) (e : ok = (decide (v.kind = 4) && noneB v.expr)) => must_asP w0 B b (t.put w20_) (decide (v.kind = 4) && noneB v.expr) bx ok W hW e f2)
 have cM := hi_ (fun W ok (hW : PK w0 B b ((t.put w20_).must (decide (v.kind = 4) && noneB v.expr)) bx W) (e : ok = (decide (v.name.size = 0))) => must_asP w0 B b ((t.put w20_).must (decide (v.kind = 4) && noneB v.expr)) (decide (v.name.size = 0)) bx ok W hW e f2)
 clear f1 f2
 replace hs := hi_ hs
 clear hF hv
 go_enter Tryz.func87, Tryz.ntmps87
 obtain ⟨x0, -⟩ := c12_ (h.box m3)
 rw [he] at x0
 replace he := hi_ he
 have yp := c1_ (h.box m1)
 replace h := hi_ h
 go_wp2_with (go_at_call 27; refine (c1.out w h.out).mono ?_)
 first | rintro e w1 rfl h1 | rintro e w1 ⟨rfl, h1⟩
 clear x0 yp
 have l3 := (h1.boxlt m3).1
 have hb3 := h1.box m3
 have l1 := (h1.boxlt m1).1
 have yp := l1_ l1 (h1.box m1)
 have y0 : ∀ d : LowW w1, d.w.cell? ⟨p3, 0, none⟩ = some (.int .u8 4) := fun d => (d.cell l3).trans (by rw [← he.out]; simp [World.cell?, hb3])
 obtain ⟨-, y1, y2, y3, y4, y5, y6, y7, y8, y9, y10, y11⟩ := l12_ l3 hb3
 have cI := hi_ (fun d : LowW w1 => ((none_P v.expr q.expr d.w hx.lens).mono fun e w' k => ⟨k.1, d.more k.2⟩ : Calls Tryz.prog 57 #[.agg (A0_ v.expr q.expr), .agg A4_] d.w fun e w' => e = .returned (.bool (noneB v.expr)) ∧ ∃ d' : LowW w1, w' = d'.w))
 have c2d := hi_ (fun (d : LowW w1) ok => c2.out d.w ok (h1.below d.low))
 replace h1 := hi_ h1
 clear hb3
 go_wp2_with fail
 refine wp_region_low_last 10 rfl rfl (by kernel_rfl) (by kernel_rfl) (by kernel_rfl) ?_
 simp only [List.take_succ_cons, List.take_zero]
 repeat (go_big_quiet_step (first | (go_at_call 57; exact cI.out _)))
 refine wpQuiet_nil ?_
 rintro _ ⟨d, rfl⟩ K hKK
 go_simp
 go_at_call 51
 refine (c2d.out d _ (by simp [he.out])).mono ?_
 first | rintro e w2 rfl h2 | rintro e w2 ⟨rfl, h2⟩
 refine hKK.out _ _ ?_
 clear hKK K yp y0 y1 y2 y3 y4 y5 y6 y7 y8 y9 y10 y11
 obtain ⟨-, x1, -⟩ := c12_ (h2.box m3)
 have yp := c1_ (h2.box m1)
 replace h2 := hi_ h2
 go_wp2_with (go_at_call 51; refine (cM.out _ _ h2.out (by (first | rw [size_beq] | rw [size_emp] | simp [size_nil]))).mono ?_)
 first | rintro e wz rfl hz | rintro e wz ⟨rfl, hz⟩
 replace hz := hi_ hz
 go_wp2_with fail
 exact bodyPost_end (v := .tuple #[]) (results_none (by kernel_rfl) _ _ _) rfl ⟨rfl, hz.out⟩
theorem act10_P (w0 : World) (B b : Nat) (v : Ac) (q : QAc) (t : PS) (p1 p3 : Nat) (bx : Bx) (w : World) (he : ¬ v.kind = 1 ∧ ¬ v.kind = 2 ∧ ¬ v.kind = 3 ∧ ¬ v.kind = 4) (hv : AcAt w0 B v q) 
  (m1 : (p1, (PB_ 35 b)) ∈ bx) (m3 : (p3, (O1_ v q.expr)) ∈ bx) (h : PK w0 B b t bx w) (hF : FitP (((t.put w20_).must (decide (v.kind = 4) && noneB v.expr)).must (decide (v.name.size = 0)))) :
  Calls Tryz.prog 87 #[.pointer (some ⟨p3, 0, none⟩), .pointer (some ⟨p1, 0, none⟩)] w fun e w' => e = .returned (.tuple #[]) ∧ PK w0 B b (((t.put w20_).must (decide (v.kind = 4) && noneB v.expr)).must (decide (v.name.size = 0))) bx w' := by
 have hs := hv.name
 have hx := hv.expr
 have f2 : FitP ((t.put w20_).must (decide (v.kind = 4) && noneB v.expr)) := hF
 have f1 : FitP (t.put w20_) := f2
 have c1 := hi_ (fun W hW => put_P w0 B b t w20_ bx W hW f1)
 have c2 := hi_ (fun W ok (hW : PK w0 B b (t.put w20_) bx W) (e : ok = (decide (v.kind = 4) && noneB v.expr)) => must_asP w0 B b (t.put w20_) (decide (v.kind = 4) && noneB v.expr) bx ok W hW e f2)
 have cM := hi_ (fun W ok (hW : PK w0 B b ((t.put w20_).must (decide (v.kind = 4) && noneB v.expr)) bx W) (e : ok = (decide (v.name.size = 0))) => must_asP w0 B b ((t.put w20_).must (decide (v.kind = 4) && noneB v.expr)) (decide (v.name.size = 0)) bx ok W hW e f2)
 clear f1 f2
 replace hs := hi_ hs
 clear hF hv
 go_enter Tryz.func87, Tryz.ntmps87
 obtain ⟨x0, -⟩ := c12_ (h.box m3)
 obtain ⟨e1, e2, e3, e4⟩ := he
 have u1 : (v.kind == 1) = false := by simp [e1]
 have u2 : (v.kind == 2) = false := by simp [e2]
 have u3 : (v.kind == 3) = false := by simp [e3]
 have u4 : (v.kind == 4) = false := by simp [e4]
 replace e4 := hi_ e4
 clear e1 e2 e3
 have yp := c1_ (h.box m1)
 replace h := hi_ h
 go_wp2_with (go_at_call 27; refine (c1.out w h.out).mono ?_)
 first | rintro e w1 rfl h1 | rintro e w1 ⟨rfl, h1⟩
 clear x0 yp
 have l3 := (h1.boxlt m3).1
 have hb3 := h1.box m3
 have l1 := (h1.boxlt m1).1
 have yp := l1_ l1 (h1.box m1)
 obtain ⟨y0, -⟩ := l12_ l3 hb3
 have c2d := hi_ (fun (d : LowW w1) ok => c2.out d.w ok (h1.below d.low))
 replace h1 := hi_ h1
 clear hb3
 go_wp2_with fail
 refine wp_region_low_last 10 rfl rfl (by kernel_rfl) (by kernel_rfl) (by kernel_rfl) ?_
 simp only [List.take_succ_cons, List.take_zero]
 repeat (go_big_quiet_step (fail))
 refine wpQuiet_nil ?_
 rintro _ ⟨d, rfl⟩ K hKK
 go_simp
 go_at_call 51
 refine (c2d.out d _ (by simp [e4.out])).mono ?_
 first | rintro e w2 rfl h2 | rintro e w2 ⟨rfl, h2⟩
 refine hKK.out _ _ ?_
 clear hKK K yp y0 u1 u2 u3 u4
 obtain ⟨-, x1, -⟩ := c12_ (h2.box m3)
 have yp := c1_ (h2.box m1)
 replace h2 := hi_ h2
 go_wp2_with (go_at_call 51; refine (cM.out _ _ h2.out (by (first | rw [size_beq] | rw [size_emp] | simp [size_nil]))).mono ?_)
 first | rintro e wz rfl hz | rintro e wz ⟨rfl, hz⟩
 replace hz := hi_ hz
 go_wp2_with fail
 exact bodyPost_end (v := .tuple #[]) (results_none (by kernel_rfl) _ _ _) rfl ⟨rfl, hz.out⟩
theorem act_lo (v : Ac) (q : QAc) {w : World} {B : Nat} (hv : AcAt w B v q) (t : PS) : t.l.length ≤ ((fun t : PS => if v.kind = 1 then pEx v.expr ((t.put w17_).plain v.name) else if v.kind = 2 then (pEx v.expr (t.put w18_)).must (decide (v.name.size = 0)) else if v.kind = 3 then (pEx v.expr (t.put w19_)).must (decide (v.name.size = 0)) else ((t.put w20_).must (decide (v.kind = 4) && noneB v.expr)).must (decide (v.name.size = 0))) t).l.length := by
 have hE := fun u => (pEx_le v.expr hv.expr.ok u).lo
 have r := PS.Le.refl t
 dsimp only
 split
 ·exact Nat.le_trans ((r.put _).plain _).lo (hE _)
 split
 ·exact Nat.le_trans (r.put _).lo (hE _)
 split
 ·exact Nat.le_trans (r.put _).lo (hE _)
 ·exact (((r.put _).must _).must _).lo
theorem act_P (w0 : World) (B b : Nat) (v : Ac) (hE : ExP w0 B b v.expr) : AcP w0 B b v := by
 intro q t hv
 rw [pAc_eq]
 intro bx w h hF
 obtain ⟨F, hFe⟩ : ∃ F, F = (fun t : PS => if v.kind = 1 then pEx v.expr ((t.put w17_).plain v.name) else if v.kind = 2 then (pEx v.expr (t.put w18_)).must (decide (v.name.size = 0)) else if v.kind = 3 then (pEx v.expr (t.put w19_)).must (decide (v.name.size = 0)) else ((t.put w20_).must (decide (v.kind = 4) && noneB v.expr)).must (decide (v.name.size = 0))) := ⟨_, rfl⟩
 have hEq : PS.act v (pEx v.expr) t = PS.round F t := by rw [hFe]; rfl
 have hlo := act_lo v q hv t.open_
 rw [← hFe] at hlo
 rw [hEq] at hF ⊢
 clear hEq
 obtain ⟨p1, hp1⟩ : ∃ p, p = w.heap.size := ⟨_, rfl⟩
 obtain ⟨S1, hS1⟩ : ∃ S, S = w.alloc ((PB_ 35 b)) := ⟨_, rfl⟩
 have k1 : PK w0 B b t ((p1, (PB_ 35 b)) :: bx) S1 := by rw [hS1, hp1]; exact h.alloc _
 obtain ⟨p3, hp3⟩ : ∃ p, p = S1.heap.size := ⟨_, rfl⟩
 obtain ⟨S2, hS2⟩ : ∃ S, S = S1.alloc ((O1_ v q.expr)) := ⟨_, rfl⟩
 have k2 : PK w0 B b t (L2_ p3 p1 b (O1_ v q.expr) bx) S2 := by rw [hS2, hp3]; exact k1.alloc _
 have hW1 : Hid (S1 = _) := hS1
 have hW2 : Hid (S2 = _) := hS2
 replace hp1 := hi_ hp1
 replace hp3 := hi_ hp3
 replace h := hi_ h
 replace k1 := hi_ k1
 clear hS1 hS2
 have cR := hi_ (round_P w0 B b 87 #[.pointer (some ⟨p3, 0, none⟩), .pointer (some ⟨p1, 0, none⟩)] t F (L2_ p3 p1 b (O1_ v q.expr) bx) S2 (enters_of Tryz.func87 (by kernel_rfl) rfl) hlo
  (fun W hW => by
   have hfi : FitP (F t.open_) := Nat.le_trans (Nat.le_succ _) hF.round
   rw [hFe] at hfi ⊢
   dsimp only at hfi ⊢
   by_cases h1 : v.kind = 1
   ·rw [if_pos h1] at hfi ⊢
    exact act11_P w0 B b v q _ p1 p3 _ W h1 hv hE M1_ M0_ hW hfi
   rw [if_neg h1] at hfi ⊢
   by_cases h2 : v.kind = 2
   ·rw [if_pos h2] at hfi ⊢
    exact act12_P w0 B b v q _ p1 p3 _ W h2 hv hE M1_ M0_ hW hfi
   rw [if_neg h2] at hfi ⊢
   by_cases h3 : v.kind = 3
   ·rw [if_pos h3] at hfi ⊢
    exact act13_P w0 B b v q _ p1 p3 _ W h3 hv hE M1_ M0_ hW hfi
   rw [if_neg h3] at hfi ⊢
   by_cases h4 : v.kind = 4
   ·exact act14_P w0 B b v q _ p1 p3 _ W h4 hv M1_ M0_ hW hfi
   exact act10_P w0 B b v q _ p1 p3 _ W ⟨h1, h2, h3, h4⟩ hv M1_ M0_ hW hfi) k2 hF)
 have x11 := c1_ (k2.box M1_)
 replace k2 := hi_ k2
 clear hF hv hlo
 go_enter Tryz.func56, Tryz.ntmps56
 go_wp2_with (first | (rw [← hW1.out]) | (rw [← hW2.out]) | (rw [← hp1.out]) | (rw [← hp3.out]) | (go_at_call 25; refine cR.out.mono ?_))
 first | rintro e w1 rfl h1 | rintro e w1 ⟨rfl, h1⟩
 replace h1 := hi_ h1.drop.drop
 go_wp2_with fail
 exact bodyPost_end (v := .tuple #[]) (results_none (by kernel_rfl) _ _ _) rfl ⟨rfl, h1.out⟩
theorem ex_P (w0 : World) (B b : Nat) (v : Ex) : ExP w0 B b v :=
 Ex.both (Q := AcP w0 B b) (fun v h1 h2 h3 h4 q t hv => by
  rw [pEx_eq]
  exact expr_P w0 B b v q t hv (Exs_P w0 B b _ h1) (Exs_P w0 B b _ h2) (Exs_P w0 B b _ h3) (Acs_P w0 B b _ h4) (pairs_P w0 B b v h2)) (fun v h => act_P w0 B b v h) v
theorem exs_P (w0 : World) (B b : Nat) (L : List Ex) : ExsP w0 B b L := Exs_P w0 B b L fun v _ => ex_P w0 B b v
theorem acs_P (w0 : World) (B b : Nat) (L : List Ac) : AcsP w0 B b L := Acs_P w0 B b L fun v _ => act_P w0 B b v (ex_P w0 B b _)
theorem mid_store {W : World} {g o : Nat} {T t : TypeId} {old cs : Array Value} (hg : W.heap[g]? = some (.cells old t (0, 0))) (hi : (Tryz.prog.info? T).map (·.size) = some cs.size) (ho : o + cs.size ≤ old.size) (h1 : cs.all (·.oneCell') = true) :
  (Instr.storeAt T (.pointer (some ⟨g, o, none⟩)) (.agg cs)).run Tryz.prog W = .ok () (W.setRow g (old.toList.take o ++ cs.toList ++ old.toList.drop (o + cs.size)).toArray) := by
 have hst := run_storeCells_at Tryz.prog g o t cs.toList 0 old W hg (by simpa using ho) (fun v hv => (Array.all_eq_true_iff_forall_mem.1 h1) v (by simpa using hv))
 cases hq : Tryz.prog.info? T with
 | none => simp [hq] at hi
 | some i =>
  have hs : cs.size = i.size := by simp [hq] at hi; omega
  simp only [Nat.add_zero, Array.length_toList] at hst
  simp only [Instr.storeAt, Instr.sureAddr, Sem.run_bind, Sem.run_pure, Result.andThen_ok]
  simp [storeVar, sizeOf, typeInfo, hq, Value.cells, hs]
  rw [← hs, ← List.append_assoc]
  exact hst
theorem listEx1_P (w0 : World) (B b : Nat) (L : List Ex) (a : Option Addr) (n c : Nat) (t : PS) (p1 p2 : Nat) (bx : Bx) (w : World) (hL : ExLs w0 B L a n)
  (m1 : (p1, .cells #[.slice a n c] 45 (0, 0)) ∈ bx) (m2 : (p2, .cells #[(.func (.func 32) #[.pointer (some ⟨b, 0, none⟩)] #[])] 64 (0, 0)) ∈ bx) (h : PK w0 B b t bx w) (hF : FitP (pExs L t)) :
  Calls Tryz.prog 83 #[.pointer (some ⟨p1, 0, none⟩), .pointer (some ⟨p2, 0, none⟩)] w fun e w' => e = .returned (.tuple #[]) ∧ PK w0 B b (pExs L t) bx w' := by
 have c1 := hi_ (exs_P w0 B b L a n c t hL bx w h hF)
 have x1 := c1_ (h.box m1)
 have x2 := c1_ (h.box m2)
 replace h := hi_ h
 clear hF hL
 go_enter Tryz.func83, Tryz.ntmps83
 go_wp2_with (go_at_call 84; refine c1.out.mono ?_)
 first | rintro e w9 rfl h9 | rintro e w9 ⟨rfl, h9⟩
 replace h9 := hi_ h9
 go_wp2_with fail
 exact bodyPost_end (v := .tuple #[]) (results_none (by kernel_rfl) _ _ _) rfl ⟨rfl, h9.out⟩
theorem listEx_P (w0 : World) (B b : Nat) (L : List Ex) (a : Option Addr) (n c : Nat) (t : PS) (hL : ExLs w0 B L a n) : DoesP w0 B b 54 #[.pointer (some ⟨b, 0, none⟩), .slice a n c, (.func (.func 32) #[.pointer (some ⟨b, 0, none⟩)] #[])] t (PS.round (pExs L) t) := by
 intro bx w h hF
 have hlo : t.open_.l.length ≤ (pExs L t.open_).l.length := (pExs_le L (fun v _ => pEx_le v) hL.oks _).lo
 obtain ⟨p1, hp1⟩ : ∃ p, p = w.heap.size := ⟨_, rfl⟩
 obtain ⟨S1, hS1⟩ : ∃ S, S = w.alloc (.cells #[.slice a n c] 45) := ⟨_, rfl⟩
 have k1 : PK w0 B b t ((p1, .cells #[.slice a n c] 45 (0, 0)) :: bx) S1 := by rw [hS1, hp1]; exact h.alloc _
 obtain ⟨p2, hp2⟩ : ∃ p, p = S1.heap.size := ⟨_, rfl⟩
 obtain ⟨S2, hS2⟩ : ∃ S, S = S1.alloc (.cells #[(.func (.func 32) #[.pointer (some ⟨b, 0, none⟩)] #[])] 64) := ⟨_, rfl⟩
 have k2 : PK w0 B b t ((p2, .cells #[(.func (.func 32) #[.pointer (some ⟨b, 0, none⟩)] #[])] 64 (0, 0)) :: (p1, .cells #[.slice a n c] 45 (0, 0)) :: bx) S2 := by rw [hS2, hp2]; exact k1.alloc _
 have cR := hi_ (round_P w0 B b 83 #[.pointer (some ⟨p1, 0, none⟩), .pointer (some ⟨p2, 0, none⟩)] t (pExs L) _ S2 (enters_of Tryz.func83 (by kernel_rfl) rfl) hlo
  (fun W hW => listEx1_P w0 B b L a n c _ p1 p2 _ W hL M1_ M0_ hW (Nat.le_trans (Nat.le_succ _) hF.round)) k2 hF)
 have hW1 : Hid (S1 = _) := hS1
 have hW2 : Hid (S2 = _) := hS2
 replace hp1 := hi_ hp1
 replace hp2 := hi_ hp2
 replace h := hi_ h
 replace k1 := hi_ k1
 replace k2 := hi_ k2
 clear hS1 hS2 hF hL hlo
 go_enter Tryz.func54, Tryz.ntmps54
 go_wp2_with (first | (rw [← hW1.out]) | (rw [← hW2.out]) | (rw [← hp1.out]) | (rw [← hp2.out]) | (go_at_call 25; refine cR.out.mono ?_))
 first | rintro e w9 rfl h9 | rintro e w9 ⟨rfl, h9⟩
 replace h9 := hi_ h9.drop.drop
 go_wp2_with fail
 exact bodyPost_end (v := .tuple #[]) (results_none (by kernel_rfl) _ _ _) rfl ⟨rfl, h9.out⟩
theorem listAc1_P (w0 : World) (B b : Nat) (L : List Ac) (a : Option Addr) (n c : Nat) (t : PS) (p1 p2 : Nat) (bx : Bx) (w : World) (hL : AcLs w0 B L a n)
  (m1 : (p1, .cells #[.slice a n c] 48 (0, 0)) ∈ bx) (m2 : (p2, .cells #[(.func (.func 56) #[.pointer (some ⟨b, 0, none⟩)] #[])] 102 (0, 0)) ∈ bx) (h : PK w0 B b t bx w) (hF : FitP (pAcs L t)) :
  Calls Tryz.prog 85 #[.pointer (some ⟨p1, 0, none⟩), .pointer (some ⟨p2, 0, none⟩)] w fun e w' => e = .returned (.tuple #[]) ∧ PK w0 B b (pAcs L t) bx w' := by
 have c1 := hi_ (acs_P w0 B b L a n c t hL bx w h hF)
 have x1 := c1_ (h.box m1)
 have x2 := c1_ (h.box m2)
 replace h := hi_ h
 clear hF hL
 go_enter Tryz.func85, Tryz.ntmps85
 go_wp2_with (go_at_call 86; refine c1.out.mono ?_)
 first | rintro e w9 rfl h9 | rintro e w9 ⟨rfl, h9⟩
 replace h9 := hi_ h9
 go_wp2_with fail
 exact bodyPost_end (v := .tuple #[]) (results_none (by kernel_rfl) _ _ _) rfl ⟨rfl, h9.out⟩
theorem listAc_P (w0 : World) (B b : Nat) (L : List Ac) (a : Option Addr) (n c : Nat) (t : PS) (hL : AcLs w0 B L a n) : DoesP w0 B b 55 #[.pointer (some ⟨b, 0, none⟩), .slice a n c, (.func (.func 56) #[.pointer (some ⟨b, 0, none⟩)] #[])] t (PS.round (pAcs L) t) := by
 intro bx w h hF
 have hlo : t.open_.l.length ≤ (pAcs L t.open_).l.length := (pAcs_le L (fun v _ => pAc_le v) hL.oks _).lo
 obtain ⟨p1, hp1⟩ : ∃ p, p = w.heap.size := ⟨_, rfl⟩
 obtain ⟨S1, hS1⟩ : ∃ S, S = w.alloc (.cells #[.slice a n c] 48) := ⟨_, rfl⟩
 have k1 : PK w0 B b t ((p1, .cells #[.slice a n c] 48 (0, 0)) :: bx) S1 := by rw [hS1, hp1]; exact h.alloc _
 obtain ⟨p2, hp2⟩ : ∃ p, p = S1.heap.size := ⟨_, rfl⟩
 obtain ⟨S2, hS2⟩ : ∃ S, S = S1.alloc (.cells #[(.func (.func 56) #[.pointer (some ⟨b, 0, none⟩)] #[])] 102) := ⟨_, rfl⟩
 have k2 : PK w0 B b t ((p2, .cells #[(.func (.func 56) #[.pointer (some ⟨b, 0, none⟩)] #[])] 102 (0, 0)) :: (p1, .cells #[.slice a n c] 48 (0, 0)) :: bx) S2 := by rw [hS2, hp2]; exact k1.alloc _
 have cR := hi_ (round_P w0 B b 85 #[.pointer (some ⟨p1, 0, none⟩), .pointer (some ⟨p2, 0, none⟩)] t (pAcs L) _ S2 (enters_of Tryz.func85 (by kernel_rfl) rfl) hlo
  (fun W hW => listAc1_P w0 B b L a n c _ p1 p2 _ W hL M1_ M0_ hW (Nat.le_trans (Nat.le_succ _) hF.round)) k2 hF)
 have hW1 : Hid (S1 = _) := hS1
 have hW2 : Hid (S2 = _) := hS2
 replace hp1 := hi_ hp1
 replace hp2 := hi_ hp2
 replace h := hi_ h
 replace k1 := hi_ k1
 replace k2 := hi_ k2
 clear hS1 hS2 hF hL hlo
 go_enter Tryz.func55, Tryz.ntmps55
 go_wp2_with (first | (rw [← hW1.out]) | (rw [← hW2.out]) | (rw [← hp1.out]) | (rw [← hp2.out]) | (go_at_call 25; refine cR.out.mono ?_))
 first | rintro e w9 rfl h9 | rintro e w9 ⟨rfl, h9⟩
 replace h9 := hi_ h9.drop.drop
 go_wp2_with fail
 exact bodyPost_end (v := .tuple #[]) (results_none (by kernel_rfl) _ _ _) rfl ⟨rfl, h9.out⟩
end Go.Proofs.YtlppklbmdedipaaGreatDoor

namespace Go.Proofs.YtlppklbmdedipaaGreatDoor
open Go
set_option maxHeartbeats 8000000
set_option maxRecDepth 100000
variable {md : Region.Mode} {ops : Array Oper} {last : Nat}
def edgeR (md : Region.Mode) (ops : Array Oper) (j i : Nat) : Bool := match ops[j]? with
 | none => false
 | some o => o.after.any fun e => Region.binds md e && e.on == i
def waitsF (md : Region.Mode) (ops : Array Oper) (last : Nat) : Bool := (List.range ops.size).all fun i => i == last || (List.range ops.size).any fun j => decide (i < j) && edgeR md ops j i
theorem reach_mono : ∀ (n j i : Nat), reachR md ops n j i = true → reachR md ops (n + 1) j i = true
 | 0, _, _, h => by cases h
 | n + 1, j, i, h => by
  rw [reachR] at h ⊢
  cases hj : ops[j]? with
  | none => rw [hj] at h; cases h
  | some o =>
   rw [hj] at h
   simp only [Array.any_eq_true, Bool.and_eq_true, Bool.or_eq_true] at h ⊢
   obtain ⟨k, hk, h1, h2⟩ := h
   exact ⟨k, hk, h1, h2.imp id (reach_mono n _ _)⟩
theorem reach_le {n m j i : Nat} (h : reachR md ops n j i = true) (hm : n ≤ m) : reachR md ops m j i = true := by
 induction hm with
 | refl => exact h
 | step _ ih => exact reach_mono _ _ _ ih
theorem reach_edge {j i : Nat} (h : edgeR md ops j i = true) : reachR md ops 1 j i = true := by
 rw [reachR]
 unfold edgeR at h
 cases hj : ops[j]? with
 | none => rw [hj] at h; cases h
 | some o =>
  rw [hj] at h
  simp only [Array.any_eq_true, Bool.and_eq_true, Bool.or_eq_true] at h ⊢
  obtain ⟨k, hk, h1, h2⟩ := h
  exact ⟨k, hk, h1, .inl h2⟩
theorem reach_ext : ∀ (n j k i : Nat), reachR md ops n j k = true → edgeR md ops k i = true → reachR md ops (n + 1) j i = true
 | 0, _, _, _, h, _ => by cases h
 | n + 1, j, k, i, h, he => by
  rw [reachR] at h ⊢
  cases hj : ops[j]? with
  | none => rw [hj] at h; cases h
  | some o =>
   rw [hj] at h
   simp only [Array.any_eq_true, Bool.and_eq_true, Bool.or_eq_true] at h ⊢
   obtain ⟨m, hm, h1, h2⟩ := h
   refine ⟨m, hm, h1, .inr ?_⟩
   rcases h2 with h2 | h2
   ·have e : o.after[m].on = k := by simpa using h2
    rw [e]
    exact reach_le (reach_edge he) (by omega)
   ·exact reach_ext n _ k i h2 he
theorem waits_of_F (hsz : ops.size = last + 1) (h : waitsF md ops last = true) : waitsR md ops last = true := by
 have key : ∀ d i, i + d = last → 0 < d → reachR md ops d last i = true := by
  intro d
  induction d using Nat.strongRecOn with
  | ind d ih =>
   intro i hi hd
   have h1 := List.all_eq_true.1 h i (List.mem_range.2 (by omega))
   simp only [Bool.or_eq_true, beq_iff_eq, show ¬ i = last by omega, false_or, List.any_eq_true, List.mem_range, Bool.and_eq_true, decide_eq_true_eq] at h1
   obtain ⟨j, hj, hij, he⟩ := h1
   by_cases e : j = last
   ·subst e
    exact reach_le (reach_edge he) (by omega)
   ·have := ih (last - j) (by omega) j (by omega) (by omega)
    exact reach_le (reach_ext _ _ _ _ this he) (by omega)
 unfold waitsR
 rw [List.all_eq_true]
 intro i hi
 have hi := List.mem_range.1 hi
 by_cases e : i = last
 ·simp [e]
 ·have := key (last - i) i (by omega) (by omega)
  rw [reach_le this (by omega)]
  simp
end Go.Proofs.YtlppklbmdedipaaGreatDoor

namespace Go.Proofs.YtlppklbmdedipaaGreatDoor
open Go Go.RowKit
set_option maxHeartbeats 8000000
set_option maxRecDepth 100000
namespace PS
def stT (x : St) (ex deps dos undo body : PS → PS) (t : PS) : PS :=
 if x.kind = 1 then ex ((t.put w21_).plain x.name)
 else if x.kind = 2 then ex ((t.put w22_).plain x.name)
 else if x.kind = 3 then ex (round deps ((t.put w23_).plain x.name))
 else if x.kind = 4 then ((t.put w24_).plain x.name).plain x.ctx
 else if x.kind = 5 then round undo (round dos (round deps (t.put w25_)))
 else if x.kind = 6 then round undo (round dos (round deps (t.put w26_)))
 else if x.kind = 7 then body (ex (t.put w27_))
 else t.worse
def stC (x : St) : Bool :=
 if x.kind = 1 then restB x true false true false false false
 else if x.kind = 2 then restB x true false true false false false
 else if x.kind = 3 then restB x true false true true false false
 else if x.kind = 4 then restB x true true false false false false
 else if x.kind = 5 then restB x false false false true true false
 else if x.kind = 6 then restB x false false false true true false
 else if x.kind = 7 then restB x false false true false false true
 else restB x false false false false false false
theorem stmt_eq (x : St) (ex deps dos undo body : PS → PS) : PS.stmt x ex deps dos undo body = PS.round (fun t => (stT x ex deps dos undo body t).must (stC x)) := by
 unfold PS.stmt
 congr 1
 funext t
 unfold stT stC
 split
 ·rfl
 split
 ·rfl
 split
 ·rfl
 split
 ·rfl
 split
 ·rfl
 split
 ·rfl
 split
 ·rfl
 ·rfl
end PS
theorem put_none (a : Act) (v : Value) : a.put none v = a := rfl
end Go.Proofs.YtlppklbmdedipaaGreatDoor
