/- PrintTexts, part 24. -/
import Derived.Test.YtlppklbmdedipaaGreatDoorW02
import Derived.Test.YtlppklbmdedipaaGreatDoorW23
namespace Go.Proofs.YtlppklbmdedipaaGreatDoor
open Go Go.RowKit
set_option maxHeartbeats 8000000
set_option maxRecDepth 100000
def RestK (w0 : World) (B b : Nat) (T : PS) (C : Bool) (p4 : Nat) (bx : Bx) (w : World) : Prop :=
 ∃ (n x : ByteArray) (e : Ex) (qe : QEx) (da : Option Addr) (dn dc : Nat) (oa : Option Addr) (on oc : Nat) (ua : Option Addr) (un uc : Nat) (ra : Option Addr) (rn rc : Nat),
  ExLens e qe ∧ C = (decide (n.size = 0) && decide (x.size = 0) && noneB e && decide (dn = 0) && decide (on = 0) && decide (un = 0) && decide (rn = 0)) ∧ PK w0 B b T ((p4, (O44_ n x e qe da dn dc oa on oc ua un uc ra rn rc)) :: bx) w
def zEx : Ex := .mk 0 0 ⟨#[]⟩ [] [] [] 0 [] [] ⟨#[]⟩
def zQ : QEx := ⟨none, 0, 0, none, 0, 0, none, 0, 0, none, 0, 0, none, 0, 0⟩
theorem emp_e : (⟨#[]⟩ : ByteArray) = ByteArray.empty := rfl
theorem zLens : ExLens zEx zQ := ⟨rfl, rfl, rfl, rfl, rfl⟩
theorem zNone : noneB zEx = true := by decide
theorem none_low (e : Ex) (qe : QEx) {W : World} (hx : ExLens e qe) {r : Bool} (hr : noneB e = r) (d : LowW W) : Calls Tryz.prog 57 #[.agg (A0_ e qe), .agg A4_] d.w fun e w' => e = .returned (.bool r) ∧ ∃ d' : LowW W, w' = d'.w :=
 (none_P e qe d.w hx).mono fun e w' k => ⟨by rw [← hr]; exact k.1, d.more k.2⟩
theorem emp_facts {s : ByteArray} (h : s.size = 0) : s.toList = [] ∧ (s.toList == []) = true ∧ s.toList.isEmpty = true :=
 ⟨by rw [size_nil]; exact h, by rw [size_beq]; simp [h], by rw [size_emp]; simp [h]⟩
theorem nemp_facts {s : ByteArray} (h : ¬ s.size = 0) : ¬ s.toList = [] ∧ (s.toList == []) = false ∧ s.toList.isEmpty = false :=
 ⟨by rw [size_nil]; exact h, by rw [size_beq]; simp [h], by rw [size_emp]; simp [h]⟩
theorem len_fact {n : Nat} (h : n = 0) : ((n : Int) == 0) = true := by simp [h]
theorem nlen_fact {n : Nat} (h : ¬ n = 0) : ((n : Int) == 0) = false := by simp [h]
theorem stmt1_P (w0 : World) (B b : Nat) (v : St) (q : QSt) (t : PS) (p1 p3 : Nat) (bx : Bx) (w : World) (hv : StAt w0 B v q) (hY : StsP w0 B b v.body)
  (m1 : (p1, (PB_ 35 b)) ∈ bx) (m3 : (p3, (O2_ v q)) ∈ bx) (h : PK w0 B b t bx w) (hF : FitP ((PS.stT v (pEx v.expr) (pExs v.deps) (pAcs v.dos) (pAcs v.undo) (pSts v.body) t).must (PS.stC v))) :
  Calls Tryz.prog 53 #[.pointer (some ⟨p3, 0, none⟩), .pointer (some ⟨p1, 0, none⟩)] w fun e w' => e = .returned (.tuple #[]) ∧ PK w0 B b ((PS.stT v (pEx v.expr) (pExs v.deps) (pAcs v.dos) (pAcs v.undo) (pSts v.body) t).must (PS.stC v)) bx w' := by
 have hf : FitP (PS.stT v (pEx v.expr) (pExs v.deps) (pAcs v.dos) (pAcs v.undo) (pSts v.body) t) := hF
 obtain ⟨TT, hTT⟩ : ∃ T, T = (PS.stT v (pEx v.expr) (pExs v.deps) (pAcs v.dos) (pAcs v.undo) (pSts v.body) t) := ⟨_, rfl⟩
 obtain ⟨CC, hCC⟩ : ∃ C, C = PS.stC v := ⟨_, rfl⟩
 rw [← hTT, ← hCC] at hF ⊢
 rw [← hTT] at hf
 replace hTT := hi_ hTT
 replace hCC := hi_ hCC
 have hF' := hi_ hF
 have hnm := hi_ hv.name
 have hcx := hi_ hv.ctx
 have hxl := hi_ hv.expr.lens
 have hn_deps : Hid (q.depsn = v.deps.length) := by show _ = _; have := hv.deps.len.1; rw [List.length_map] at this; omega
 have hn_dos : Hid (q.dosn = v.dos.length) := by show _ = _; have := hv.dos.len.1; rw [List.length_map] at this; omega
 have hn_undo : Hid (q.undon = v.undo.length) := by show _ = _; have := hv.undo.len.1; rw [List.length_map] at this; omega
 have hn_body : Hid (q.bodyn = v.body.length) := by show _ = _; have := hv.body.len.1; rw [List.length_map] at this; omega
 obtain ⟨p4, hp4⟩ : ∃ p, p = w.heap.size := ⟨_, rfl⟩
 obtain ⟨S3, hS3⟩ : ∃ S, S = w.alloc (.cells A6_ 63) := ⟨_, rfl⟩
 have k3 : PK w0 B b t ((p4, O6_) :: bx) S3 := by rw [hS3, hp4]; exact h.alloc _
 have hst := row_store (k3.box M0_) (cs := q.arr v) sizeSt_info rfl (q.one v)
 have k4 : PK w0 B b t ((p4, (O2_ v q)) :: bx) (S3.setRow p4 (q.arr v)) := k3.row (q.arr v)
 obtain ⟨S4, hS4⟩ : ∃ S, S = S3.setRow p4 (q.arr v) := ⟨_, rfl⟩
 rw [← hS4] at k4 hst
 have hl2 := hi_ (row_load (h.box m3) Tryz.underlying63 rfl sizeSt_info)
 obtain ⟨g0, -⟩ := c17_ (k4.box M0_)
 have g1 : S4.frozen? ⟨p4, 0, none⟩ = false := fz_ (k4.box M0_)
 obtain ⟨S5, hS5⟩ : ∃ S, S = S4.setCell ⟨p4, 0, none⟩ (.int .u8 0) := ⟨_, rfl⟩
 have k5 : PK w0 B b t ((p4, (O45_ v q)) :: bx) S5 := by rw [hS5]; exact k4.set 0 _
 have hW3 : Hid (S3 = _) := hS3
 have hW5 : Hid (S5 = _) := hS5
 replace hp4 := hi_ hp4
 replace hst := hi_ hst
 replace h := hi_ h
 replace k3 := hi_ k3
 replace k4 := hi_ k4
 obtain ⟨x0, -⟩ := c17_ (k5.box (Mc_ m3))
 replace k5 := hi_ k5
 clear hS3 hS4 hS5 hF
 replace hv := hi_ hv
 replace hf := hi_ hf
 go_enter Tryz.func53, Tryz.ntmps53
 go_upto_block 0 with (first | (rw [← hW3.out]) | (rw [← hW5.out]) | (rw [← hp4.out]) | (refine ld_arm hl2.out rfl _ rfl rfl ?_) | (refine st_arm hst.out rfl _ _ rfl rfl rfl ?_))
 go_cut [] from 3 (fun wx => RestK w0 B b TT CC p4 bx wx)
 case first =>
  replace hv := hv.out
  replace hf := hf.out
  clear g0 g1 hst hl2 x0
  have k5 := k5.out
  by_cases he : v.kind = 1
  case pos =>
   as_aux_lemma =>
    have hT : (PS.stT v (pEx v.expr) (pExs v.deps) (pAcs v.dos) (pAcs v.undo) (pSts v.body) t) = (pEx v.expr ((t.put w21_).plain v.name)) := by unfold PS.stT; simp [he]
    have hC : PS.stC v = PS.restB v true false true false false false := by unfold PS.stC; simp [he]
    rw [hTT.out, hT] at hf
    have hTe : Hid (TT = (pEx v.expr ((t.put w21_).plain v.name))) := by show _ = _; rw [hTT.out, hT]
    have hCC : Hid (CC = PS.restB v true false true false false false) := by show _ = _; rw [hCC.out, hC]
    clear hT hC
    have f2 : FitP ((t.put w21_).plain v.name) := FitP.ex hv.expr (show FitP (pEx v.expr ((t.put w21_).plain v.name)) from hf)
    have f1 : FitP (t.put w21_) := f2.plain
    have c1 := hi_ (fun W hW => put_P w0 B b t w21_ ((p4, (O45_ v q)) :: bx) W hW (show FitP (t.put w21_) from f1))
    have c2 := hi_ (fun W hW => plain_P w0 B b (t.put w21_) v.name hnm.out ((p4, (O45_ v q)) :: bx) W hW f2)
    have cX := hi_ (fun W hW => ex_P w0 B b v.expr q.expr ((t.put w21_).plain v.name) hv.expr ((p4, (O45_ v q)) :: bx) W hW hf)
    clear f1 f2
    obtain ⟨x0, -⟩ := c17_ (k5.box (Mc_ m3))
    rw [he] at x0
    rw [he]
    replace he := hi_ he
    clear hv hf
    obtain ⟨S6, hS6⟩ : ∃ S, S = (S5.alloc (.cells A48_ 9)).drew := ⟨_, rfl⟩
    have k6 : PK w0 B b t ((p4, (O45_ v q)) :: bx) S6 := by rw [hS6]; exact (Kit.below (w' := (S5.alloc (.cells A48_ 9)).drew) (k5.alloc (.cells A48_ 9)) ⟨rfl, rfl, rfl, Nat.le_refl _, fun _ _ => rfl⟩).drop
    have kA := k5.alloc (.cells A48_ 9)
    have xA0 : (S5.alloc (.cells A48_ 9)).cell? ⟨p3, 0, none⟩ = some (.int .u8 1) := by
     have hY := kA.box (Mc_ (List.mem_cons_of_mem _ m3))
     unfold World.cell?; simp only [hY]; rw [← he.out]; rfl
    have xAp : (S5.alloc (.cells A48_ 9)).cell? ⟨p1, 0, none⟩ = some (.pointer (some ⟨b, 0, none⟩)) := by
     have hY := kA.box (Mc_ (List.mem_cons_of_mem _ m1))
     unfold World.cell?; simp only [hY]; rfl
    have xAg : (S5.alloc (.cells A48_ 9)).cell? ⟨S5.heap.size, 1, none⟩ = some (.string ⟨#[108, 101, 116]⟩) := by
     have hY := kA.box M0_
     unfold World.cell?; simp only [hY]; rfl
    clear kA
    have c1a := hi_ (c1.out S6 k6)
    have hQ6 : Hid (S6 = _) := hS6
    have hg6 : S6.cell? ⟨S5.heap.size, 1, none⟩ = some (.string ⟨#[108, 101, 116]⟩) := by
     rw [hS6]
     have := (k5.alloc (.cells A48_ 9)).box M0_
     show (S5.alloc _).cell? _ = _
     unfold World.cell?
     simp only [this]
     rfl
    clear hS6
    have xp := c1_ (k5.box (Mc_ m1))
    obtain ⟨x0, -⟩ := c17_ (k5.box (Mc_ m3))
    rw [he.out] at x0
    replace k5 := hi_ k5
    replace k6 := hi_ k6
    go_upto_region 6 with fail
    go_cut [] (fun wx => PK w0 B b (t.put w21_) ((p4, (O45_ v q)) :: bx) wx)
    case first =>
     go_region_with (first | (rw [← hQ6.out]) | (go_at_call 27; refine c1a.out.mono ?_; rintro e w1 ⟨rfl, h1⟩))
     all_goals
      replace h1 := hi_ h1
      go_wp2_with fail
      go_meet
      exact h1.out
    case rest =>
     clear x0 xp xA0 xAp xAg hg6
     replace hcut := hcut
     obtain ⟨-, x1, -⟩ := c17_ (hcut.box (Mc_ m3))
     have xp := c1_ (hcut.box (Mc_ m1))
     replace hcut := hi_ hcut
     go_wp2_with (go_at_call 28; refine (c2.out wc hcut.out).mono ?_)
     first | rintro e w2 rfl h2 | rintro e w2 ⟨rfl, h2⟩
     clear xp x1
     obtain ⟨-, -, -, x3, x4, x5, x6, x7, x8, x9, x10, x11, x12, -⟩ := c17_ (h2.box (Mc_ m3))
     have xp := c1_ (h2.box (Mc_ m1))
     replace h2 := hi_ h2
     go_wp2_with (go_at_call 32; refine (cX.out w2 h2.out).mono ?_)
     first | rintro e w3 rfl h3 | rintro e w3 ⟨rfl, h3⟩
     clear xp x3 x4 x5 x6 x7 x8 x9 x10 x11 x12
     obtain ⟨-, ga0, -⟩ := c17_ (h3.box M0_)
     have gb0 : w3.frozen? ⟨p4, 1, none⟩ = false := fz_ (h3.box M0_)
     obtain ⟨R0, hR0⟩ : ∃ S, S = w3.setCell ⟨p4, 1, none⟩ (.string ⟨#[]⟩) := ⟨_, rfl⟩
     have hr0 : PK w0 B b (pEx v.expr ((t.put w21_).plain v.name)) ((p4, (O46_ v q)) :: bx) R0 := by rw [hR0]; exact h3.set 1 _
     have hQ0 : Hid (R0 = _) := hR0
     replace h3 := hi_ h3
     clear hR0
     have hs1 := mid_store (hr0.box M0_) (cs := #[.int .u8 0, .int .i64 0, .string ⟨#[]⟩, .slice none 0 0, .slice none 0 0, .slice none 0 0, .int .u8 0, .slice none 0 0, .slice none 0 0, .string ⟨#[]⟩]) (o := 3) sizeEx_info (by simp) (by simp [Value.oneCell'])
     have hr1 : PK w0 B b (pEx v.expr ((t.put w21_).plain v.name)) ((p4, (O47_ v q)) :: bx) (R0.setRow p4 (A50_ v q)) := hr0.row _
     have hs1' : (Instr.storeAt 50 (.pointer (some ⟨p4, 3, none⟩)) (.agg #[.int .u8 0, .int .i64 0, .string ⟨#[]⟩, .slice none 0 0, .slice none 0 0, .slice none 0 0, .int .u8 0, .slice none 0 0, .slice none 0 0, .string ⟨#[]⟩])).run Tryz.prog R0 = .ok () (R0.setRow p4 (A50_ v q)) := hs1
     obtain ⟨R1, hR1⟩ : ∃ S, S = R0.setRow p4 (A50_ v q) := ⟨_, rfl⟩
     rw [← hR1] at hr1 hs1'
     replace hs1' := hi_ hs1'
     replace hr0 := hi_ hr0
     clear hs1 hR1
     go_wp2_with (first | (rw [← hQ0.out]) | (refine st_arm hs1'.out rfl _ _ rfl rfl rfl ?_))
     rw [put_none]
     go_meet
     exact ⟨⟨#[]⟩, v.ctx, zEx, zQ, q.depsa, q.depsn, q.depsc, q.dosa, q.dosn, q.dosc, q.undoa, q.undon, q.undoc, q.bodya, q.bodyn, q.bodyc, zLens, (by rw [hCC.out, zNone]; unfold PS.restB; simp [emp_e, Bool.and_assoc, hn_deps.out, hn_dos.out, hn_undo.out, hn_body.out]), by rw [hTe.out]; exact hr1⟩
  have en1 := hi_ he
  clear he
  by_cases he : v.kind = 2
  case pos =>
   as_aux_lemma =>
    have hT : (PS.stT v (pEx v.expr) (pExs v.deps) (pAcs v.dos) (pAcs v.undo) (pSts v.body) t) = (pEx v.expr ((t.put w22_).plain v.name)) := by unfold PS.stT; simp [he]
    have hC : PS.stC v = PS.restB v true false true false false false := by unfold PS.stC; simp [he]
    rw [hTT.out, hT] at hf
    have hTe : Hid (TT = (pEx v.expr ((t.put w22_).plain v.name))) := by show _ = _; rw [hTT.out, hT]
    have hCC : Hid (CC = PS.restB v true false true false false false) := by show _ = _; rw [hCC.out, hC]
    clear hT hC
    have f2 : FitP ((t.put w22_).plain v.name) := FitP.ex hv.expr (show FitP (pEx v.expr ((t.put w22_).plain v.name)) from hf)
    have f1 : FitP (t.put w22_) := f2.plain
    have c1 := hi_ (fun W hW => put_P w0 B b t w22_ ((p4, (O45_ v q)) :: bx) W hW (show FitP (t.put w22_) from f1))
    have c2 := hi_ (fun W hW => plain_P w0 B b (t.put w22_) v.name hnm.out ((p4, (O45_ v q)) :: bx) W hW f2)
    have cX := hi_ (fun W hW => ex_P w0 B b v.expr q.expr ((t.put w22_).plain v.name) hv.expr ((p4, (O45_ v q)) :: bx) W hW hf)
    clear f1 f2
    obtain ⟨x0, -⟩ := c17_ (k5.box (Mc_ m3))
    rw [he] at x0
    rw [he]
    replace he := hi_ he
    clear hv hf
    obtain ⟨S6, hS6⟩ : ∃ S, S = (S5.alloc (.cells A48_ 9)).drew := ⟨_, rfl⟩
    have k6 : PK w0 B b t ((p4, (O45_ v q)) :: bx) S6 := by rw [hS6]; exact (Kit.below (w' := (S5.alloc (.cells A48_ 9)).drew) (k5.alloc (.cells A48_ 9)) ⟨rfl, rfl, rfl, Nat.le_refl _, fun _ _ => rfl⟩).drop
    have kA := k5.alloc (.cells A48_ 9)
    have xA0 : (S5.alloc (.cells A48_ 9)).cell? ⟨p3, 0, none⟩ = some (.int .u8 2) := by
     have hY := kA.box (Mc_ (List.mem_cons_of_mem _ m3))
     unfold World.cell?; simp only [hY]; rw [← he.out]; rfl
    have xAp : (S5.alloc (.cells A48_ 9)).cell? ⟨p1, 0, none⟩ = some (.pointer (some ⟨b, 0, none⟩)) := by
     have hY := kA.box (Mc_ (List.mem_cons_of_mem _ m1))
     unfold World.cell?; simp only [hY]; rfl
    have xAg : (S5.alloc (.cells A48_ 9)).cell? ⟨S5.heap.size, 2, none⟩ = some (.string ⟨#[115, 116, 97, 116, 101]⟩) := by
     have hY := kA.box M0_
     unfold World.cell?; simp only [hY]; rfl
    clear kA
    have c1a := hi_ (c1.out S6 k6)
    have hQ6 : Hid (S6 = _) := hS6
    have hg6 : S6.cell? ⟨S5.heap.size, 2, none⟩ = some (.string ⟨#[115, 116, 97, 116, 101]⟩) := by
     rw [hS6]
     have := (k5.alloc (.cells A48_ 9)).box M0_
     show (S5.alloc _).cell? _ = _
     unfold World.cell?
     simp only [this]
     rfl
    clear hS6
    have xp := c1_ (k5.box (Mc_ m1))
    obtain ⟨x0, -⟩ := c17_ (k5.box (Mc_ m3))
    rw [he.out] at x0
    replace k5 := hi_ k5
    replace k6 := hi_ k6
    go_upto_region 6 with fail
    go_cut [] (fun wx => PK w0 B b (t.put w22_) ((p4, (O45_ v q)) :: bx) wx)
    case first =>
     go_region_with (first | (rw [← hQ6.out]) | (go_at_call 27; refine c1a.out.mono ?_; rintro e w1 ⟨rfl, h1⟩))
     all_goals
      replace h1 := hi_ h1
      go_wp2_with fail
      go_meet
      exact h1.out
    case rest =>
     clear x0 xp xA0 xAp xAg hg6
     replace hcut := hcut
     obtain ⟨-, x1, -⟩ := c17_ (hcut.box (Mc_ m3))
     have xp := c1_ (hcut.box (Mc_ m1))
     replace hcut := hi_ hcut
     go_wp2_with (go_at_call 28; refine (c2.out wc hcut.out).mono ?_)
     first | rintro e w2 rfl h2 | rintro e w2 ⟨rfl, h2⟩
     clear xp x1
     obtain ⟨-, -, -, x3, x4, x5, x6, x7, x8, x9, x10, x11, x12, -⟩ := c17_ (h2.box (Mc_ m3))
     have xp := c1_ (h2.box (Mc_ m1))
     replace h2 := hi_ h2
     go_wp2_with (go_at_call 32; refine (cX.out w2 h2.out).mono ?_)
     first | rintro e w3 rfl h3 | rintro e w3 ⟨rfl, h3⟩
     clear xp x3 x4 x5 x6 x7 x8 x9 x10 x11 x12
     obtain ⟨-, ga0, -⟩ := c17_ (h3.box M0_)
     have gb0 : w3.frozen? ⟨p4, 1, none⟩ = false := fz_ (h3.box M0_)
     obtain ⟨R0, hR0⟩ : ∃ S, S = w3.setCell ⟨p4, 1, none⟩ (.string ⟨#[]⟩) := ⟨_, rfl⟩
     have hr0 : PK w0 B b (pEx v.expr ((t.put w22_).plain v.name)) ((p4, (O46_ v q)) :: bx) R0 := by rw [hR0]; exact h3.set 1 _
     have hQ0 : Hid (R0 = _) := hR0
     replace h3 := hi_ h3
     clear hR0
     have hs1 := mid_store (hr0.box M0_) (cs := #[.int .u8 0, .int .i64 0, .string ⟨#[]⟩, .slice none 0 0, .slice none 0 0, .slice none 0 0, .int .u8 0, .slice none 0 0, .slice none 0 0, .string ⟨#[]⟩]) (o := 3) sizeEx_info (by simp) (by simp [Value.oneCell'])
     have hr1 : PK w0 B b (pEx v.expr ((t.put w22_).plain v.name)) ((p4, (O47_ v q)) :: bx) (R0.setRow p4 (A50_ v q)) := hr0.row _
     have hs1' : (Instr.storeAt 50 (.pointer (some ⟨p4, 3, none⟩)) (.agg #[.int .u8 0, .int .i64 0, .string ⟨#[]⟩, .slice none 0 0, .slice none 0 0, .slice none 0 0, .int .u8 0, .slice none 0 0, .slice none 0 0, .string ⟨#[]⟩])).run Tryz.prog R0 = .ok () (R0.setRow p4 (A50_ v q)) := hs1
     obtain ⟨R1, hR1⟩ : ∃ S, S = R0.setRow p4 (A50_ v q) := ⟨_, rfl⟩
     rw [← hR1] at hr1 hs1'
     replace hs1' := hi_ hs1'
     replace hr0 := hi_ hr0
     clear hs1 hR1
     go_wp2_with (first | (rw [← hQ0.out]) | (refine st_arm hs1'.out rfl _ _ rfl rfl rfl ?_))
     rw [put_none]
     go_meet
     exact ⟨⟨#[]⟩, v.ctx, zEx, zQ, q.depsa, q.depsn, q.depsc, q.dosa, q.dosn, q.dosc, q.undoa, q.undon, q.undoc, q.bodya, q.bodyn, q.bodyc, zLens, (by rw [hCC.out, zNone]; unfold PS.restB; simp [emp_e, Bool.and_assoc, hn_deps.out, hn_dos.out, hn_undo.out, hn_body.out]), by rw [hTe.out]; exact hr1⟩
  have en2 := hi_ he
  clear he
  by_cases he : v.kind = 3
  case pos =>
   as_aux_lemma =>
    have hT : (PS.stT v (pEx v.expr) (pExs v.deps) (pAcs v.dos) (pAcs v.undo) (pSts v.body) t) = (pEx v.expr (PS.round (pExs v.deps) ((t.put w23_).plain v.name))) := by unfold PS.stT; simp [he]
    have hC : PS.stC v = PS.restB v true false true true false false := by unfold PS.stC; simp [he]
    rw [hTT.out, hT] at hf
    have hTe : Hid (TT = (pEx v.expr (PS.round (pExs v.deps) ((t.put w23_).plain v.name)))) := by show _ = _; rw [hTT.out, hT]
    have hCC : Hid (CC = PS.restB v true false true true false false) := by show _ = _; rw [hCC.out, hC]
    clear hT hC
    have f3 : FitP (PS.round (pExs v.deps) ((t.put w23_).plain v.name)) := FitP.ex hv.expr (show FitP (pEx v.expr (PS.round (pExs v.deps) ((t.put w23_).plain v.name))) from hf)
    have f2 : FitP ((t.put w23_).plain v.name) := f3.of ((PS.Le.refl _).round (fun u => pExs_le v.deps (fun v _ => pEx_le v) hv.deps.oks u))
    have f1 : FitP (t.put w23_) := f2.plain
    have c1 := hi_ (fun W hW => put_P w0 B b t w23_ ((p4, (O45_ v q)) :: bx) W hW (show FitP (t.put w23_) from f1))
    have c2 := hi_ (fun W hW => plain_P w0 B b (t.put w23_) v.name hnm.out ((p4, (O45_ v q)) :: bx) W hW f2)
    have c3 := hi_ (fun W hW => listEx_P w0 B b v.deps q.depsa q.depsn q.depsc ((t.put w23_).plain v.name) hv.deps ((p4, (O45_ v q)) :: bx) W hW f3)
    have cX := hi_ (fun W hW => ex_P w0 B b v.expr q.expr (PS.round (pExs v.deps) ((t.put w23_).plain v.name)) hv.expr ((p4, (O45_ v q)) :: bx) W hW hf)
    clear f1 f2 f3
    obtain ⟨x0, -⟩ := c17_ (k5.box (Mc_ m3))
    rw [he] at x0
    rw [he]
    replace he := hi_ he
    clear hv hf
    have xp := c1_ (k5.box (Mc_ m1))
    replace k5 := hi_ k5
    go_wp2_with (go_at_call 27; refine (c1.out S5 k5.out).mono ?_)
    first | rintro e w1 rfl h1 | rintro e w1 ⟨rfl, h1⟩
    clear xp x0
    obtain ⟨-, x1, -⟩ := c17_ (h1.box (Mc_ m3))
    have xp := c1_ (h1.box (Mc_ m1))
    replace h1 := hi_ h1
    go_wp2_with (go_at_call 28; refine (c2.out w1 h1.out).mono ?_)
    first | rintro e w2 rfl h2 | rintro e w2 ⟨rfl, h2⟩
    clear xp x1
    obtain ⟨-, -, -, -, -, -, -, -, -, -, -, -, -, x13, -⟩ := c17_ (h2.box (Mc_ m3))
    have xp := c1_ (h2.box (Mc_ m1))
    replace h2 := hi_ h2
    go_wp2_with (go_at_call 54; refine (c3.out w2 h2.out).mono ?_)
    first | rintro e w3 rfl h3 | rintro e w3 ⟨rfl, h3⟩
    clear xp x13
    obtain ⟨-, -, -, x3, x4, x5, x6, x7, x8, x9, x10, x11, x12, -⟩ := c17_ (h3.box (Mc_ m3))
    have xp := c1_ (h3.box (Mc_ m1))
    replace h3 := hi_ h3
    go_wp2_with (go_at_call 32; refine (cX.out w3 h3.out).mono ?_)
    first | rintro e w4 rfl h4 | rintro e w4 ⟨rfl, h4⟩
    clear xp x3 x4 x5 x6 x7 x8 x9 x10 x11 x12
    obtain ⟨-, ga0, -⟩ := c17_ (h4.box M0_)
    have gb0 : w4.frozen? ⟨p4, 1, none⟩ = false := fz_ (h4.box M0_)
    obtain ⟨R0, hR0⟩ : ∃ S, S = w4.setCell ⟨p4, 1, none⟩ (.string ⟨#[]⟩) := ⟨_, rfl⟩
    have hr0 : PK w0 B b (pEx v.expr (PS.round (pExs v.deps) ((t.put w23_).plain v.name))) ((p4, (O46_ v q)) :: bx) R0 := by rw [hR0]; exact h4.set 1 _
    have hQ0 : Hid (R0 = _) := hR0
    replace h4 := hi_ h4
    clear hR0
    obtain ⟨-, -, -, -, -, -, -, -, -, -, -, -, -, ga1, -⟩ := c17_ (hr0.box M0_)
    have gb1 : R0.frozen? ⟨p4, 13, none⟩ = false := fz_ (hr0.box M0_)
    obtain ⟨R1, hR1⟩ : ∃ S, S = R0.setCell ⟨p4, 13, none⟩ (.slice none 0 0) := ⟨_, rfl⟩
    have hr1 : PK w0 B b (pEx v.expr (PS.round (pExs v.deps) ((t.put w23_).plain v.name))) ((p4, (O48_ v q)) :: bx) R1 := by rw [hR1]; exact hr0.set 13 _
    have hQ1 : Hid (R1 = _) := hR1
    replace hr0 := hi_ hr0
    clear hR1
    have hs2 := mid_store (hr1.box M0_) (cs := #[.int .u8 0, .int .i64 0, .string ⟨#[]⟩, .slice none 0 0, .slice none 0 0, .slice none 0 0, .int .u8 0, .slice none 0 0, .slice none 0 0, .string ⟨#[]⟩]) (o := 3) sizeEx_info (by simp) (by simp [Value.oneCell'])
    have hr2 : PK w0 B b (pEx v.expr (PS.round (pExs v.deps) ((t.put w23_).plain v.name))) ((p4, (O49_ v q)) :: bx) (R1.setRow p4 (A52_ v q)) := hr1.row _
    have hs2' : (Instr.storeAt 50 (.pointer (some ⟨p4, 3, none⟩)) (.agg #[.int .u8 0, .int .i64 0, .string ⟨#[]⟩, .slice none 0 0, .slice none 0 0, .slice none 0 0, .int .u8 0, .slice none 0 0, .slice none 0 0, .string ⟨#[]⟩])).run Tryz.prog R1 = .ok () (R1.setRow p4 (A52_ v q)) := hs2
    obtain ⟨R2, hR2⟩ : ∃ S, S = R1.setRow p4 (A52_ v q) := ⟨_, rfl⟩
    rw [← hR2] at hr2 hs2'
    replace hs2' := hi_ hs2'
    replace hr1 := hi_ hr1
    clear hs2 hR2
    go_wp2_with (first | (rw [← hQ0.out]) | (rw [← hQ1.out]) | (refine st_arm hs2'.out rfl _ _ rfl rfl rfl ?_))
    rw [put_none]
    go_meet
    exact ⟨⟨#[]⟩, v.ctx, zEx, zQ, none, 0, 0, q.dosa, q.dosn, q.dosc, q.undoa, q.undon, q.undoc, q.bodya, q.bodyn, q.bodyc, zLens, (by rw [hCC.out, zNone]; unfold PS.restB; simp [emp_e, Bool.and_assoc, hn_dos.out, hn_undo.out, hn_body.out]), by rw [hTe.out]; exact hr2⟩
  have en3 := hi_ he
  clear he
  by_cases he : v.kind = 4
  case pos =>
   as_aux_lemma =>
    have hT : (PS.stT v (pEx v.expr) (pExs v.deps) (pAcs v.dos) (pAcs v.undo) (pSts v.body) t) = (((t.put w24_).plain v.name).plain v.ctx) := by unfold PS.stT; simp [he]
    have hC : PS.stC v = PS.restB v true true false false false false := by unfold PS.stC; simp [he]
    rw [hTT.out, hT] at hf
    have hTe : Hid (TT = (((t.put w24_).plain v.name).plain v.ctx)) := by show _ = _; rw [hTT.out, hT]
    have hCC : Hid (CC = PS.restB v true true false false false false) := by show _ = _; rw [hCC.out, hC]
    clear hT hC
    have f2 : FitP ((t.put w24_).plain v.name) := FitP.plain (show FitP (((t.put w24_).plain v.name).plain v.ctx) from hf)
    have f1 : FitP (t.put w24_) := f2.plain
    have c1 := hi_ (fun W hW => put_P w0 B b t w24_ ((p4, (O45_ v q)) :: bx) W hW (show FitP (t.put w24_) from f1))
    have c2 := hi_ (fun W hW => plain_P w0 B b (t.put w24_) v.name hnm.out ((p4, (O45_ v q)) :: bx) W hW f2)
    have c3 := hi_ (fun W hW => plain_P w0 B b ((t.put w24_).plain v.name) v.ctx hcx.out ((p4, (O45_ v q)) :: bx) W hW hf)
    clear f1 f2
    obtain ⟨x0, -⟩ := c17_ (k5.box (Mc_ m3))
    rw [he] at x0
    rw [he]
    replace he := hi_ he
    clear hv hf
    have xp := c1_ (k5.box (Mc_ m1))
    replace k5 := hi_ k5
    go_wp2_with (go_at_call 27; refine (c1.out S5 k5.out).mono ?_)
    first | rintro e w1 rfl h1 | rintro e w1 ⟨rfl, h1⟩
    clear xp x0
    obtain ⟨-, x1, -⟩ := c17_ (h1.box (Mc_ m3))
    have xp := c1_ (h1.box (Mc_ m1))
    replace h1 := hi_ h1
    go_wp2_with (go_at_call 28; refine (c2.out w1 h1.out).mono ?_)
    first | rintro e w2 rfl h2 | rintro e w2 ⟨rfl, h2⟩
    clear xp x1
    obtain ⟨-, -, x2, -⟩ := c17_ (h2.box (Mc_ m3))
    have xp := c1_ (h2.box (Mc_ m1))
    replace h2 := hi_ h2
    go_wp2_with (go_at_call 28; refine (c3.out w2 h2.out).mono ?_)
    first | rintro e w3 rfl h3 | rintro e w3 ⟨rfl, h3⟩
    clear xp x2
    obtain ⟨-, ga0, -⟩ := c17_ (h3.box M0_)
    have gb0 : w3.frozen? ⟨p4, 1, none⟩ = false := fz_ (h3.box M0_)
    obtain ⟨R0, hR0⟩ : ∃ S, S = w3.setCell ⟨p4, 1, none⟩ (.string ⟨#[]⟩) := ⟨_, rfl⟩
    have hr0 : PK w0 B b (((t.put w24_).plain v.name).plain v.ctx) ((p4, (O46_ v q)) :: bx) R0 := by rw [hR0]; exact h3.set 1 _
    have hQ0 : Hid (R0 = _) := hR0
    replace h3 := hi_ h3
    clear hR0
    obtain ⟨-, -, ga1, -⟩ := c17_ (hr0.box M0_)
    have gb1 : R0.frozen? ⟨p4, 2, none⟩ = false := fz_ (hr0.box M0_)
    obtain ⟨R1, hR1⟩ : ∃ S, S = R0.setCell ⟨p4, 2, none⟩ (.string ⟨#[]⟩) := ⟨_, rfl⟩
    have hr1 : PK w0 B b (((t.put w24_).plain v.name).plain v.ctx) ((p4, (O50_ v.expr q)) :: bx) R1 := by rw [hR1]; exact hr0.set 2 _
    have hQ1 : Hid (R1 = _) := hR1
    replace hr0 := hi_ hr0
    clear hR1
    go_wp2_with (first | (rw [← hQ0.out]) | (rw [← hQ1.out]))
    skip
    go_meet
    exact ⟨⟨#[]⟩, ⟨#[]⟩, v.expr, q.expr, q.depsa, q.depsn, q.depsc, q.dosa, q.dosn, q.dosc, q.undoa, q.undon, q.undoc, q.bodya, q.bodyn, q.bodyc, hxl.out, (by rw [hCC.out]; unfold PS.restB; simp [emp_e, Bool.and_assoc, hn_deps.out, hn_dos.out, hn_undo.out, hn_body.out]), by rw [hTe.out]; exact hr1⟩
  have en4 := hi_ he
  clear he
  by_cases he : v.kind = 5
  case pos =>
   as_aux_lemma =>
    have hT : (PS.stT v (pEx v.expr) (pExs v.deps) (pAcs v.dos) (pAcs v.undo) (pSts v.body) t) = (PS.round (pAcs v.undo) (PS.round (pAcs v.dos) (PS.round (pExs v.deps) (t.put w25_)))) := by unfold PS.stT; simp [he]
    have hC : PS.stC v = PS.restB v false false false true true false := by unfold PS.stC; simp [he]
    rw [hTT.out, hT] at hf
    have hTe : Hid (TT = (PS.round (pAcs v.undo) (PS.round (pAcs v.dos) (PS.round (pExs v.deps) (t.put w25_))))) := by show _ = _; rw [hTT.out, hT]
    have hCC : Hid (CC = PS.restB v false false false true true false) := by show _ = _; rw [hCC.out, hC]
    clear hT hC
    have f3 : FitP (PS.round (pAcs v.dos) (PS.round (pExs v.deps) (t.put w25_))) := FitP.of (show FitP (PS.round (pAcs v.undo) (PS.round (pAcs v.dos) (PS.round (pExs v.deps) (t.put w25_)))) from hf) ((PS.Le.refl _).round (fun u => pAcs_le v.undo (fun v _ => pAc_le v) hv.undo.oks u))
    have f2 : FitP (PS.round (pExs v.deps) (t.put w25_)) := f3.of ((PS.Le.refl _).round (fun u => pAcs_le v.dos (fun v _ => pAc_le v) hv.dos.oks u))
    have f1 : FitP (t.put w25_) := f2.of ((PS.Le.refl _).round (fun u => pExs_le v.deps (fun v _ => pEx_le v) hv.deps.oks u))
    have c1 := hi_ (fun W hW => put_P w0 B b t w25_ ((p4, (O45_ v q)) :: bx) W hW (show FitP (t.put w25_) from f1))
    have c3 := hi_ (fun W hW => listEx_P w0 B b v.deps q.depsa q.depsn q.depsc (t.put w25_) hv.deps ((p4, (O45_ v q)) :: bx) W hW f2)
    have c4 := hi_ (fun W hW => listAc_P w0 B b v.dos q.dosa q.dosn q.dosc (PS.round (pExs v.deps) (t.put w25_)) hv.dos ((p4, (O45_ v q)) :: bx) W hW f3)
    have c5 := hi_ (fun W hW => listAc_P w0 B b v.undo q.undoa q.undon q.undoc (PS.round (pAcs v.dos) (PS.round (pExs v.deps) (t.put w25_))) hv.undo ((p4, (O45_ v q)) :: bx) W hW hf)
    clear f1 f2 f3
    obtain ⟨x0, -⟩ := c17_ (k5.box (Mc_ m3))
    rw [he] at x0
    rw [he]
    replace he := hi_ he
    clear hv hf
    obtain ⟨S6, hS6⟩ : ∃ S, S = (S5.alloc (.cells A54_ 9)).drew := ⟨_, rfl⟩
    have k6 : PK w0 B b t ((p4, (O45_ v q)) :: bx) S6 := by rw [hS6]; exact (Kit.below (w' := (S5.alloc (.cells A54_ 9)).drew) (k5.alloc (.cells A54_ 9)) ⟨rfl, rfl, rfl, Nat.le_refl _, fun _ _ => rfl⟩).drop
    have kA := k5.alloc (.cells A54_ 9)
    have xA0 : (S5.alloc (.cells A54_ 9)).cell? ⟨p3, 0, none⟩ = some (.int .u8 5) := by
     have hY := kA.box (Mc_ (List.mem_cons_of_mem _ m3))
     unfold World.cell?; simp only [hY]; rw [← he.out]; rfl
    have xAp : (S5.alloc (.cells A54_ 9)).cell? ⟨p1, 0, none⟩ = some (.pointer (some ⟨b, 0, none⟩)) := by
     have hY := kA.box (Mc_ (List.mem_cons_of_mem _ m1))
     unfold World.cell?; simp only [hY]; rfl
    have xAg : (S5.alloc (.cells A54_ 9)).cell? ⟨S5.heap.size, 5, none⟩ = some (.string ⟨#[108, 97, 121, 111, 117, 116]⟩) := by
     have hY := kA.box M0_
     unfold World.cell?; simp only [hY]; rfl
    clear kA
    have c1a := hi_ (c1.out S6 k6)
    have hQ6 : Hid (S6 = _) := hS6
    have hg6 : S6.cell? ⟨S5.heap.size, 5, none⟩ = some (.string ⟨#[108, 97, 121, 111, 117, 116]⟩) := by
     rw [hS6]
     have := (k5.alloc (.cells A54_ 9)).box M0_
     show (S5.alloc _).cell? _ = _
     unfold World.cell?
     simp only [this]
     rfl
    clear hS6
    have xp := c1_ (k5.box (Mc_ m1))
    obtain ⟨x0, -⟩ := c17_ (k5.box (Mc_ m3))
    rw [he.out] at x0
    replace k5 := hi_ k5
    replace k6 := hi_ k6
    go_upto_region 23 with fail
    go_cut [] (fun wx => PK w0 B b (t.put w25_) ((p4, (O45_ v q)) :: bx) wx)
    case first =>
     go_region_with (first | (rw [← hQ6.out]) | (go_at_call 27; refine c1a.out.mono ?_; rintro e w1 ⟨rfl, h1⟩))
     all_goals
      replace h1 := hi_ h1
      go_wp2_with fail
      go_meet
      exact h1.out
    case rest =>
     clear x0 xp xA0 xAp xAg hg6
     replace hcut := hcut
     obtain ⟨-, -, -, -, -, -, -, -, -, -, -, -, -, x13, -⟩ := c17_ (hcut.box (Mc_ m3))
     have xp := c1_ (hcut.box (Mc_ m1))
     replace hcut := hi_ hcut
     go_wp2_with (go_at_call 54; refine (c3.out wc hcut.out).mono ?_)
     first | rintro e w2 rfl h2 | rintro e w2 ⟨rfl, h2⟩
     clear xp x13
     obtain ⟨-, -, -, -, -, -, -, -, -, -, -, -, -, -, x14, -⟩ := c17_ (h2.box (Mc_ m3))
     have xp := c1_ (h2.box (Mc_ m1))
     replace h2 := hi_ h2
     go_wp2_with (go_at_call 55; refine (c4.out w2 h2.out).mono ?_)
     first | rintro e w3 rfl h3 | rintro e w3 ⟨rfl, h3⟩
     clear xp x14
     obtain ⟨-, -, -, -, -, -, -, -, -, -, -, -, -, -, -, x15, -⟩ := c17_ (h3.box (Mc_ m3))
     have xp := c1_ (h3.box (Mc_ m1))
     replace h3 := hi_ h3
     go_wp2_with (go_at_call 55; refine (c5.out w3 h3.out).mono ?_)
     first | rintro e w4 rfl h4 | rintro e w4 ⟨rfl, h4⟩
     clear xp x15
     obtain ⟨-, -, -, -, -, -, -, -, -, -, -, -, -, ga0, -⟩ := c17_ (h4.box M0_)
     have gb0 : w4.frozen? ⟨p4, 13, none⟩ = false := fz_ (h4.box M0_)
     obtain ⟨R0, hR0⟩ : ∃ S, S = w4.setCell ⟨p4, 13, none⟩ (.slice none 0 0) := ⟨_, rfl⟩
     have hr0 : PK w0 B b (PS.round (pAcs v.undo) (PS.round (pAcs v.dos) (PS.round (pExs v.deps) (t.put w25_)))) ((p4, (O51_ v q)) :: bx) R0 := by rw [hR0]; exact h4.set 13 _
     have hQ0 : Hid (R0 = _) := hR0
     replace h4 := hi_ h4
     clear hR0
     obtain ⟨-, -, -, -, -, -, -, -, -, -, -, -, -, -, ga1, -⟩ := c17_ (hr0.box M0_)
     have gb1 : R0.frozen? ⟨p4, 14, none⟩ = false := fz_ (hr0.box M0_)
     obtain ⟨R1, hR1⟩ : ∃ S, S = R0.setCell ⟨p4, 14, none⟩ (.slice none 0 0) := ⟨_, rfl⟩
     have hr1 : PK w0 B b (PS.round (pAcs v.undo) (PS.round (pAcs v.dos) (PS.round (pExs v.deps) (t.put w25_)))) ((p4, (O52_ v q)) :: bx) R1 := by rw [hR1]; exact hr0.set 14 _
     have hQ1 : Hid (R1 = _) := hR1
     replace hr0 := hi_ hr0
     clear hR1
     obtain ⟨-, -, -, -, -, -, -, -, -, -, -, -, -, -, -, ga2, -⟩ := c17_ (hr1.box M0_)
     have gb2 : R1.frozen? ⟨p4, 15, none⟩ = false := fz_ (hr1.box M0_)
     obtain ⟨R2, hR2⟩ : ∃ S, S = R1.setCell ⟨p4, 15, none⟩ (.slice none 0 0) := ⟨_, rfl⟩
     have hr2 : PK w0 B b (PS.round (pAcs v.undo) (PS.round (pAcs v.dos) (PS.round (pExs v.deps) (t.put w25_)))) ((p4, (O53_ v q)) :: bx) R2 := by rw [hR2]; exact hr1.set 15 _
     have hQ2 : Hid (R2 = _) := hR2
     replace hr1 := hi_ hr1
     clear hR2
     go_wp2_with (first | (rw [← hQ0.out]) | (rw [← hQ1.out]) | (rw [← hQ2.out]))
     skip
     go_meet
     exact ⟨v.name, v.ctx, v.expr, q.expr, none, 0, 0, none, 0, 0, none, 0, 0, q.bodya, q.bodyn, q.bodyc, hxl.out, (by rw [hCC.out]; unfold PS.restB; simp [Bool.and_assoc, hn_body.out]), by rw [hTe.out]; exact hr2⟩
  have en5 := hi_ he
  clear he
  by_cases he : v.kind = 6
  case pos =>
   as_aux_lemma =>
    have hT : (PS.stT v (pEx v.expr) (pExs v.deps) (pAcs v.dos) (pAcs v.undo) (pSts v.body) t) = (PS.round (pAcs v.undo) (PS.round (pAcs v.dos) (PS.round (pExs v.deps) (t.put w26_)))) := by unfold PS.stT; simp [he]
    have hC : PS.stC v = PS.restB v false false false true true false := by unfold PS.stC; simp [he]
    rw [hTT.out, hT] at hf
    have hTe : Hid (TT = (PS.round (pAcs v.undo) (PS.round (pAcs v.dos) (PS.round (pExs v.deps) (t.put w26_))))) := by show _ = _; rw [hTT.out, hT]
    have hCC : Hid (CC = PS.restB v false false false true true false) := by show _ = _; rw [hCC.out, hC]
    clear hT hC
    have f3 : FitP (PS.round (pAcs v.dos) (PS.round (pExs v.deps) (t.put w26_))) := FitP.of (show FitP (PS.round (pAcs v.undo) (PS.round (pAcs v.dos) (PS.round (pExs v.deps) (t.put w26_)))) from hf) ((PS.Le.refl _).round (fun u => pAcs_le v.undo (fun v _ => pAc_le v) hv.undo.oks u))
    have f2 : FitP (PS.round (pExs v.deps) (t.put w26_)) := f3.of ((PS.Le.refl _).round (fun u => pAcs_le v.dos (fun v _ => pAc_le v) hv.dos.oks u))
    have f1 : FitP (t.put w26_) := f2.of ((PS.Le.refl _).round (fun u => pExs_le v.deps (fun v _ => pEx_le v) hv.deps.oks u))
    have c1 := hi_ (fun W hW => put_P w0 B b t w26_ ((p4, (O45_ v q)) :: bx) W hW (show FitP (t.put w26_) from f1))
    have c3 := hi_ (fun W hW => listEx_P w0 B b v.deps q.depsa q.depsn q.depsc (t.put w26_) hv.deps ((p4, (O45_ v q)) :: bx) W hW f2)
    have c4 := hi_ (fun W hW => listAc_P w0 B b v.dos q.dosa q.dosn q.dosc (PS.round (pExs v.deps) (t.put w26_)) hv.dos ((p4, (O45_ v q)) :: bx) W hW f3)
    have c5 := hi_ (fun W hW => listAc_P w0 B b v.undo q.undoa q.undon q.undoc (PS.round (pAcs v.dos) (PS.round (pExs v.deps) (t.put w26_))) hv.undo ((p4, (O45_ v q)) :: bx) W hW hf)
    clear f1 f2 f3
    obtain ⟨x0, -⟩ := c17_ (k5.box (Mc_ m3))
    rw [he] at x0
    rw [he]
    replace he := hi_ he
    clear hv hf
    obtain ⟨S6, hS6⟩ : ∃ S, S = (S5.alloc (.cells A54_ 9)).drew := ⟨_, rfl⟩
    have k6 : PK w0 B b t ((p4, (O45_ v q)) :: bx) S6 := by rw [hS6]; exact (Kit.below (w' := (S5.alloc (.cells A54_ 9)).drew) (k5.alloc (.cells A54_ 9)) ⟨rfl, rfl, rfl, Nat.le_refl _, fun _ _ => rfl⟩).drop
    have kA := k5.alloc (.cells A54_ 9)
    have xA0 : (S5.alloc (.cells A54_ 9)).cell? ⟨p3, 0, none⟩ = some (.int .u8 6) := by
     have hY := kA.box (Mc_ (List.mem_cons_of_mem _ m3))
     unfold World.cell?; simp only [hY]; rw [← he.out]; rfl
    have xAp : (S5.alloc (.cells A54_ 9)).cell? ⟨p1, 0, none⟩ = some (.pointer (some ⟨b, 0, none⟩)) := by
     have hY := kA.box (Mc_ (List.mem_cons_of_mem _ m1))
     unfold World.cell?; simp only [hY]; rfl
    have xAg : (S5.alloc (.cells A54_ 9)).cell? ⟨S5.heap.size, 6, none⟩ = some (.string ⟨#[101, 102, 102, 101, 99, 116]⟩) := by
     have hY := kA.box M0_
     unfold World.cell?; simp only [hY]; rfl
    clear kA
    have c1a := hi_ (c1.out S6 k6)
    have hQ6 : Hid (S6 = _) := hS6
    have hg6 : S6.cell? ⟨S5.heap.size, 6, none⟩ = some (.string ⟨#[101, 102, 102, 101, 99, 116]⟩) := by
     rw [hS6]
     have := (k5.alloc (.cells A54_ 9)).box M0_
     show (S5.alloc _).cell? _ = _
     unfold World.cell?
     simp only [this]
     rfl
    clear hS6
    have xp := c1_ (k5.box (Mc_ m1))
    obtain ⟨x0, -⟩ := c17_ (k5.box (Mc_ m3))
    rw [he.out] at x0
    replace k5 := hi_ k5
    replace k6 := hi_ k6
    go_upto_region 23 with fail
    go_cut [] (fun wx => PK w0 B b (t.put w26_) ((p4, (O45_ v q)) :: bx) wx)
    case first =>
     go_region_with (first | (rw [← hQ6.out]) | (go_at_call 27; refine c1a.out.mono ?_; rintro e w1 ⟨rfl, h1⟩))
     all_goals
      replace h1 := hi_ h1
      go_wp2_with fail
      go_meet
      exact h1.out
    case rest =>
     clear x0 xp xA0 xAp xAg hg6
     replace hcut := hcut
     obtain ⟨-, -, -, -, -, -, -, -, -, -, -, -, -, x13, -⟩ := c17_ (hcut.box (Mc_ m3))
     have xp := c1_ (hcut.box (Mc_ m1))
     replace hcut := hi_ hcut
     go_wp2_with (go_at_call 54; refine (c3.out wc hcut.out).mono ?_)
     first | rintro e w2 rfl h2 | rintro e w2 ⟨rfl, h2⟩
     clear xp x13
     obtain ⟨-, -, -, -, -, -, -, -, -, -, -, -, -, -, x14, -⟩ := c17_ (h2.box (Mc_ m3))
     have xp := c1_ (h2.box (Mc_ m1))
     replace h2 := hi_ h2
     go_wp2_with (go_at_call 55; refine (c4.out w2 h2.out).mono ?_)
     first | rintro e w3 rfl h3 | rintro e w3 ⟨rfl, h3⟩
     clear xp x14
     obtain ⟨-, -, -, -, -, -, -, -, -, -, -, -, -, -, -, x15, -⟩ := c17_ (h3.box (Mc_ m3))
     have xp := c1_ (h3.box (Mc_ m1))
     replace h3 := hi_ h3
     go_wp2_with (go_at_call 55; refine (c5.out w3 h3.out).mono ?_)
     first | rintro e w4 rfl h4 | rintro e w4 ⟨rfl, h4⟩
     clear xp x15
     obtain ⟨-, -, -, -, -, -, -, -, -, -, -, -, -, ga0, -⟩ := c17_ (h4.box M0_)
     have gb0 : w4.frozen? ⟨p4, 13, none⟩ = false := fz_ (h4.box M0_)
     obtain ⟨R0, hR0⟩ : ∃ S, S = w4.setCell ⟨p4, 13, none⟩ (.slice none 0 0) := ⟨_, rfl⟩
     have hr0 : PK w0 B b (PS.round (pAcs v.undo) (PS.round (pAcs v.dos) (PS.round (pExs v.deps) (t.put w26_)))) ((p4, (O51_ v q)) :: bx) R0 := by rw [hR0]; exact h4.set 13 _
     have hQ0 : Hid (R0 = _) := hR0
     replace h4 := hi_ h4
     clear hR0
     obtain ⟨-, -, -, -, -, -, -, -, -, -, -, -, -, -, ga1, -⟩ := c17_ (hr0.box M0_)
     have gb1 : R0.frozen? ⟨p4, 14, none⟩ = false := fz_ (hr0.box M0_)
     obtain ⟨R1, hR1⟩ : ∃ S, S = R0.setCell ⟨p4, 14, none⟩ (.slice none 0 0) := ⟨_, rfl⟩
     have hr1 : PK w0 B b (PS.round (pAcs v.undo) (PS.round (pAcs v.dos) (PS.round (pExs v.deps) (t.put w26_)))) ((p4, (O52_ v q)) :: bx) R1 := by rw [hR1]; exact hr0.set 14 _
     have hQ1 : Hid (R1 = _) := hR1
     replace hr0 := hi_ hr0
     clear hR1
     obtain ⟨-, -, -, -, -, -, -, -, -, -, -, -, -, -, -, ga2, -⟩ := c17_ (hr1.box M0_)
     have gb2 : R1.frozen? ⟨p4, 15, none⟩ = false := fz_ (hr1.box M0_)
     obtain ⟨R2, hR2⟩ : ∃ S, S = R1.setCell ⟨p4, 15, none⟩ (.slice none 0 0) := ⟨_, rfl⟩
     have hr2 : PK w0 B b (PS.round (pAcs v.undo) (PS.round (pAcs v.dos) (PS.round (pExs v.deps) (t.put w26_)))) ((p4, (O53_ v q)) :: bx) R2 := by rw [hR2]; exact hr1.set 15 _
     have hQ2 : Hid (R2 = _) := hR2
     replace hr1 := hi_ hr1
     clear hR2
     go_wp2_with (first | (rw [← hQ0.out]) | (rw [← hQ1.out]) | (rw [← hQ2.out]))
     skip
     go_meet
     exact ⟨v.name, v.ctx, v.expr, q.expr, none, 0, 0, none, 0, 0, none, 0, 0, q.bodya, q.bodyn, q.bodyc, hxl.out, (by rw [hCC.out]; unfold PS.restB; simp [Bool.and_assoc, hn_body.out]), by rw [hTe.out]; exact hr2⟩
  have en6 := hi_ he
  clear he
  by_cases he : v.kind = 7
  case pos =>
   as_aux_lemma =>
    have hT : (PS.stT v (pEx v.expr) (pExs v.deps) (pAcs v.dos) (pAcs v.undo) (pSts v.body) t) = (pSts v.body (pEx v.expr (t.put w27_))) := by unfold PS.stT; simp [he]
    have hC : PS.stC v = PS.restB v false false true false false true := by unfold PS.stC; simp [he]
    rw [hTT.out, hT] at hf
    have hTe : Hid (TT = (pSts v.body (pEx v.expr (t.put w27_)))) := by show _ = _; rw [hTT.out, hT]
    have hCC : Hid (CC = PS.restB v false false true false false true) := by show _ = _; rw [hCC.out, hC]
    clear hT hC
    have f2 : FitP (pEx v.expr (t.put w27_)) := FitP.sts hv.body (show FitP (pSts v.body (pEx v.expr (t.put w27_))) from hf)
    have f1 : FitP (t.put w27_) := FitP.ex hv.expr f2
    have c1 := hi_ (fun W hW => put_P w0 B b t w27_ ((p4, (O45_ v q)) :: bx) W hW (show FitP (t.put w27_) from f1))
    have cX := hi_ (fun W hW => ex_P w0 B b v.expr q.expr (t.put w27_) hv.expr ((p4, (O45_ v q)) :: bx) W hW f2)
    have c3 := hi_ (fun W hW => hY _ _ q.bodyc (pEx v.expr (t.put w27_)) hv.body ((p4, (O45_ v q)) :: bx) W hW hf)
    clear f1 f2
    obtain ⟨x0, -⟩ := c17_ (k5.box (Mc_ m3))
    rw [he] at x0
    rw [he]
    replace he := hi_ he
    clear hv hf
    have xp := c1_ (k5.box (Mc_ m1))
    replace k5 := hi_ k5
    go_wp2_with (go_at_call 27; refine (c1.out S5 k5.out).mono ?_)
    first | rintro e w1 rfl h1 | rintro e w1 ⟨rfl, h1⟩
    clear xp x0
    obtain ⟨-, -, -, x3, x4, x5, x6, x7, x8, x9, x10, x11, x12, -⟩ := c17_ (h1.box (Mc_ m3))
    have xp := c1_ (h1.box (Mc_ m1))
    replace h1 := hi_ h1
    go_wp2_with (go_at_call 32; refine (cX.out w1 h1.out).mono ?_)
    first | rintro e w2 rfl h2 | rintro e w2 ⟨rfl, h2⟩
    clear xp x3 x4 x5 x6 x7 x8 x9 x10 x11 x12
    obtain ⟨-, -, -, -, -, -, -, -, -, -, -, -, -, -, -, -, x16⟩ := c17_ (h2.box (Mc_ m3))
    have xp := c1_ (h2.box (Mc_ m1))
    replace h2 := hi_ h2
    go_wp2_with (go_at_call 29; refine (c3.out w2 h2.out).mono ?_)
    first | rintro e w3 rfl h3 | rintro e w3 ⟨rfl, h3⟩
    clear xp x16
    have hs0 := mid_store (h3.box M0_) (cs := #[.int .u8 0, .int .i64 0, .string ⟨#[]⟩, .slice none 0 0, .slice none 0 0, .slice none 0 0, .int .u8 0, .slice none 0 0, .slice none 0 0, .string ⟨#[]⟩]) (o := 3) sizeEx_info (by simp) (by simp [Value.oneCell'])
    have hr0 : PK w0 B b (pSts v.body (pEx v.expr (t.put w27_))) ((p4, (O54_ v q)) :: bx) (w3.setRow p4 (A58_ v q)) := h3.row _
    have hs0' : (Instr.storeAt 50 (.pointer (some ⟨p4, 3, none⟩)) (.agg #[.int .u8 0, .int .i64 0, .string ⟨#[]⟩, .slice none 0 0, .slice none 0 0, .slice none 0 0, .int .u8 0, .slice none 0 0, .slice none 0 0, .string ⟨#[]⟩])).run Tryz.prog w3 = .ok () (w3.setRow p4 (A58_ v q)) := hs0
    obtain ⟨R0, hR0⟩ : ∃ S, S = w3.setRow p4 (A58_ v q) := ⟨_, rfl⟩
    rw [← hR0] at hr0 hs0'
    replace hs0' := hi_ hs0'
    replace h3 := hi_ h3
    clear hs0 hR0
    obtain ⟨-, -, -, -, -, -, -, -, -, -, -, -, -, -, -, -, ga1⟩ := c17_ (hr0.box M0_)
    have gb1 : R0.frozen? ⟨p4, 16, none⟩ = false := fz_ (hr0.box M0_)
    obtain ⟨R1, hR1⟩ : ∃ S, S = R0.setCell ⟨p4, 16, none⟩ (.slice none 0 0) := ⟨_, rfl⟩
    have hr1 : PK w0 B b (pSts v.body (pEx v.expr (t.put w27_))) ((p4, (O55_ v q)) :: bx) R1 := by rw [hR1]; exact hr0.set 16 _
    have hQ1 : Hid (R1 = _) := hR1
    replace hr0 := hi_ hr0
    clear hR1
    go_wp2_with (first | (refine st_arm hs0'.out rfl _ _ rfl rfl rfl ?_) | (rw [← hQ1.out]))
    skip
    go_meet
    exact ⟨v.name, v.ctx, zEx, zQ, q.depsa, q.depsn, q.depsc, q.dosa, q.dosn, q.dosc, q.undoa, q.undon, q.undoc, none, 0, 0, zLens, (by rw [hCC.out, zNone]; unfold PS.restB; simp [Bool.and_assoc, hn_deps.out, hn_dos.out, hn_undo.out]), by rw [hTe.out]; exact hr1⟩
  have en7 := hi_ he
  clear he
  have he : ¬ v.kind = 1 ∧ ¬ v.kind = 2 ∧ ¬ v.kind = 3 ∧ ¬ v.kind = 4 ∧ ¬ v.kind = 5 ∧ ¬ v.kind = 6 ∧ ¬ v.kind = 7 := ⟨en1.out, en2.out, en3.out, en4.out, en5.out, en6.out, en7.out⟩
  clear en1 en2 en3 en4 en5 en6 en7
  as_aux_lemma =>
   have hT : (PS.stT v (pEx v.expr) (pExs v.deps) (pAcs v.dos) (pAcs v.undo) (pSts v.body) t) = t.worse := by unfold PS.stT; simp [he.1, he.2.1, he.2.2.1, he.2.2.2.1, he.2.2.2.2.1, he.2.2.2.2.2.1, he.2.2.2.2.2.2]
   have hC : PS.stC v = PS.restB v false false false false false false := by unfold PS.stC; simp [he.1, he.2.1, he.2.2.1, he.2.2.2.1, he.2.2.2.2.1, he.2.2.2.2.2.1, he.2.2.2.2.2.2]
   rw [hTT.out, hT] at hf
   have hTe : Hid (TT = t.worse) := by show _ = _; rw [hTT.out, hT]
   have hCC : Hid (CC = PS.restB v false false false false false false) := by show _ = _; rw [hCC.out, hC]
   clear hT hC
   obtain ⟨x0, -⟩ := c17_ (k5.box (Mc_ m3))
   obtain ⟨e1, e2, e3, e4, e5, e6, e7⟩ := he
   have ue10 : (v.kind == 1) = false := by simp [e1]
   clear e1
   have ue20 : (v.kind == 2) = false := by simp [e2]
   clear e2
   have ue30 : (v.kind == 3) = false := by simp [e3]
   clear e3
   have ue40 : (v.kind == 4) = false := by simp [e4]
   clear e4
   have ue50 : (v.kind == 5) = false := by simp [e5]
   clear e5
   have ue60 : (v.kind == 6) = false := by simp [e6]
   clear e6
   have ue70 : (v.kind == 7) = false := by simp [e7]
   clear e7
   clear hv hf
   obtain ⟨zb, zf⟩ := bad_cell k5
   obtain ⟨S6, hS6⟩ : ∃ S, S = S5.setCell ⟨b, 3, none⟩ (.bool true) := ⟨_, rfl⟩
   have k6 : PK w0 B b t.worse ((p4, (O45_ v q)) :: bx) S6 := by rw [hS6]; exact worse_K k5
   have hQ6 : Hid (S6 = _) := hS6
   clear hS6
   have xp := c1_ (k5.box (Mc_ m1))
   replace k5 := hi_ k5
   go_wp2_with (rw [← hQ6.out])
   skip
   go_meet
   exact ⟨v.name, v.ctx, v.expr, q.expr, q.depsa, q.depsn, q.depsc, q.dosa, q.dosn, q.dosc, q.undoa, q.undon, q.undoc, q.bodya, q.bodyn, q.bodyc, hxl.out, (by rw [hCC.out]; unfold PS.restB; simp [Bool.and_assoc, hn_deps.out, hn_dos.out, hn_undo.out, hn_body.out]), by rw [hTe.out]; exact k6⟩
 case rest =>
  obtain ⟨n, x, e, qe, da, dn, dc, oa, on, oc, ua, un, uc, ra, rn, rc, hxl, hC, h9⟩ := hcut
  replace hxl := hi_ hxl
  replace hC := hi_ hC
  have hb4 := h9.box M0_
  have l4 := (h9.boxlt M0_).1
  have l1 := (h9.boxlt (Mc_ m1)).1
  have yp := l1_ l1 (h9.box (Mc_ m1))
  obtain ⟨-, y1, y2, y3, y4, y5, y6, y7, y8, y9, y10, y11, y12, y13, y14, y15, y16⟩ := l17_ l4 hb4
  have ue1 : (⟨#[]⟩ : ByteArray).toList = [] := by rw [ByteArray.toList_eq]
  have ue2 : ((⟨#[]⟩ : ByteArray).toList == []) = true := by rw [ue1]; rfl
  have ue3 : (⟨#[]⟩ : ByteArray).toList.isEmpty = true := by rw [ue1]; rfl
  have cMd := hi_ (fun (d : LowW wc) ok (e : ok = CC) => must_asP w0 B b TT CC _ ok d.w (h9.below d.low) e hF'.out)
  replace h9 := hi_ h9
  clear hb4 l4 l1
  go_wp2_with fail
  by_cases a_n : n.size = 0
  case neg =>
   as_aux_lemma =>
    have un := nemp_facts a_n
    obtain ⟨un1, un2, un3⟩ := un
    replace a_n := hi_ a_n
    have cI := hi_ trivial
    clear y2 y3 y4 y5 y6 y7 y8 y9 y10 y11 y12 y13 y14 y15 y16
    refine wp_region_low_last 39 rfl rfl (by kernel_rfl) (by kernel_rfl) (waits_of_F rfl (by kernel_rfl)) ?_
    simp only [List.take_succ_cons, List.take_zero]
    repeat (go_big_quiet_step (first | (go_at_call 57; exact cI.out _)))
    refine wpQuiet_nil ?_
    rintro _ ⟨d, rfl⟩ K hKK
    go_simp
    go_at_call 51
    refine (cMd.out d _ (by rw [hC.out]; simp [a_n.out])).mono ?_
    first | rintro e wz rfl hz | rintro e wz ⟨rfl, hz⟩
    refine hKK.out _ _ ?_
    clear hKK K
    replace hz := hi_ hz.drop
    go_wp2_with fail
    (try go_big_unhide)
    (try simp only [Exit.noGoto_normal])
    exact bodyPost_end (v := .tuple #[]) (results_none (by kernel_rfl) _ _ _) rfl ⟨rfl, hz.out⟩
  by_cases a_x : x.size = 0
  case neg =>
   as_aux_lemma =>
    have un := emp_facts a_n
    obtain ⟨un1, un2, un3⟩ := un
    replace a_n := hi_ a_n
    have ux := nemp_facts a_x
    obtain ⟨ux1, ux2, ux3⟩ := ux
    replace a_x := hi_ a_x
    have cI := hi_ trivial
    clear y3 y4 y5 y6 y7 y8 y9 y10 y11 y12 y13 y14 y15 y16
    refine wp_region_low_last 39 rfl rfl (by kernel_rfl) (by kernel_rfl) (waits_of_F rfl (by kernel_rfl)) ?_
    simp only [List.take_succ_cons, List.take_zero]
    repeat (go_big_quiet_step (first | (go_at_call 57; exact cI.out _)))
    refine wpQuiet_nil ?_
    rintro _ ⟨d, rfl⟩ K hKK
    go_simp
    go_at_call 51
    refine (cMd.out d _ (by rw [hC.out]; simp [a_n.out, a_x.out])).mono ?_
    first | rintro e wz rfl hz | rintro e wz ⟨rfl, hz⟩
    refine hKK.out _ _ ?_
    clear hKK K
    replace hz := hi_ hz.drop
    go_wp2_with fail
    (try go_big_unhide)
    (try simp only [Exit.noGoto_normal])
    exact bodyPost_end (v := .tuple #[]) (results_none (by kernel_rfl) _ _ _) rfl ⟨rfl, hz.out⟩
  by_cases a_e : noneB e = true
  case neg =>
   as_aux_lemma =>
    have un := emp_facts a_n
    obtain ⟨un1, un2, un3⟩ := un
    replace a_n := hi_ a_n
    have ux := emp_facts a_x
    obtain ⟨ux1, ux2, ux3⟩ := ux
    replace a_x := hi_ a_x
    replace a_e := Bool.eq_false_iff.2 a_e
    have cI := hi_ (fun d : LowW wc => none_low e qe hxl.out a_e d)
    replace a_e := hi_ a_e
    clear y13 y14 y15 y16
    refine wp_region_low_last 39 rfl rfl (by kernel_rfl) (by kernel_rfl) (waits_of_F rfl (by kernel_rfl)) ?_
    simp only [List.take_succ_cons, List.take_zero]
    repeat (go_big_quiet_step (first | (go_at_call 57; exact cI.out _)))
    refine wpQuiet_nil ?_
    rintro _ ⟨d, rfl⟩ K hKK
    go_simp
    go_at_call 51
    refine (cMd.out d _ (by rw [hC.out]; simp [a_n.out, a_x.out, a_e.out])).mono ?_
    first | rintro e wz rfl hz | rintro e wz ⟨rfl, hz⟩
    refine hKK.out _ _ ?_
    clear hKK K
    replace hz := hi_ hz.drop
    go_wp2_with fail
    (try go_big_unhide)
    (try simp only [Exit.noGoto_normal])
    exact bodyPost_end (v := .tuple #[]) (results_none (by kernel_rfl) _ _ _) rfl ⟨rfl, hz.out⟩
  by_cases a_d : dn = 0
  case neg =>
   as_aux_lemma =>
    have un := emp_facts a_n
    obtain ⟨un1, un2, un3⟩ := un
    replace a_n := hi_ a_n
    have ux := emp_facts a_x
    obtain ⟨ux1, ux2, ux3⟩ := ux
    replace a_x := hi_ a_x
    have cI := hi_ (fun d : LowW wc => none_low e qe hxl.out a_e d)
    replace a_e := hi_ a_e
    have ud := nlen_fact a_d
    replace a_d := hi_ a_d
    clear y14 y15 y16
    refine wp_region_low_last 39 rfl rfl (by kernel_rfl) (by kernel_rfl) (waits_of_F rfl (by kernel_rfl)) ?_
    simp only [List.take_succ_cons, List.take_zero]
    repeat (go_big_quiet_step (first | (go_at_call 57; exact cI.out _)))
    refine wpQuiet_nil ?_
    rintro _ ⟨d, rfl⟩ K hKK
    go_simp
    go_at_call 51
    refine (cMd.out d _ (by rw [hC.out]; simp [a_n.out, a_x.out, a_e.out, a_d.out])).mono ?_
    first | rintro e wz rfl hz | rintro e wz ⟨rfl, hz⟩
    refine hKK.out _ _ ?_
    clear hKK K
    replace hz := hi_ hz.drop
    go_wp2_with fail
    (try go_big_unhide)
    (try simp only [Exit.noGoto_normal])
    exact bodyPost_end (v := .tuple #[]) (results_none (by kernel_rfl) _ _ _) rfl ⟨rfl, hz.out⟩
  by_cases a_o : on = 0
  case neg =>
   as_aux_lemma =>
    have un := emp_facts a_n
    obtain ⟨un1, un2, un3⟩ := un
    replace a_n := hi_ a_n
    have ux := emp_facts a_x
    obtain ⟨ux1, ux2, ux3⟩ := ux
    replace a_x := hi_ a_x
    have cI := hi_ (fun d : LowW wc => none_low e qe hxl.out a_e d)
    replace a_e := hi_ a_e
    have ud := len_fact a_d
    replace a_d := hi_ a_d
    have uo := nlen_fact a_o
    replace a_o := hi_ a_o
    clear y15 y16
    refine wp_region_low_last 39 rfl rfl (by kernel_rfl) (by kernel_rfl) (waits_of_F rfl (by kernel_rfl)) ?_
    simp only [List.take_succ_cons, List.take_zero]
    repeat (go_big_quiet_step (first | (go_at_call 57; exact cI.out _)))
    refine wpQuiet_nil ?_
    rintro _ ⟨d, rfl⟩ K hKK
    go_simp
    go_at_call 51
    refine (cMd.out d _ (by rw [hC.out]; simp [a_n.out, a_x.out, a_e.out, a_d.out, a_o.out])).mono ?_
    first | rintro e wz rfl hz | rintro e wz ⟨rfl, hz⟩
    refine hKK.out _ _ ?_
    clear hKK K
    replace hz := hi_ hz.drop
    go_wp2_with fail
    (try go_big_unhide)
    (try simp only [Exit.noGoto_normal])
    exact bodyPost_end (v := .tuple #[]) (results_none (by kernel_rfl) _ _ _) rfl ⟨rfl, hz.out⟩
  by_cases a_u : un = 0
  case neg =>
   as_aux_lemma =>
    have un := emp_facts a_n
    obtain ⟨un1, un2, un3⟩ := un
    replace a_n := hi_ a_n
    have ux := emp_facts a_x
    obtain ⟨ux1, ux2, ux3⟩ := ux
    replace a_x := hi_ a_x
    have cI := hi_ (fun d : LowW wc => none_low e qe hxl.out a_e d)
    replace a_e := hi_ a_e
    have ud := len_fact a_d
    replace a_d := hi_ a_d
    have uo := len_fact a_o
    replace a_o := hi_ a_o
    have uu := nlen_fact a_u
    replace a_u := hi_ a_u
    clear y16
    refine wp_region_low_last 39 rfl rfl (by kernel_rfl) (by kernel_rfl) (waits_of_F rfl (by kernel_rfl)) ?_
    simp only [List.take_succ_cons, List.take_zero]
    repeat (go_big_quiet_step (first | (go_at_call 57; exact cI.out _)))
    refine wpQuiet_nil ?_
    rintro _ ⟨d, rfl⟩ K hKK
    go_simp
    go_at_call 51
    refine (cMd.out d _ (by rw [hC.out]; simp [a_n.out, a_x.out, a_e.out, a_d.out, a_o.out, a_u.out])).mono ?_
    first | rintro e wz rfl hz | rintro e wz ⟨rfl, hz⟩
    refine hKK.out _ _ ?_
    clear hKK K
    replace hz := hi_ hz.drop
    go_wp2_with fail
    (try go_big_unhide)
    (try simp only [Exit.noGoto_normal])
    exact bodyPost_end (v := .tuple #[]) (results_none (by kernel_rfl) _ _ _) rfl ⟨rfl, hz.out⟩
  by_cases a_r : rn = 0
  case neg =>
   as_aux_lemma =>
    have un := emp_facts a_n
    obtain ⟨un1, un2, un3⟩ := un
    replace a_n := hi_ a_n
    have ux := emp_facts a_x
    obtain ⟨ux1, ux2, ux3⟩ := ux
    replace a_x := hi_ a_x
    have cI := hi_ (fun d : LowW wc => none_low e qe hxl.out a_e d)
    replace a_e := hi_ a_e
    have ud := len_fact a_d
    replace a_d := hi_ a_d
    have uo := len_fact a_o
    replace a_o := hi_ a_o
    have uu := len_fact a_u
    replace a_u := hi_ a_u
    have ur := nlen_fact a_r
    replace a_r := hi_ a_r
    refine wp_region_low_last 39 rfl rfl (by kernel_rfl) (by kernel_rfl) (waits_of_F rfl (by kernel_rfl)) ?_
    simp only [List.take_succ_cons, List.take_zero]
    repeat (go_big_quiet_step (first | (go_at_call 57; exact cI.out _)))
    refine wpQuiet_nil ?_
    rintro _ ⟨d, rfl⟩ K hKK
    go_simp
    go_at_call 51
    refine (cMd.out d _ (by rw [hC.out]; simp [a_n.out, a_x.out, a_e.out, a_d.out, a_o.out, a_u.out, a_r.out])).mono ?_
    first | rintro e wz rfl hz | rintro e wz ⟨rfl, hz⟩
    refine hKK.out _ _ ?_
    clear hKK K
    replace hz := hi_ hz.drop
    go_wp2_with fail
    (try go_big_unhide)
    (try simp only [Exit.noGoto_normal])
    exact bodyPost_end (v := .tuple #[]) (results_none (by kernel_rfl) _ _ _) rfl ⟨rfl, hz.out⟩
  as_aux_lemma =>
   have un := emp_facts a_n
   obtain ⟨un1, un2, un3⟩ := un
   replace a_n := hi_ a_n
   have ux := emp_facts a_x
   obtain ⟨ux1, ux2, ux3⟩ := ux
   replace a_x := hi_ a_x
   have cI := hi_ (fun d : LowW wc => none_low e qe hxl.out a_e d)
   replace a_e := hi_ a_e
   have ud := len_fact a_d
   replace a_d := hi_ a_d
   have uo := len_fact a_o
   replace a_o := hi_ a_o
   have uu := len_fact a_u
   replace a_u := hi_ a_u
   have ur := len_fact a_r
   replace a_r := hi_ a_r
   refine wp_region_low_last 39 rfl rfl (by kernel_rfl) (by kernel_rfl) (waits_of_F rfl (by kernel_rfl)) ?_
   simp only [List.take_succ_cons, List.take_zero]
   repeat (go_big_quiet_step (first | (go_at_call 57; exact cI.out _)))
   refine wpQuiet_nil ?_
   rintro _ ⟨d, rfl⟩ K hKK
   go_simp
   go_at_call 51
   refine (cMd.out d _ (by rw [hC.out]; simp [a_n.out, a_x.out, a_e.out, a_d.out, a_o.out, a_u.out, a_r.out])).mono ?_
   first | rintro e wz rfl hz | rintro e wz ⟨rfl, hz⟩
   refine hKK.out _ _ ?_
   clear hKK K
   replace hz := hi_ hz.drop
   go_wp2_with fail
   (try go_big_unhide)
   (try simp only [Exit.noGoto_normal])
   exact bodyPost_end (v := .tuple #[]) (results_none (by kernel_rfl) _ _ _) rfl ⟨rfl, hz.out⟩
end Go.Proofs.YtlppklbmdedipaaGreatDoor
