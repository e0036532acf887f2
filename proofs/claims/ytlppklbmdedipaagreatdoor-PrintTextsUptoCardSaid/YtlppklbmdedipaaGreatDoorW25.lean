/- PrintTexts, part 25. -/
import Derived.Test.YtlppklbmdedipaaGreatDoorW02
import Derived.Test.YtlppklbmdedipaaGreatDoorW24
import Derived.Test.YtlppklbmdedipaaGreatDoorW20
namespace Go.Proofs.YtlppklbmdedipaaGreatDoor
open Go Go.RowKit
set_option maxHeartbeats 8000000
set_option maxRecDepth 100000
theorem stT_lo (v : St) (q : QSt) {w : World} {B : Nat} (hv : StAt w B v q) (t : PS) : t.l.length ≤ (PS.stT v (pEx v.expr) (pExs v.deps) (pAcs v.dos) (pAcs v.undo) (pSts v.body) t).l.length := by
 have r := PS.Le.refl t
 have hE := pEx_le v.expr hv.expr.ok
 have hD := fun u => pExs_le v.deps (fun v _ => pEx_le v) hv.deps.oks u
 have hO := fun u => pAcs_le v.dos (fun v _ => pAc_le v) hv.dos.oks u
 have hU := fun u => pAcs_le v.undo (fun v _ => pAc_le v) hv.undo.oks u
 have hY := fun u => pSts_le v.body (fun v _ => pSt_le v) hv.body.oks u
 unfold PS.stT
 split
 ·exact (((r.put _).plain _).trans (hE _)).lo
 split
 ·exact (((r.put _).plain _).trans (hE _)).lo
 split
 ·exact ((((r.put _).plain _).round hD).trans (hE _)).lo
 split
 ·exact (((r.put _).plain _).plain _).lo
 split
 ·exact ((((r.put _).round hD).round hO).round hU).lo
 split
 ·exact ((((r.put _).round hD).round hO).round hU).lo
 split
 ·exact (((r.put _).trans (hE _)).trans (hY _)).lo
 ·exact r.worse.lo
theorem stmt_P (w0 : World) (B b : Nat) (v : St) (hY : ∀ x ∈ v.body, StP w0 B b x) : StP w0 B b v := by
 intro q t hv
 rw [pSt_eq, PS.stmt_eq]
 intro bx w h hF
 obtain ⟨F, hFe⟩ : ∃ F, F = (fun t : PS => (PS.stT v (pEx v.expr) (pExs v.deps) (pAcs v.dos) (pAcs v.undo) (pSts v.body) t).must (PS.stC v)) := ⟨_, rfl⟩
 have hlo : t.open_.l.length ≤ (F t.open_).l.length := by rw [hFe]; exact stT_lo v q hv _
 rw [← hFe] at hF ⊢
 obtain ⟨p1, hp1⟩ : ∃ p, p = w.heap.size := ⟨_, rfl⟩
 obtain ⟨S1, hS1⟩ : ∃ S, S = w.alloc ((PB_ 35 b)) := ⟨_, rfl⟩
 have k1 : PK w0 B b t ((p1, (PB_ 35 b)) :: bx) S1 := by rw [hS1, hp1]; exact h.alloc _
 obtain ⟨p3, hp3⟩ : ∃ p, p = S1.heap.size := ⟨_, rfl⟩
 obtain ⟨S2, hS2⟩ : ∃ S, S = S1.alloc ((O2_ v q)) := ⟨_, rfl⟩
 have k2 : PK w0 B b t (L2_ p3 p1 b (O2_ v q) bx) S2 := by rw [hS2, hp3]; exact k1.alloc _
 have hW1 : Hid (S1 = _) := hS1
 have hW2 : Hid (S2 = _) := hS2
 replace hp1 := hi_ hp1
 replace hp3 := hi_ hp3
 replace h := hi_ h
 replace k1 := hi_ k1
 clear hS1 hS2
 have cR := hi_ (round_P w0 B b 53 #[.pointer (some ⟨p3, 0, none⟩), .pointer (some ⟨p1, 0, none⟩)] t F (L2_ p3 p1 b (O2_ v q) bx) S2 (enters_of Tryz.func53 (by kernel_rfl) rfl) hlo
  (fun W hW => by
   have hfi : FitP (F t.open_) := Nat.le_trans (Nat.le_succ _) hF.round
   rw [hFe] at hfi ⊢
   exact stmt1_P w0 B b v q _ p1 p3 _ W hv (Sts_P w0 B b _ hY) M1_ M0_ hW hfi) k2 hF)
 have x11 := c1_ (k2.box M1_)
 replace k2 := hi_ k2
 clear hF hv hlo hFe
 go_enter Tryz.func30, Tryz.ntmps30
 go_wp2_with (first | (rw [← hW1.out]) | (rw [← hW2.out]) | (rw [← hp1.out]) | (rw [← hp3.out]) | (go_at_call 25; refine cR.out.mono ?_))
 first | rintro e w1 rfl h1 | rintro e w1 ⟨rfl, h1⟩
 replace h1 := hi_ h1.drop.drop
 go_wp2_with fail
 exact bodyPost_end (v := .tuple #[]) (results_none (by kernel_rfl) _ _ _) rfl ⟨rfl, h1.out⟩
theorem st_P (w0 : World) (B b : Nat) (v : St) : StP w0 B b v := St.ind (P := StP w0 B b) (fun v h => stmt_P w0 B b v h) v
theorem sts_P (w0 : World) (B b : Nat) (L : List St) : StsP w0 B b L := Sts_P w0 B b L fun v _ => st_P w0 B b v
theorem show_P (w0 : World) (B b : Nat) (v : Co) (q : QCo) (t : PS) (p1 p3 : Nat) (bx : Bx) (w : World) (hv : CoAt w0 B v q)
  (m1 : (p1, (PB_ 35 b)) ∈ bx) (m3 : (p3, (O3_ v q)) ∈ bx) (h : PK w0 B b t bx w) (hF : FitP (pEx v.out (t.put w28_))) :
  Calls Tryz.prog 31 #[.pointer (some ⟨p1, 0, none⟩), .pointer (some ⟨p3, 0, none⟩)] w fun e w' => e = .returned (.tuple #[]) ∧ PK w0 B b (pEx v.out (t.put w28_)) bx w' := by
 have f1 : FitP (t.put w28_) := FitP.ex hv.out hF
 have c1 := hi_ (fun W hW => put_P w0 B b t w28_ bx W hW f1)
 have c2 := hi_ (fun W hW => ex_P w0 B b v.out q.out (t.put w28_) hv.out bx W hW hF)
 clear hF hv f1
 have xp := c1_ (h.box m1)
 have c1a := hi_ (c1.out w h)
 replace h := hi_ h
 go_enter Tryz.func31, Tryz.ntmps31
 go_wp2_with (go_at_call 27; refine c1a.out.mono ?_)
 first | rintro e w1 rfl h1 | rintro e w1 ⟨rfl, h1⟩
 clear xp
 obtain ⟨-, -, -, x3, x4, x5, x6, x7, x8, x9, x10, x11, x12⟩ := c13_ (h1.box m3)
 have xp := c1_ (h1.box m1)
 replace h1 := hi_ h1
 go_wp2_with (go_at_call 32; refine (c2.out w1 h1.out).mono ?_)
 first | rintro e w2 rfl h2 | rintro e w2 ⟨rfl, h2⟩
 clear xp x3 x4 x5 x6 x7 x8 x9 x10 x11 x12
 replace h2 := hi_ h2
 go_wp2_with fail
 exact bodyPost_end (v := .tuple #[]) (results_none (by kernel_rfl) _ _ _) rfl ⟨rfl, h2.out⟩
theorem comp1_P (w0 : World) (B b : Nat) (v : Co) (q : QCo) (t : PS) (p1 p3 : Nat) (bx : Bx) (w : World) (hv : CoAt w0 B v q)
  (m1 : (p1, (PB_ 35 b)) ∈ bx) (m3 : (p3, (O3_ v q)) ∈ bx) (h : PK w0 B b t bx w) (hF : FitP (PS.round (fun t : PS => pEx v.out (t.put w28_)) (pSts v.body (((t.put w29_).plain v.name).plain v.param)))) :
  Calls Tryz.prog 26 #[.pointer (some ⟨p1, 0, none⟩), .pointer (some ⟨p3, 0, none⟩)] w fun e w' => e = .returned (.tuple #[]) ∧ PK w0 B b (PS.round (fun t : PS => pEx v.out (t.put w28_)) (pSts v.body (((t.put w29_).plain v.name).plain v.param))) bx w' := by
 have hle := fun u : PS => (((PS.Le.refl u).put w28_).trans (pEx_le v.out hv.out.ok _))
 have f5 : FitP (pSts v.body (((t.put w29_).plain v.name).plain v.param)) := hF.of ((PS.Le.refl _).round hle)
 have f4 : FitP (((t.put w29_).plain v.name).plain v.param) := FitP.sts hv.body f5
 have f3 : FitP ((t.put w29_).plain v.name) := f4.plain
 have f2 : FitP (t.put w29_) := f3.plain
 have c1 := hi_ (fun W hW => put_P w0 B b t w29_ bx W hW f2)
 have c2 := hi_ (fun W hW => plain_P w0 B b (t.put w29_) v.name hv.name bx W hW f3)
 have c3 := hi_ (fun W hW => plain_P w0 B b ((t.put w29_).plain v.name) v.param hv.param bx W hW f4)
 have c4 := hi_ (fun W hW => sts_P w0 B b v.body q.bodya q.bodyn q.bodyc (((t.put w29_).plain v.name).plain v.param) hv.body bx W hW f5)
 have c5 := hi_ (fun W hW => round_P w0 B b 31 #[.pointer (some ⟨p1, 0, none⟩), .pointer (some ⟨p3, 0, none⟩)] (pSts v.body (((t.put w29_).plain v.name).plain v.param)) (fun t : PS => pEx v.out (t.put w28_)) bx W (enters_of Tryz.func31 (by kernel_rfl) rfl) (hle _).lo
  (fun W hW => show_P w0 B b v q _ p1 p3 bx W hv m1 m3 hW (Nat.le_trans (Nat.le_succ _) hF.round)) hW hF)
 clear hF hv f2 f3 f4 f5 hle
 have xp := c1_ (h.box m1)
 have c1a := hi_ (c1.out w h)
 replace h := hi_ h
 go_enter Tryz.func26, Tryz.ntmps26
 go_wp2_with (go_at_call 27; refine c1a.out.mono ?_)
 first | rintro e w1 rfl h1 | rintro e w1 ⟨rfl, h1⟩
 clear xp
 obtain ⟨x0, -⟩ := c13_ (h1.box m3)
 have xp := c1_ (h1.box m1)
 replace h1 := hi_ h1
 go_wp2_with (go_at_call 28; refine (c2.out w1 h1.out).mono ?_)
 first | rintro e w2 rfl h2 | rintro e w2 ⟨rfl, h2⟩
 clear xp x0
 obtain ⟨-, x1, -⟩ := c13_ (h2.box m3)
 have xp := c1_ (h2.box m1)
 replace h2 := hi_ h2
 go_wp2_with (go_at_call 28; refine (c3.out w2 h2.out).mono ?_)
 first | rintro e w3 rfl h3 | rintro e w3 ⟨rfl, h3⟩
 clear xp x1
 obtain ⟨-, -, x2, -⟩ := c13_ (h3.box m3)
 have xp := c1_ (h3.box m1)
 replace h3 := hi_ h3
 go_wp2_with (go_at_call 29; refine (c4.out w3 h3.out).mono ?_)
 first | rintro e w4 rfl h4 | rintro e w4 ⟨rfl, h4⟩
 clear xp x2
 have xp := c1_ (h4.box m1)
 replace h4 := hi_ h4
 go_wp2_with (go_at_call 25; refine (c5.out w4 h4.out).mono ?_)
 first | rintro e w5 rfl h5 | rintro e w5 ⟨rfl, h5⟩
 clear xp
 replace h5 := hi_ h5
 go_wp2_with fail
 exact bodyPost_end (v := .tuple #[]) (results_none (by kernel_rfl) _ _ _) rfl ⟨rfl, h5.out⟩
theorem PK.nameK {w0 : World} {B b : Nat} {t : PS} {bx : Bx} {w : World} (h : PK w0 B b t bx w) (s : ByteArray) (hs : s.size ≤ 140737488355328) : PK w0 B b { t with name := s } bx (w.setCell ⟨b, 4, none⟩ (.string s)) := h.head (C' := PC b { t with name := s }) 4 _ (by
 rintro v cs ⟨⟨p, hp, rfl⟩, h2, _, h4⟩
 exact ⟨⟨p, hp, rfl⟩, h2, hs, h4⟩)
theorem PK.deedK {w0 : World} {B b : Nat} {t : PS} {bx : Bx} {w : World} (h : PK w0 B b t bx w) : PK w0 B b { t with deeds := 0 } bx (w.setCell ⟨b, 5, none⟩ (.int .i64 0)) := h.head (C' := PC b { t with deeds := 0 }) 5 _ (by
 rintro v cs ⟨⟨p, hp, rfl⟩, h2, h3, h4⟩
 exact ⟨⟨p, hp, rfl⟩, (by show (Lit.int .i64 0).wf = true; decide), h3, h4⟩)
theorem PK.drew {w0 : World} {B b : Nat} {t : PS} {bx : Bx} {w : World} (h : PK w0 B b t bx w) : PK w0 B b t bx w.drew := Kit.below h (Below.refl _ _).drew
theorem component_P (w0 : World) (B b : Nat) (v : Co) (q : QCo) (t : PS) (hv : CoAt w0 B v q) : DoesP w0 B b 13 #[.pointer (some ⟨b, 0, none⟩), .agg (A3_ v q)] t (pCo v t) := by
 unfold A3_
 intro bx w h hF
 have hEq : pCo v t = (PS.round (fun t : PS => PS.round (fun t : PS => pEx v.out (t.put w28_)) (pSts v.body (((t.put w29_).plain v.name).plain v.param))) (t.start v.name)).nl := by unfold pCo PS.comp; rfl
 rw [hEq] at hF ⊢
 clear hEq
 have hfN : (PS.round (fun t : PS => PS.round (fun t : PS => pEx v.out (t.put w28_)) (pSts v.body (((t.put w29_).plain v.name).plain v.param))) (t.start v.name)).l.length + 1 ≤ 1073741824 := by have := hF; unfold FitP PS.nl at this; simpa using this
 have fR : FitP (PS.round (fun t : PS => PS.round (fun t : PS => pEx v.out (t.put w28_)) (pSts v.body (((t.put w29_).plain v.name).plain v.param))) (t.start v.name)) := Nat.le_trans (Nat.le_succ _) hfN
 have hlo : (t.start v.name).open_.l.length ≤ ((fun t : PS => PS.round (fun t : PS => pEx v.out (t.put w28_)) (pSts v.body (((t.put w29_).plain v.name).plain v.param))) (t.start v.name).open_).l.length :=
  (((((PS.Le.refl _).put w29_).plain v.name).plain v.param).trans (pSts_le v.body (fun v _ => pSt_le v) hv.body.oks _) |>.round (fun u => (((PS.Le.refl u).put w28_).trans (pEx_le v.out hv.out.ok _)))).lo
 have hnm := hv.name
 obtain ⟨p1, hp1⟩ : ∃ p, p = w.heap.size := ⟨_, rfl⟩
 obtain ⟨S1, hS1⟩ : ∃ S, S = w.alloc ((PB_ 35 b)) := ⟨_, rfl⟩
 have k1 : PK w0 B b t ((p1, (PB_ 35 b)) :: bx) S1 := by rw [hS1, hp1]; exact h.alloc _
 obtain ⟨p3, hp3⟩ : ∃ p, p = S1.heap.size := ⟨_, rfl⟩
 obtain ⟨S2, hS2⟩ : ∃ S, S = S1.alloc ((O3_ v q)) := ⟨_, rfl⟩
 have k2 : PK w0 B b t (L2_ p3 p1 b (O3_ v q) bx) S2 := by rw [hS2, hp3]; exact k1.alloc _
 have hW1 : Hid (S1 = _) := hS1
 have hW2 : Hid (S2 = _) := hS2
 replace hp1 := hi_ hp1
 replace hp3 := hi_ hp3
 replace h := hi_ h
 replace k1 := hi_ k1
 clear hS1 hS2
 have cR := hi_ (fun W hW => round_P w0 B b 26 #[.pointer (some ⟨p1, 0, none⟩), .pointer (some ⟨p3, 0, none⟩)] (t.start v.name) (fun t : PS => PS.round (fun t : PS => pEx v.out (t.put w28_)) (pSts v.body (((t.put w29_).plain v.name).plain v.param))) (L2_ p3 p1 b (O3_ v q) bx) W (enters_of Tryz.func26 (by kernel_rfl) rfl) hlo
  (fun W hW => comp1_P w0 B b v q _ p1 p3 _ W hv M1_ M0_ hW (Nat.le_trans (Nat.le_succ _) fR.round)) hW fR)
 have cB := hi_ (fun W hW => wbyte_P w0 B b (PS.round (fun t : PS => PS.round (fun t : PS => pEx v.out (t.put w28_)) (pSts v.body (((t.put w29_).plain v.name).plain v.param))) (t.start v.name)) 10 (L2_ p3 p1 b (O3_ v q) bx) W hW hfN)
 obtain ⟨pA, vA, hpA, hbA, _⟩ := PK.cells k2
 have xp := c1_ (k2.box M1_)
 obtain ⟨x0, -⟩ := c13_ (k2.box M0_)
 have z2 : S2.cell? ⟨b, 2, none⟩ = some (.bool t.be) := by simp [World.cell?, hbA]
 have z4 : S2.cell? ⟨b, 4, none⟩ = some (.string t.name) := by simp [World.cell?, hbA]
 have z5 : S2.cell? ⟨b, 5, none⟩ = some (.int .i64 t.deeds) := by simp [World.cell?, hbA]
 have y2 : S2.frozen? ⟨b, 2, none⟩ = false := fz_ hbA
 have y4 : S2.frozen? ⟨b, 4, none⟩ = false := fz_ hbA
 have y5 : S2.frozen? ⟨b, 5, none⟩ = false := fz_ hbA
 have hst := hi_ (be_K ((k2.nameK v.name hnm).deedK) false).drew
 replace k2 := hi_ k2
 clear hF hfN fR hlo hv hbA hpA hnm
 go_enter Tryz.func13, Tryz.ntmps13
 go_upto_region 1 with (first | (rw [← hW1.out]) | (rw [← hW2.out]) | (rw [← hp1.out]) | (rw [← hp3.out]))
 go_cut [] (fun wx => PK w0 B b (t.start v.name) (L2_ p3 p1 b (O3_ v q) bx) wx)
 case first =>
  go_region
  all_goals
   go_wp2_with fail
   go_meet
   exact hst.out
 case rest =>
  clear z2 z4 z5 y2 y4 y5 xp x0 hst
  have xp := c1_ (hcut.box M1_)
  replace hcut := hi_ hcut
  go_wp2_with (go_at_call 25; refine (cR.out wc hcut.out).mono ?_)
  first | rintro e w2 rfl h2 | rintro e w2 ⟨rfl, h2⟩
  clear xp
  have xp := c1_ (h2.box M1_)
  replace h2 := hi_ h2
  go_wp2_with (go_at_call 33; refine (cB.out w2 h2.out).mono ?_)
  first | rintro e w3 rfl h3 | rintro e w3 ⟨rfl, h3⟩
  clear xp
  replace h3 := hi_ h3.drop.drop
  go_wp2_with fail
  exact bodyPost_end (v := .tuple #[]) (results_none (by kernel_rfl) _ _ _) rfl ⟨rfl, h3.out⟩
def CoP (w0 : World) (B b : Nat) (v : Co) : Prop := ∀ (q : QCo) (t : PS), CoAt w0 B v q → DoesP w0 B b 13 #[.pointer (some ⟨b, 0, none⟩), .agg #[.string v.name, .string v.param, .slice q.bodya q.bodyn q.bodyc, .int .u8 v.out.kind, .int .i64 v.out.n, .string v.out.s, .slice q.out.argsa q.out.argsn q.out.argsc, .slice q.out.namesa q.out.namesn q.out.namesc, .slice q.out.valsa q.out.valsn q.out.valsc, .int .u8 v.out.elem, .slice q.out.keya q.out.keyn q.out.keyc, .slice q.out.actsa q.out.actsn q.out.actsc, .string v.out.site]] t (pCo v t)
def CosP (w0 : World) (B b : Nat) (L : List Co) : Prop := ∀ (a : Option Addr) (n c : Nat) (t : PS), CoLs w0 B L a n → DoesP w0 B b 12 #[.slice a n c, (.func (.func 13) #[.pointer (some ⟨b, 0, none⟩)] #[])] t (pCos L t)
theorem Cos_P (w0 : World) (B b : Nat) (L : List Co) (hS : ∀ v ∈ L, CoP w0 B b v) : CosP w0 B b L := by
 intro a n c t hL bx w h hF
 have hn := hL.len.2
 have hln := hL.len.1
 rw [List.length_map] at hln
 replace h := hi_ h
 replace hF := hi_ hF
 replace hln := hi_ hln
 go_enter Tryz.func12, Tryz.ntmps12
 go_wp2_with fail
 go_loopw [8] (fun i wr => ∃ k : Nat, k ≤ n ∧ i = .int .i64 (k : Nat) ∧ PK w0 B b (pCos (L.take k) t) bx wr) (fun i _ => n - (intOf i).toNat)
 case atStart => exact ⟨0, Nat.zero_le _, rfl, h.out⟩
 case round =>
  obtain ⟨k, hk, rfl, hK⟩ := hrel
  by_cases hlt : k < n
  ·have hlt9 : Hid (k + 1 ≤ n) := hlt
   obtain ⟨b2, o2, v, q, rfl, hb2, hg2, hc2, hv2⟩ := CoLs.elem hL k hlt
   have hsn := hi_ (pCos_snoc hg2 t)
   obtain ⟨Z, hZl, hZ1, hZs, cS0⟩ : ∃ Z : Array Value, (Instr.loadAt 52 (.pointer (some ⟨b2, o2 + k * 13, none⟩))).run Tryz.prog wr = .ok (.agg Z) wr ∧ Hid (Z.all (·.oneCell') = true) ∧ Hid (Z.size = 13) ∧ Hid (∀ bx' W, PK w0 B b (pCos (L.take k) t) bx' W → Calls Tryz.prog 13 #[.pointer (some ⟨b, 0, none⟩), .agg Z] W fun e w' => e = .returned (.tuple #[]) ∧ PK w0 B b (pCos (L.take (k + 1)) t) bx' w') := by
    refine ⟨q.arr v, Co_load (fun j hj => by rw [Nat.add_assoc]; exact (hK.low.cell (p := ⟨b2, o2 + (k * 13 + j), none⟩) hb2).trans (hc2 j hj)), q.one v, rfl, fun bx' W hW => ?_⟩
    have := hS v (List.mem_of_getElem? hg2) q _ hv2 bx' W hW (by rw [← hsn.out]; exact FitP.cos_take hL hF.out (k + 1))
    rw [← hsn.out] at this
    exact this
   obtain ⟨S4, hS4⟩ : ∃ S4, S4 = wr.alloc (.cells A7_ 52) := ⟨_, rfl⟩
   have h4 := hK.alloc (.cells A7_ 52)
   rw [← hS4] at h4
   have hst := row_store (h4.box M0_) (cs := Z) (by rw [hZs.out]; exact sizeCo_info) (by rw [hZs.out]; rfl) hZ1.out
   have h5 := h4.row Z
   obtain ⟨S5, hS5⟩ : ∃ S5, S5 = S4.setRow wr.heap.size Z := ⟨_, rfl⟩
   rw [← hS5] at h5 hst
   have hl5 := row_load (h5.box M0_) Tryz.underlying52 rfl (by rw [hZs.out]; exact sizeCo_info)
   have cS := hi_ (cS0.out _ S5 h5)
   have hW4 : Hid (S4 = _) := hS4
   replace hZl := hi_ hZl
   replace hst := hi_ hst
   replace hl5 := hi_ hl5
   replace hK := hi_ hK
   replace h4 := hi_ h4
   replace h5 := hi_ h5
   clear hc2 hv2 hg2 hS5 hS4 cS0
   go_wp2_with (first | (rw [← hW4.out]) | (refine ld_arm hZl.out rfl _ rfl rfl ?_) | (refine ld_arm hl5.out rfl _ rfl rfl ?_) | (refine st_arm hst.out rfl _ _ rfl rfl rfl ?_) | (go_at_call 13; refine cS.out.mono ?_))
   first | rintro e w3 rfl hK3 | rintro e w3 ⟨rfl, hK3⟩
   replace hK3 := hi_ hK3.drop
   clear hl5 hst hZl
   go_wp2_with fail
   go_roundw
   case rel => exact ⟨k + 1, hlt9.out, by go_num, hK3.out⟩
   case measure => simp [intOf]; have := hlt9.out; omega
  ·obtain rfl : k = n := by omega
   have hfin : Hid (PK w0 B b (pCos L t) bx wr) := by
    rw [List.take_of_length_le (by rw [hln.out]; exact Nat.le_refl _)] at hK
    exact hK
   clear hK
   go_wp2_with fail
   exact bodyPost_end (v := .tuple #[]) (results_none (by kernel_rfl) _ _ _) rfl ⟨rfl, hfin.out⟩
theorem cos_P (w0 : World) (B b : Nat) (L : List Co) : CosP w0 B b L := Cos_P w0 B b L fun v _ q t hv => component_P w0 B b v q t hv
theorem PK.new (w : World) (hE : Lx.Env w) : PK w w.heap.size w.heap.size pS0 [] (w.alloc (.cells A60_ 41)) :=
 ⟨⟨.slice none 0 0, _, ⟨⟨.pointer none, .inl rfl, rfl⟩, by decide, by decide, fun _ => rfl⟩, heap_alloc_new w _, World.ownsRow_nil _ _ _ _, by simp [Value.ownBlock], fun x hx => by cases hx⟩, List.Pairwise.nil, Nat.le_refl _, (Below.refl _ _).alloc (Nat.le_refl _) _, Nat.le_refl _, hE, hE.size⟩
theorem len_P (w0 : World) (B b : Nat) (t : PS) (bx : Bx) (w : World) (h : PK w0 B b t bx w) :
  Calls Tryz.prog 14 #[.pointer (some ⟨b, 0, none⟩)] w fun e w' => e = .returned (.int .i64 (t.l.length : Int)) ∧ w' = w := by
 obtain ⟨p, v, _, hb, hown, _⟩ := PK.cells h
 obtain ⟨ao, cap, rfl⟩ := slice_of hown
 have c1 : w.cell? ⟨b, 1, none⟩ = some (.slice ao t.l.length cap) := by simp [World.cell?, hb]
 clear hb hown h
 go_enter Tryz.func14, Tryz.ntmps14
 go_wp2_with fail
 go_ret
 exact ⟨rfl, rfl⟩
theorem progText_any (L : List Co) (a : Option Addr) (n c : Nat) (w0 : World) (hE : Lx.Env w0) (hL : CoLs w0 w0.heap.size L a n) (hF : FitP (pCos L pS0)) :
  Calls Tryz.prog 7 #[.slice a n c] w0 fun e w' => e = .returned (.tuple #[.string (tellB (pCos L pS0).bad (pCos L pS0).l).1, .int .i64 (tellB (pCos L pS0).bad (pCos L pS0).l).2]) ∧ Below w0.heap.size w0 w' := by
 obtain ⟨b, hb⟩ : ∃ b, b = w0.heap.size := ⟨_, rfl⟩
 obtain ⟨S, hS⟩ : ∃ S, S = w0.alloc (.cells A60_ 41) := ⟨_, rfl⟩
 have h0 : PK w0 b b pS0 [] S := by rw [hS, hb]; exact PK.new w0 hE
 have hWS : Hid (S = _) := hS
 rw [← hb] at hL
 have hbe : Hid (b = w0.heap.size) := hb
 rw [← hb]
 have cS := hi_ (cos_P w0 b b L a n c pS0 hL [] S h0 hF)
 have hF' := hi_ hF
 obtain ⟨T, hT⟩ : ∃ T, T = pCos L pS0 := ⟨_, rfl⟩
 rw [← hT] at cS hF' ⊢
 clear hS hb hE hF hT hL
 replace h0 := hi_ h0
 obtain ⟨EN0, hEN⟩ : ∃ E : Ending, E = .returned (.tuple #[.string (tellB T.bad T.l).1, .int .i64 (tellB T.bad T.l).2]) := ⟨_, rfl⟩
 rw [← hEN]
 replace hEN := hi_ hEN
 go_enter Tryz.func7, Tryz.ntmps7
 go_wp2_with (first | (rw [← hWS.out]) | (rw [← hbe.out]) | (go_at_call 12; refine cS.out.mono ?_))
 first | rintro e w1 rfl h1 | rintro e w1 ⟨rfl, h1⟩
 obtain ⟨p, v, _, hbq, _⟩ := PK.cells h1
 have x3 : w1.cell? ⟨b, 3, none⟩ = some (.bool T.bad) := by simp [World.cell?, hbq]
 have hlow : Hid (Below b w0 w1) := h1.low
 have cL := len_P w0 b b T [] w1 h1
 obtain ⟨v2, hbat, hvB, _⟩ := h1.bat
 have cT := Pr.text_any T 41 b b v2 T.l w1 hbat hvB
 obtain ⟨l, hl⟩ : ∃ l, l = T.l := ⟨_, rfl⟩
 obtain ⟨bad, hbad⟩ : ∃ x, x = T.bad := ⟨_, rfl⟩
 have hEN2 : Hid (EN0 = .returned (.tuple #[.string (tellB bad l).1, .int .i64 (tellB bad l).2])) := by show _ = _; rw [hl, hbad]; exact hEN.out
 rw [← hl] at cL cT
 rw [← hbad] at x3
 replace cL := hi_ cL
 replace cT := hi_ cT
 replace h1 := hi_ h1
 replace hl := hi_ hl
 replace hbad := hi_ hbad
 clear hbq hbat hvB
 cases bad
 ·by_cases hlen : 65536 < l.length
  ·have hlen' : (65536 : Int) < (l.length : Int) := by omega
   have hlen9 := hi_ hlen
   clear hlen
   go_wp2_with (go_at_call 14; refine cL.out.mono ?_)
   first | rintro e w2 rfl hw2 | rintro e w2 ⟨rfl, hw2⟩
   obtain rfl : w1 = w2 := hw2.symm
   go_wp2_with fail
   go_ret2
   exact ⟨by rw [hEN2.out]; unfold tellB; rw [if_neg (by decide), if_pos hlen9.out]; rfl, hlow.out⟩
  ·have hlen' : ¬ (65536 : Int) < (l.length : Int) := by omega
   have hlen9 := hi_ hlen
   clear hlen
   go_wp2_with (go_at_call 14; refine cL.out.mono ?_)
   first | rintro e w2 rfl hw2 | rintro e w2 ⟨rfl, hw2⟩
   obtain rfl : w1 = w2 := hw2.symm
   go_wp2_with (go_at_call 15; refine cT.out.mono ?_)
   first | rintro e w3 rfl h3 | rintro e w3 ⟨rfl, h3⟩
   have hfin := hi_ (hlow.out.trans h3)
   clear h3
   go_wp2_with fail
   go_ret2
   exact ⟨by rw [hEN2.out]; unfold tellB; rw [if_neg (by decide), if_neg hlen9.out]; rfl, hfin.out⟩
 ·go_wp2_with fail
  go_ret2
  exact ⟨by rw [hEN2.out]; rfl, hlow.out⟩
theorem esc_ge (l : List UInt8) : l.length ≤ (escL l).length := by
 induction l with
 | nil => exact Nat.le_refl _
 | cons c r ih =>
  simp only [escL, List.length_append, List.length_cons]
  split
  ·simp; omega
  ·split <;> simp <;> omega
theorem quote_ge (l : List UInt8) : l.length ≤ (quoteL l).length := by
 have := esc_ge l
 unfold quoteL
 rw [List.length_cons, List.length_append]; omega
theorem expr0_R (w0 : World) (B b : Nat) (v : Ex) (q : QEx) (t : RS) (he : v.kind = 0) (hv : ExAt w0 B v q) : DoesR w0 B b 20 #[.pointer (some ⟨b, 0, none⟩), .agg (A0_ v q)] t ((RS.expr v (rExs v.args) (rExs v.vals) (rExs v.key) (rAcs v.acts) (rPairs v.vals v.names)) t) := by
 unfold A0_
 intro bx w h hF
 have hL := hi_ hv.lens
 have hmx := ExLens.maxes hv
 have hs := hv.s
 have hn := hv.n
 have hEq : (RS.expr v (rExs v.args) (rExs v.vals) (rExs v.key) (rAcs v.acts) (rPairs v.vals v.names)) t = (t.must (noneB v)).put w1_ := by
  unfold RS.expr
  rw [if_pos he]
 rw [hEq] at hF ⊢
 clear hEq
 have f1 : FitR (t.must (noneB v)) := FitR.put hF
 obtain ⟨S, hS⟩ : ∃ S, S = w.alloc ((O0_ v q)) := ⟨_, rfl⟩
 have h0 : RK w0 B b t ((w.heap.size, (O0_ v q)) :: bx) S := by rw [hS]; exact h.alloc _
 have hWS : Hid (S = _) := hS
 clear hS
 replace h := hi_ h
 have cM := hi_ (must_as w0 B b t (noneB v) ((w.heap.size, (O0_ v q)) :: bx) f1)
 have c1 := hi_ (fun W hW => put_R w0 B b (t.must (noneB v)) w1_ ((w.heap.size, (O0_ v q)) :: bx) W hW hF)
 clear f1
 have hag : Hid (Value.agg #[.int .u8 v.kind, .int .i64 v.n, .string v.s, .slice q.argsa q.argsn q.argsc, .slice q.namesa q.namesn q.namesc, .slice q.valsa q.valsn q.valsc, .int .u8 v.elem, .slice q.keya q.keyn q.keyc, .slice q.actsa q.actsn q.actsc, .string v.site] = .agg #[.int .u8 0, .int .i64 v.n, .string v.s, .slice q.argsa q.argsn q.argsc, .slice q.namesa q.namesn q.namesc, .slice q.valsa q.valsn q.valsc, .int .u8 v.elem, .slice q.keya q.keyn q.keyc, .slice q.actsa q.actsn q.actsc, .string v.site]) := by show _ = _; rw [he]
 have hv' := hi_ hv
 replace he := hi_ he
 clear hF hv
 go_enter Tryz.func20, Tryz.ntmps20
 obtain ⟨x0, x1, x2, x3, x4, x5, x6, x7, x8, x9⟩ := c10_ (h0.box M0_)
 rw [he.out] at x0
 have cB := none_any v q S hL.out
 rw [hag.out] at cB
 replace cB := hi_ cB
 replace h0 := hi_ h0
 go_wp2_with (first | (rw [← hWS.out]) | (go_at_call 38; refine cB.out.mono ?_))
 first | rintro e w1 rfl hbw1 | rintro e w1 ⟨rfl, hbw1⟩
 clear x0 x1 x2 x3 x4 x5 x6 x7 x8 x9
 have h1 := h0.out.below hbw1
 replace hbw1 := hi_ hbw1
 replace h1 := hi_ h1
 go_wp2_with (go_at_call 34; refine (cM.out _ _ h1.out rfl).mono ?_)
 first | rintro e w2 rfl h2 | rintro e w2 ⟨rfl, h2⟩
 replace h2 := hi_ h2
 go_wp2_with (go_at_call 17; refine (c1.out w2 h2.out).mono ?_)
 first | rintro e w4 rfl h4 | rintro e w4 ⟨rfl, h4⟩
 replace h4 := hi_ h4.drop
 go_wp2_with fail
 exact bodyPost_end (v := .tuple #[]) (results_none (by kernel_rfl) _ _ _) rfl ⟨rfl, h4.out⟩
theorem expr1_R (w0 : World) (B b : Nat) (v : Ex) (q : QEx) (t : RS) (he : v.kind = 1) (hv : ExAt w0 B v q) : DoesR w0 B b 20 #[.pointer (some ⟨b, 0, none⟩), .agg (A0_ v q)] t ((RS.expr v (rExs v.args) (rExs v.vals) (rExs v.key) (rAcs v.acts) (rPairs v.vals v.names)) t) := by
 unfold A0_
 intro bx w h hF
 have hL := hi_ hv.lens
 have hmx := ExLens.maxes hv
 have hs := hv.s
 have hn := hv.n
 have hEq : (RS.expr v (rExs v.args) (rExs v.vals) (rExs v.key) (rAcs v.acts) (rPairs v.vals v.names)) t = (t.must (bareB v true false false false false)).put (Lib.itoa v.n) := by
  unfold RS.expr
  rw [if_neg (by omega), if_pos he]
 rw [hEq] at hF ⊢
 clear hEq
 have f1 : FitR (t.must (bareB v true false false false false)) := FitR.put hF
 obtain ⟨S, hS⟩ : ∃ S, S = w.alloc ((O0_ v q)) := ⟨_, rfl⟩
 have h0 : RK w0 B b t ((w.heap.size, (O0_ v q)) :: bx) S := by rw [hS]; exact h.alloc _
 have hWS : Hid (S = _) := hS
 clear hS
 replace h := hi_ h
 have cM := hi_ (must_as w0 B b t (bareB v true false false false false) ((w.heap.size, (O0_ v q)) :: bx) f1)
 have c1 := hi_ (fun W hW => put_R w0 B b (t.must (bareB v true false false false false)) (Lib.itoa v.n) ((w.heap.size, (O0_ v q)) :: bx) W hW hF)
 have hn9 := n64 hn
 have cD := hi_ (fun W => refDigits_any v.n W hn9.1 hn9.2)
 clear f1 hn9
 have hag : Hid (Value.agg #[.int .u8 v.kind, .int .i64 v.n, .string v.s, .slice q.argsa q.argsn q.argsc, .slice q.namesa q.namesn q.namesc, .slice q.valsa q.valsn q.valsc, .int .u8 v.elem, .slice q.keya q.keyn q.keyc, .slice q.actsa q.actsn q.actsc, .string v.site] = .agg #[.int .u8 1, .int .i64 v.n, .string v.s, .slice q.argsa q.argsn q.argsc, .slice q.namesa q.namesn q.namesc, .slice q.valsa q.valsn q.valsc, .int .u8 v.elem, .slice q.keya q.keyn q.keyc, .slice q.actsa q.actsn q.actsc, .string v.site]) := by show _ = _; rw [he]
 have hv' := hi_ hv
 replace he := hi_ he
 clear hF hv
 go_enter Tryz.func20, Tryz.ntmps20
 obtain ⟨x0, x1, x2, x3, x4, x5, x6, x7, x8, x9⟩ := c10_ (h0.box M0_)
 rw [he.out] at x0
 have cB := bare_any v q true false false false S hL.out
 rw [hag.out] at cB
 replace cB := hi_ cB
 replace h0 := hi_ h0
 go_wp2_with (first | (rw [← hWS.out]) | (go_at_call 40; refine cB.out.mono ?_))
 first | rintro e w1 rfl hbw1 | rintro e w1 ⟨rfl, hbw1⟩
 clear x0 x1 x2 x3 x4 x5 x6 x7 x8 x9
 have h1 := h0.out.below hbw1
 replace hbw1 := hi_ hbw1
 replace h1 := hi_ h1
 go_wp2_with (go_at_call 34; refine (cM.out _ _ h1.out rfl).mono ?_)
 first | rintro e w2 rfl h2 | rintro e w2 ⟨rfl, h2⟩
 obtain ⟨-, x1, -⟩ := c10_ (h2.box M0_)
 replace h2 := hi_ h2
 go_wp2_with (go_at_call 41; refine (cD.out _).mono ?_)
 first | rintro e w3 rfl hbw3 | rintro e w3 ⟨rfl, hbw3⟩
 clear x1
 have h3 := h2.out.below hbw3
 replace hbw3 := hi_ hbw3
 replace h3 := hi_ h3
 go_wp2_with (go_at_call 17; refine (c1.out w3 h3.out).mono ?_)
 first | rintro e w4 rfl h4 | rintro e w4 ⟨rfl, h4⟩
 replace h4 := hi_ h4.drop
 go_wp2_with fail
 exact bodyPost_end (v := .tuple #[]) (results_none (by kernel_rfl) _ _ _) rfl ⟨rfl, h4.out⟩
theorem expr2_R (w0 : World) (B b : Nat) (v : Ex) (q : QEx) (t : RS) (he : v.kind = 2) (hv : ExAt w0 B v q) : DoesR w0 B b 20 #[.pointer (some ⟨b, 0, none⟩), .agg (A0_ v q)] t ((RS.expr v (rExs v.args) (rExs v.vals) (rExs v.key) (rAcs v.acts) (rPairs v.vals v.names)) t) := by
 unfold A0_
 intro bx w h hF
 have hL := hi_ hv.lens
 have hmx := ExLens.maxes hv
 have hs := hv.s
 have hn := hv.n
 have hEq : (RS.expr v (rExs v.args) (rExs v.vals) (rExs v.key) (rAcs v.acts) (rPairs v.vals v.names)) t = (t.must (bareB v true false false false false && (decide (v.n = 0) || decide (v.n = 1)))).put (if v.n = 1 then yesL else noL) := by
  unfold RS.expr
  rw [if_neg (by omega), if_neg (by omega), if_pos he]
 rw [hEq] at hF ⊢
 clear hEq
 have f1 : FitR (t.must (bareB v true false false false false && (decide (v.n = 0) || decide (v.n = 1)))) := FitR.put hF
 obtain ⟨S, hS⟩ : ∃ S, S = w.alloc ((O0_ v q)) := ⟨_, rfl⟩
 have h0 : RK w0 B b t ((w.heap.size, (O0_ v q)) :: bx) S := by rw [hS]; exact h.alloc _
 have hWS : Hid (S = _) := hS
 clear hS
 replace h := hi_ h
 obtain ⟨TF, hTF⟩ : ∃ TF, TF = (t.must (bareB v true false false false false && (decide (v.n = 0) || decide (v.n = 1)))).put (if v.n = 1 then yesL else noL) := ⟨_, rfl⟩
 rw [← hTF]
 have cM := hi_ (must_as w0 B b t (bareB v true false false false false && (decide (v.n = 0) || decide (v.n = 1))) ((w.heap.size, (O0_ v q)) :: bx) f1)
 have c1 := hi_ (fun W hW => put_R w0 B b (t.must (bareB v true false false false false && (decide (v.n = 0) || decide (v.n = 1)))) (if v.n = 1 then yesL else noL) ((w.heap.size, (O0_ v q)) :: bx) W hW hF)
 have h0' := hi_ h0
 rw [← hTF] at c1
 replace hTF := hi_ hTF
 clear f1 h0
 have hag : Hid (Value.agg #[.int .u8 v.kind, .int .i64 v.n, .string v.s, .slice q.argsa q.argsn q.argsc, .slice q.namesa q.namesn q.namesc, .slice q.valsa q.valsn q.valsc, .int .u8 v.elem, .slice q.keya q.keyn q.keyc, .slice q.actsa q.actsn q.actsc, .string v.site] = .agg #[.int .u8 2, .int .i64 v.n, .string v.s, .slice q.argsa q.argsn q.argsc, .slice q.namesa q.namesn q.namesc, .slice q.valsa q.valsn q.valsc, .int .u8 v.elem, .slice q.keya q.keyn q.keyc, .slice q.actsa q.actsn q.actsc, .string v.site]) := by show _ = _; rw [he]
 have hv' := hi_ hv
 replace he := hi_ he
 clear hF hv
 go_enter Tryz.func20, Tryz.ntmps20
 obtain ⟨x0, -⟩ := c10_ (h0'.out.box M0_)
 rw [he.out] at x0
 go_upto_region 12 with (rw [← hWS.out])
 go_cut [] (fun wx => RK w0 B b (t.must (bareB v true false false false false && (decide (v.n = 0) || decide (v.n = 1)))) ((w.heap.size, (O0_ v q)) :: bx) wx)
 case first =>
  clear x0
  have h0 := h0'.out
  obtain ⟨x0, x1, x2, x3, x4, x5, x6, x7, x8, x9⟩ := c10_ (h0.box M0_)
  rw [he.out] at x0
  have cB := bare_any v q true false false false S hL.out
  rw [hag.out] at cB
  replace cB := hi_ cB
  replace h0 := hi_ h0
  go_wp2_with (go_at_call 40; refine cB.out.mono ?_)
  first | rintro e w1 rfl hbw1 | rintro e w1 ⟨rfl, hbw1⟩
  clear x0 x1 x2 x3 x4 x5 x6 x7 x8 x9
  have h1 := h0.out.below hbw1
  replace hbw1 := hi_ hbw1
  generalize bareB v true false false false false = U at *
  obtain ⟨-, x1, -⟩ := c10_ (h1.box M0_)
  replace h1 := hi_ h1
  cases U
  ·skip
   go_wp2_with (go_at_call 34; refine (cM.out _ _ h1.out (by simp)).mono ?_)
   first | rintro e w9 rfl h9 | rintro e w9 ⟨rfl, h9⟩
   replace h9 := hi_ h9
   go_wp2_with fail
   go_meet
   exact h9.out
  ·by_cases k0 : v.n = 0
   ·have y0 : (v.n == 0) = true := by simp [k0]
    replace k0 := hi_ k0
    go_wp2_with (go_at_call 34; refine (cM.out _ _ h1.out (by simp [k0.out])).mono ?_)
    first | rintro e w9 rfl h9 | rintro e w9 ⟨rfl, h9⟩
    replace h9 := hi_ h9
    go_wp2_with fail
    go_meet
    exact h9.out
   ·have y0 : (v.n == 0) = false := by simp [k0]
    replace k0 := hi_ k0
    go_wp2_with (go_at_call 34; refine (cM.out _ _ h1.out (by rw [Bool.eq_iff_iff]; simp [k0.out])).mono ?_)
    first | rintro e w9 rfl h9 | rintro e w9 ⟨rfl, h9⟩
    replace h9 := hi_ h9
    go_wp2_with fail
    go_meet
    exact h9.out
 case rest =>
  by_cases k1 : v.n = 1
  ·have y1 : (v.n == 1) = true := by simp [k1]
   have c1 := hi_ (fun W hW => by have := c1.out W hW; rw [if_pos k1] at this; exact this)
   replace k1 := hi_ k1
   obtain ⟨-, x1, -⟩ := c10_ (hcut.box M0_)
   replace hcut := hi_ hcut
   go_wp2_with (go_at_call 17; refine (c1.out wc hcut.out).mono ?_)
   first | rintro e w4 rfl h4 | rintro e w4 ⟨rfl, h4⟩
   replace h4 := hi_ h4.drop
   go_wp2_with fail
   exact bodyPost_end (v := .tuple #[]) (results_none (by kernel_rfl) _ _ _) rfl ⟨rfl, h4.out⟩
  ·have y1 : (v.n == 1) = false := by simp [k1]
   have c1 := hi_ (fun W hW => by have := c1.out W hW; rw [if_neg k1] at this; exact this)
   replace k1 := hi_ k1
   obtain ⟨-, x1, -⟩ := c10_ (hcut.box M0_)
   replace hcut := hi_ hcut
   go_wp2_with (go_at_call 17; refine (c1.out wc hcut.out).mono ?_)
   first | rintro e w4 rfl h4 | rintro e w4 ⟨rfl, h4⟩
   replace h4 := hi_ h4.drop
   go_wp2_with fail
   exact bodyPost_end (v := .tuple #[]) (results_none (by kernel_rfl) _ _ _) rfl ⟨rfl, h4.out⟩
theorem expr3_R (w0 : World) (B b : Nat) (v : Ex) (q : QEx) (t : RS) (he : v.kind = 3) (hv : ExAt w0 B v q) : DoesR w0 B b 20 #[.pointer (some ⟨b, 0, none⟩), .agg (A0_ v q)] t ((RS.expr v (rExs v.args) (rExs v.vals) (rExs v.key) (rAcs v.acts) (rPairs v.vals v.names)) t) := by
 unfold A0_
 intro bx w h hF
 have hL := hi_ hv.lens
 have hmx := ExLens.maxes hv
 have hs := hv.s
 have hn := hv.n
 have hEq : (RS.expr v (rExs v.args) (rExs v.vals) (rExs v.key) (rAcs v.acts) (rPairs v.vals v.names)) t = (t.must (bareB v false true false false false && decide (v.s.size ≤ 4096))).put (quoteL v.s.data.toList) := by
  unfold RS.expr
  rw [if_neg (by omega), if_neg (by omega), if_neg (by omega), if_pos he]
 rw [hEq] at hF ⊢
 clear hEq
 have f1 : FitR (t.must (bareB v false true false false false && decide (v.s.size ≤ 4096))) := FitR.put hF
 obtain ⟨S, hS⟩ : ∃ S, S = w.alloc ((O0_ v q)) := ⟨_, rfl⟩
 have h0 : RK w0 B b t ((w.heap.size, (O0_ v q)) :: bx) S := by rw [hS]; exact h.alloc _
 have hWS : Hid (S = _) := hS
 clear hS
 replace h := hi_ h
 have cM := hi_ (must_as w0 B b t (bareB v false true false false false && decide (v.s.size ≤ 4096)) ((w.heap.size, (O0_ v q)) :: bx) f1)
 have c1 := hi_ (fun W hW => put_R w0 B b (t.must (bareB v false true false false false && decide (v.s.size ≤ 4096))) (quoteL v.s.data.toList) ((w.heap.size, (O0_ v q)) :: bx) W hW hF)
 have hs2 : v.s.data.toList.length ≤ 35184372088832 := by
  have h1 : (quoteL v.s.data.toList).length ≤ 1073741824 := by
   have := hF
   unfold FitR RS.put at this
   simp only [List.length_append] at this
   split at this <;> omega
  have := quote_ge v.s.data.toList
  omega
 have cQ := hi_ (fun W => by have := refQuoted_any v.s.data.toList W hs2; rw [bs_toList] at this; exact this)
 have h0' := hi_ h0
 clear f1 h0 hs2
 have hag : Hid (Value.agg #[.int .u8 v.kind, .int .i64 v.n, .string v.s, .slice q.argsa q.argsn q.argsc, .slice q.namesa q.namesn q.namesc, .slice q.valsa q.valsn q.valsc, .int .u8 v.elem, .slice q.keya q.keyn q.keyc, .slice q.actsa q.actsn q.actsc, .string v.site] = .agg #[.int .u8 3, .int .i64 v.n, .string v.s, .slice q.argsa q.argsn q.argsc, .slice q.namesa q.namesn q.namesc, .slice q.valsa q.valsn q.valsc, .int .u8 v.elem, .slice q.keya q.keyn q.keyc, .slice q.actsa q.actsn q.actsc, .string v.site]) := by show _ = _; rw [he]
 have hv' := hi_ hv
 replace he := hi_ he
 clear hF hv
 go_enter Tryz.func20, Tryz.ntmps20
 obtain ⟨x0, -⟩ := c10_ (h0'.out.box M0_)
 rw [he.out] at x0
 go_upto_region 17 with (rw [← hWS.out])
 go_cut [] (fun wx => RK w0 B b (t.must (bareB v false true false false false && decide (v.s.size ≤ 4096))) ((w.heap.size, (O0_ v q)) :: bx) wx)
 case first =>
  clear x0
  have h0 := h0'.out
  obtain ⟨x0, x1, x2, x3, x4, x5, x6, x7, x8, x9⟩ := c10_ (h0.box M0_)
  rw [he.out] at x0
  have cB := bare_any v q false true false false S hL.out
  rw [hag.out] at cB
  replace cB := hi_ cB
  replace h0 := hi_ h0
  go_wp2_with (go_at_call 40; refine cB.out.mono ?_)
  first | rintro e w1 rfl hbw1 | rintro e w1 ⟨rfl, hbw1⟩
  clear x0 x1 x2 x3 x4 x5 x6 x7 x8 x9
  have h1 := h0.out.below hbw1
  replace hbw1 := hi_ hbw1
  generalize bareB v false true false false false = U at *
  obtain ⟨-, -, x2, -⟩ := c10_ (h1.box M0_)
  replace h1 := hi_ h1
  cases U
  ·skip
   go_wp2_with (go_at_call 34; refine (cM.out _ _ h1.out (by simp)).mono ?_)
   first | rintro e w9 rfl h9 | rintro e w9 ⟨rfl, h9⟩
   replace h9 := hi_ h9
   go_wp2_with fail
   go_meet
   exact h9.out
  ·skip
   go_wp2_with (go_at_call 34; refine (cM.out _ _ h1.out (by rw [Bool.eq_iff_iff]; simp; omega)).mono ?_)
   first | rintro e w9 rfl h9 | rintro e w9 ⟨rfl, h9⟩
   replace h9 := hi_ h9
   go_wp2_with fail
   go_meet
   exact h9.out
 case rest =>
  obtain ⟨-, -, x2, -⟩ := c10_ (hcut.box M0_)
  replace hcut := hi_ hcut
  go_wp2_with (go_at_call 42; refine (cQ.out _).mono ?_)
  first | rintro e w3 rfl hbw3 | rintro e w3 ⟨rfl, hbw3⟩
  clear x2
  have h3 := hcut.out.below hbw3
  replace hbw3 := hi_ hbw3
  replace h3 := hi_ h3
  go_wp2_with (go_at_call 17; refine (c1.out w3 h3.out).mono ?_)
  first | rintro e w4 rfl h4 | rintro e w4 ⟨rfl, h4⟩
  replace h4 := hi_ h4.drop
  go_wp2_with fail
  exact bodyPost_end (v := .tuple #[]) (results_none (by kernel_rfl) _ _ _) rfl ⟨rfl, h4.out⟩
theorem expr4_R (w0 : World) (B b : Nat) (v : Ex) (q : QEx) (t : RS) (he : v.kind = 4) (hv : ExAt w0 B v q) : DoesR w0 B b 20 #[.pointer (some ⟨b, 0, none⟩), .agg (A0_ v q)] t ((RS.expr v (rExs v.args) (rExs v.vals) (rExs v.key) (rAcs v.acts) (rPairs v.vals v.names)) t) := by
 unfold A0_
 intro bx w h hF
 have hL := hi_ hv.lens
 have hmx := ExLens.maxes hv
 have hs := hv.s
 have hn := hv.n
 have hEq : (RS.expr v (rExs v.args) (rExs v.vals) (rExs v.key) (rAcs v.acts) (rPairs v.vals v.names)) t = (t.must (bareB v false true false false false)).plain v.s := by
  unfold RS.expr
  rw [if_neg (by omega), if_neg (by omega), if_neg (by omega), if_neg (by omega), if_pos he]
 rw [hEq] at hF ⊢
 clear hEq
 have f1 : FitR (t.must (bareB v false true false false false)) := FitR.plain hF
 obtain ⟨S, hS⟩ : ∃ S, S = w.alloc ((O0_ v q)) := ⟨_, rfl⟩
 have h0 : RK w0 B b t ((w.heap.size, (O0_ v q)) :: bx) S := by rw [hS]; exact h.alloc _
 have hWS : Hid (S = _) := hS
 clear hS
 replace h := hi_ h
 have cM := hi_ (must_as w0 B b t (bareB v false true false false false) ((w.heap.size, (O0_ v q)) :: bx) f1)
 have c1 := hi_ (fun W hW => plain_R w0 B b (t.must (bareB v false true false false false)) v.s hs ((w.heap.size, (O0_ v q)) :: bx) W hW hF)
 clear f1
 have hag : Hid (Value.agg #[.int .u8 v.kind, .int .i64 v.n, .string v.s, .slice q.argsa q.argsn q.argsc, .slice q.namesa q.namesn q.namesc, .slice q.valsa q.valsn q.valsc, .int .u8 v.elem, .slice q.keya q.keyn q.keyc, .slice q.actsa q.actsn q.actsc, .string v.site] = .agg #[.int .u8 4, .int .i64 v.n, .string v.s, .slice q.argsa q.argsn q.argsc, .slice q.namesa q.namesn q.namesc, .slice q.valsa q.valsn q.valsc, .int .u8 v.elem, .slice q.keya q.keyn q.keyc, .slice q.actsa q.actsn q.actsc, .string v.site]) := by show _ = _; rw [he]
 have hv' := hi_ hv
 replace he := hi_ he
 clear hF hv
 go_enter Tryz.func20, Tryz.ntmps20
 obtain ⟨x0, x1, x2, x3, x4, x5, x6, x7, x8, x9⟩ := c10_ (h0.box M0_)
 rw [he.out] at x0
 have cB := bare_any v q false true false false S hL.out
 rw [hag.out] at cB
 replace cB := hi_ cB
 replace h0 := hi_ h0
 go_wp2_with (first | (rw [← hWS.out]) | (go_at_call 40; refine cB.out.mono ?_))
 first | rintro e w1 rfl hbw1 | rintro e w1 ⟨rfl, hbw1⟩
 clear x0 x1 x2 x3 x4 x5 x6 x7 x8 x9
 have h1 := h0.out.below hbw1
 replace hbw1 := hi_ hbw1
 replace h1 := hi_ h1
 go_wp2_with (go_at_call 34; refine (cM.out _ _ h1.out rfl).mono ?_)
 first | rintro e w2 rfl h2 | rintro e w2 ⟨rfl, h2⟩
 obtain ⟨-, -, x2, -⟩ := c10_ (h2.box M0_)
 replace h2 := hi_ h2
 go_wp2_with (go_at_call 18; refine (c1.out w2 h2.out).mono ?_)
 first | rintro e w4 rfl h4 | rintro e w4 ⟨rfl, h4⟩
 replace h4 := hi_ h4.drop
 go_wp2_with fail
 exact bodyPost_end (v := .tuple #[]) (results_none (by kernel_rfl) _ _ _) rfl ⟨rfl, h4.out⟩
theorem expr5_R (w0 : World) (B b : Nat) (v : Ex) (q : QEx) (t : RS) (he : ¬ v.kind = 0 ∧ ¬ v.kind = 1 ∧ ¬ v.kind = 2 ∧ ¬ v.kind = 3 ∧ ¬ v.kind = 4) (hv : ExAt w0 B v q) (hA : ExsR w0 B b v.args) (hV : ExsR w0 B b v.vals) (hK : ExsR w0 B b v.key) (hC : AcsR w0 B b v.acts) (hP : PairsR w0 B b v) : DoesR w0 B b 20 #[.pointer (some ⟨b, 0, none⟩), .agg (A0_ v q)] t ((RS.expr v (rExs v.args) (rExs v.vals) (rExs v.key) (rAcs v.acts) (rPairs v.vals v.names)) t) := by
 unfold A0_
 intro bx w h hF
 have hEq : (RS.expr v (rExs v.args) (rExs v.vals) (rExs v.key) (rAcs v.acts) (rPairs v.vals v.names)) t = ((RS.form v (rExs v.args) (rExs v.vals) (rExs v.key) (rAcs v.acts) (rPairs v.vals v.names)) (t.put [40])).fin := by
  unfold RS.expr
  rw [if_neg he.1, if_neg he.2.1, if_neg he.2.2.1, if_neg he.2.2.2.1, if_neg he.2.2.2.2]
 rw [hEq] at hF ⊢
 clear hEq
 have f2 := hF.fin
 have f1 : FitR (t.put [40]) := f2.of (RS.form_le v (rExs_le _ (fun v _ => rEx_le v) hv.args.oks) (rExs_le _ (fun v _ => rEx_le v) hv.vals.oks) (rExs_le _ (fun v _ => rEx_le v) hv.key.oks) (rAcs_le _ (fun v _ => rAc_le v) hv.acts.oks) (rPairs_le _ (fun v _ => rEx_le v) hv.vals.oks _) (by omega) _)
 obtain ⟨S, hS⟩ : ∃ S, S = w.alloc ((O0_ v q)) := ⟨_, rfl⟩
 have h0 : RK w0 B b t ((w.heap.size, (O0_ v q)) :: bx) S := by rw [hS]; exact h.alloc _
 have hWS : Hid (S = _) := hS
 clear hS
 replace h := hi_ h
 have c1 := hi_ (open_R w0 B b t _ _ h0 f1)
 have c2 := hi_ (fun W hW => form_R w0 B b v q (t.put [40]) hv hA hV hK hC hP ((w.heap.size, (O0_ v q)) :: bx) W hW f2)
 have c3 := hi_ (fun W hW => end_R w0 B b ((RS.form v (rExs v.args) (rExs v.vals) (rExs v.key) (rAcs v.acts) (rPairs v.vals v.names)) (t.put [40])) ((w.heap.size, (O0_ v q)) :: bx) W hW hF)
 obtain ⟨x0, -⟩ := c10_ (h0.box M0_)
 obtain ⟨e0, e1, e2, e3, e4⟩ := he
 have y0 : (v.kind == 0) = false := by simp [e0]
 clear e0
 have y1 : (v.kind == 1) = false := by simp [e1]
 clear e1
 have y2 : (v.kind == 2) = false := by simp [e2]
 clear e2
 have y3 : (v.kind == 3) = false := by simp [e3]
 clear e3
 have y4 : (v.kind == 4) = false := by simp [e4]
 clear e4
 replace h0 := hi_ h0
 clear hF f1 f2
 have hv' := hi_ hv
 clear hv
 go_enter Tryz.func20, Tryz.ntmps20
 go_wp2_with (first | (rw [← hWS.out]) | (go_at_call 16; refine c1.out.mono ?_))
 first | rintro e w1 rfl h1 | rintro e w1 ⟨rfl, h1⟩
 clear x0 y0 y1 y2 y3 y4
 obtain ⟨x0, x1, x2, x3, x4, x5, x6, x7, x8, x9⟩ := c10_ (h1.box M0_)
 replace h1 := hi_ h1
 go_wp2_with (go_at_call 43; refine (c2.out w1 h1.out).mono ?_)
 first | rintro e w2 rfl h2 | rintro e w2 ⟨rfl, h2⟩
 clear x0 x1 x2 x3 x4 x5 x6 x7 x8 x9
 replace h2 := hi_ h2
 go_wp2_with (go_at_call 21; refine (c3.out w2 h2.out).mono ?_)
 first | rintro e w4 rfl h4 | rintro e w4 ⟨rfl, h4⟩
 replace h4 := hi_ h4.drop
 go_wp2_with fail
 exact bodyPost_end (v := .tuple #[]) (results_none (by kernel_rfl) _ _ _) rfl ⟨rfl, h4.out⟩
theorem expr_R (w0 : World) (B b : Nat) (v : Ex) (hA : ExsR w0 B b v.args) (hV : ExsR w0 B b v.vals) (hK : ExsR w0 B b v.key) (hC : AcsR w0 B b v.acts) (hP : PairsR w0 B b v) : ExR w0 B b v := by
 intro q t hv
 rw [rEx_eq]
 by_cases h0 : v.kind = 0
 ·exact expr0_R w0 B b v q t h0 hv
 by_cases h1 : v.kind = 1
 ·exact expr1_R w0 B b v q t h1 hv
 by_cases h2 : v.kind = 2
 ·exact expr2_R w0 B b v q t h2 hv
 by_cases h3 : v.kind = 3
 ·exact expr3_R w0 B b v q t h3 hv
 by_cases h4 : v.kind = 4
 ·exact expr4_R w0 B b v q t h4 hv
 exact expr5_R w0 B b v q t ⟨h0, h1, h2, h3, h4⟩ hv hA hV hK hC hP
theorem act1_R (w0 : World) (B b : Nat) (v : Ac) (q : QAc) (t : RS) (he : v.kind = 1) (hv : AcAt w0 B v q) (hE : ExR w0 B b v.expr) : DoesR w0 B b 97 #[.pointer (some ⟨b, 0, none⟩), .agg (A1_ v q.expr)] t (RS.act v (rEx v.expr) t) := by
 unfold A1_
 intro bx w h hF
 have hs := hv.name
 have hx := hv.expr
 have hEq : RS.act v (rEx v.expr) t = RS.fin (rEx v.expr (((t.put [40]).put w17_).plain v.name)) := by
  unfold RS.act
  rw [if_pos he]
 rw [hEq] at hF ⊢
 clear hEq
 have ff := hF.fin
 have f2 : FitR (((t.put [40]).put w17_).plain v.name) := FitR.ex hx ff
 have f1 : FitR ((t.put [40]).put w17_) := f2.plain
 have f0 : FitR (t.put [40]) := f1.put
 obtain ⟨S, hS⟩ : ∃ S, S = w.alloc ((O1_ v q.expr)) := ⟨_, rfl⟩
 have h0 : RK w0 B b t ((w.heap.size, (O1_ v q.expr)) :: bx) S := by rw [hS]; exact h.alloc _
 have hWS : Hid (S = _) := hS
 clear hS
 replace h := hi_ h
 have c0 := hi_ (open_R w0 B b t _ _ h0 f0)
 have cE := hi_ (fun W hW => end_R w0 B b (rEx v.expr (((t.put [40]).put w17_).plain v.name)) ((w.heap.size, (O1_ v q.expr)) :: bx) W hW hF)
 have c1 := hi_ (fun W hW => put_R w0 B b (t.put [40]) w17_ ((w.heap.size, (O1_ v q.expr)) :: bx) W hW f1)
 have c2 := hi_ (fun W hW => plain_R w0 B b ((t.put [40]).put w17_) v.name hs ((w.heap.size, (O1_ v q.expr)) :: bx) W hW f2)
 have cX := hi_ (fun W hW => hE _ (((t.put [40]).put w17_).plain v.name) hx ((w.heap.size, (O1_ v q.expr)) :: bx) W hW ff)
 clear f1 f2
 replace he := hi_ he
 replace h0 := hi_ h0
 have hv' := hi_ hv
 clear hF ff f0 hv
 go_enter Tryz.func97, Tryz.ntmps97
 go_wp2_with (first | (rw [← hWS.out]) | (go_at_call 16; refine c0.out.mono ?_))
 first | rintro e w1 rfl h1 | rintro e w1 ⟨rfl, h1⟩
 obtain ⟨x0, -⟩ := c12_ (h1.box M0_)
 rw [he.out] at x0
 replace h1 := hi_ h1
 go_wp2_with (go_at_call 17; refine (c1.out w1 h1.out).mono ?_)
 first | rintro e w2 rfl h2 | rintro e w2 ⟨rfl, h2⟩
 clear x0
 obtain ⟨-, x1, -⟩ := c12_ (h2.box M0_)
 replace h2 := hi_ h2
 go_wp2_with (go_at_call 18; refine (c2.out w2 h2.out).mono ?_)
 first | rintro e w3 rfl h3 | rintro e w3 ⟨rfl, h3⟩
 clear x1
 obtain ⟨-, -, x2, x3, x4, x5, x6, x7, x8, x9, x10, x11⟩ := c12_ (h3.box M0_)
 replace h3 := hi_ h3
 go_wp2_with (go_at_call 20; refine (cX.out w3 h3.out).mono ?_)
 first | rintro e w8 rfl h8 | rintro e w8 ⟨rfl, h8⟩
 clear x2 x3 x4 x5 x6 x7 x8 x9 x10 x11
 replace h8 := hi_ h8
 go_wp2_with (go_at_call 21; refine (cE.out w8 h8.out).mono ?_)
 first | rintro e w9 rfl h9 | rintro e w9 ⟨rfl, h9⟩
 replace h9 := hi_ h9.drop
 go_wp2_with fail
 exact bodyPost_end (v := .tuple #[]) (results_none (by kernel_rfl) _ _ _) rfl ⟨rfl, h9.out⟩
theorem act2_R (w0 : World) (B b : Nat) (v : Ac) (q : QAc) (t : RS) (he : v.kind = 2) (hv : AcAt w0 B v q) (hE : ExR w0 B b v.expr) : DoesR w0 B b 97 #[.pointer (some ⟨b, 0, none⟩), .agg (A1_ v q.expr)] t (RS.act v (rEx v.expr) t) := by
 unfold A1_
 intro bx w h hF
 have hs := hv.name
 have hx := hv.expr
 have hEq : RS.act v (rEx v.expr) t = RS.fin (rEx v.expr (((t.put [40]).put w18_).must (decide (v.name.size = 0)))) := by
  unfold RS.act
  rw [if_neg (by omega), if_pos he]
 rw [hEq] at hF ⊢
 clear hEq
 have ff := hF.fin
 have f2 : FitR (((t.put [40]).put w18_).must (decide (v.name.size = 0))) := FitR.ex hx ff
 have f1 : FitR ((t.put [40]).put w18_) := f2
 have f0 : FitR (t.put [40]) := f1.put
 obtain ⟨S, hS⟩ : ∃ S, S = w.alloc ((O1_ v q.expr)) := ⟨_, rfl⟩
 have h0 : RK w0 B b t ((w.heap.size, (O1_ v q.expr)) :: bx) S := by rw [hS]; exact h.alloc _
 have hWS : Hid (S = _) := hS
 clear hS
 replace h := hi_ h
 have c0 := hi_ (open_R w0 B b t _ _ h0 f0)
 have cE := hi_ (fun W hW => end_R w0 B b (rEx v.expr (((t.put [40]).put w18_).must (decide (v.name.size = 0)))) ((w.heap.size, (O1_ v q.expr)) :: bx) W hW hF)
 have c1 := hi_ (fun W hW => put_R w0 B b (t.put [40]) w18_ ((w.heap.size, (O1_ v q.expr)) :: bx) W hW f1)
 have cM := hi_ (must_as w0 B b ((t.put [40]).put w18_) (decide (v.name.size = 0)) ((w.heap.size, (O1_ v q.expr)) :: bx) f2)
 have cX := hi_ (fun W hW => hE _ (((t.put [40]).put w18_).must (decide (v.name.size = 0))) hx ((w.heap.size, (O1_ v q.expr)) :: bx) W hW ff)
 clear f1 f2
 replace he := hi_ he
 replace h0 := hi_ h0
 have hv' := hi_ hv
 clear hF ff f0 hv
 go_enter Tryz.func97, Tryz.ntmps97
 go_wp2_with (first | (rw [← hWS.out]) | (go_at_call 16; refine c0.out.mono ?_))
 first | rintro e w1 rfl h1 | rintro e w1 ⟨rfl, h1⟩
 obtain ⟨x0, -⟩ := c12_ (h1.box M0_)
 rw [he.out] at x0
 replace h1 := hi_ h1
 go_wp2_with (go_at_call 17; refine (c1.out w1 h1.out).mono ?_)
 first | rintro e w2 rfl h2 | rintro e w2 ⟨rfl, h2⟩
 clear x0
 obtain ⟨-, x1, -⟩ := c12_ (h2.box M0_)
 replace h2 := hi_ h2
 go_wp2_with (go_at_call 34; refine (cM.out _ _ h2.out (by (first | rw [size_beq] | rw [size_emp] | simp [size_nil]))).mono ?_)
 first | rintro e w3 rfl h3 | rintro e w3 ⟨rfl, h3⟩
 clear x1
 obtain ⟨-, -, x2, x3, x4, x5, x6, x7, x8, x9, x10, x11⟩ := c12_ (h3.box M0_)
 replace h3 := hi_ h3
 go_wp2_with (go_at_call 20; refine (cX.out w3 h3.out).mono ?_)
 first | rintro e w8 rfl h8 | rintro e w8 ⟨rfl, h8⟩
 clear x2 x3 x4 x5 x6 x7 x8 x9 x10 x11
 replace h8 := hi_ h8
 go_wp2_with (go_at_call 21; refine (cE.out w8 h8.out).mono ?_)
 first | rintro e w9 rfl h9 | rintro e w9 ⟨rfl, h9⟩
 replace h9 := hi_ h9.drop
 go_wp2_with fail
 exact bodyPost_end (v := .tuple #[]) (results_none (by kernel_rfl) _ _ _) rfl ⟨rfl, h9.out⟩
theorem act3_R (w0 : World) (B b : Nat) (v : Ac) (q : QAc) (t : RS) (he : v.kind = 3) (hv : AcAt w0 B v q) (hE : ExR w0 B b v.expr) : DoesR w0 B b 97 #[.pointer (some ⟨b, 0, none⟩), .agg (A1_ v q.expr)] t (RS.act v (rEx v.expr) t) := by
 unfold A1_
 intro bx w h hF
 have hs := hv.name
 have hx := hv.expr
 have hEq : RS.act v (rEx v.expr) t = RS.fin (rEx v.expr (((t.put [40]).put w19_).must (decide (v.name.size = 0)))) := by
  unfold RS.act
  rw [if_neg (by omega), if_neg (by omega), if_pos he]
 rw [hEq] at hF ⊢
 clear hEq
 have ff := hF.fin
 have f2 : FitR (((t.put [40]).put w19_).must (decide (v.name.size = 0))) := FitR.ex hx ff
 have f1 : FitR ((t.put [40]).put w19_) := f2
 have f0 : FitR (t.put [40]) := f1.put
 obtain ⟨S, hS⟩ : ∃ S, S = w.alloc ((O1_ v q.expr)) := ⟨_, rfl⟩
 have h0 : RK w0 B b t ((w.heap.size, (O1_ v q.expr)) :: bx) S := by rw [hS]; exact h.alloc _
 have hWS : Hid (S = _) := hS
 clear hS
 replace h := hi_ h
 have c0 := hi_ (open_R w0 B b t _ _ h0 f0)
 have cE := hi_ (fun W hW => end_R w0 B b (rEx v.expr (((t.put [40]).put w19_).must (decide (v.name.size = 0)))) ((w.heap.size, (O1_ v q.expr)) :: bx) W hW hF)
 have c1 := hi_ (fun W hW => put_R w0 B b (t.put [40]) w19_ ((w.heap.size, (O1_ v q.expr)) :: bx) W hW f1)
 have cM := hi_ (must_as w0 B b ((t.put [40]).put w19_) (decide (v.name.size = 0)) ((w.heap.size, (O1_ v q.expr)) :: bx) f2)
 have cX := hi_ (fun W hW => hE _ (((t.put [40]).put w19_).must (decide (v.name.size = 0))) hx ((w.heap.size, (O1_ v q.expr)) :: bx) W hW ff)
 clear f1 f2
 replace he := hi_ he
 replace h0 := hi_ h0
 have hv' := hi_ hv
 clear hF ff f0 hv
 go_enter Tryz.func97, Tryz.ntmps97
 go_wp2_with (first | (rw [← hWS.out]) | (go_at_call 16; refine c0.out.mono ?_))
 first | rintro e w1 rfl h1 | rintro e w1 ⟨rfl, h1⟩
 obtain ⟨x0, -⟩ := c12_ (h1.box M0_)
 rw [he.out] at x0
 replace h1 := hi_ h1
 go_wp2_with (go_at_call 17; refine (c1.out w1 h1.out).mono ?_)
 first | rintro e w2 rfl h2 | rintro e w2 ⟨rfl, h2⟩
 clear x0
 obtain ⟨-, x1, -⟩ := c12_ (h2.box M0_)
 replace h2 := hi_ h2
 go_wp2_with (go_at_call 34; refine (cM.out _ _ h2.out (by (first | rw [size_beq] | rw [size_emp] | simp [size_nil]))).mono ?_)
 first | rintro e w3 rfl h3 | rintro e w3 ⟨rfl, h3⟩
 clear x1
 obtain ⟨-, -, x2, x3, x4, x5, x6, x7, x8, x9, x10, x11⟩ := c12_ (h3.box M0_)
 replace h3 := hi_ h3
 go_wp2_with (go_at_call 20; refine (cX.out w3 h3.out).mono ?_)
 first | rintro e w8 rfl h8 | rintro e w8 ⟨rfl, h8⟩
 clear x2 x3 x4 x5 x6 x7 x8 x9 x10 x11
 replace h8 := hi_ h8
 go_wp2_with (go_at_call 21; refine (cE.out w8 h8.out).mono ?_)
 first | rintro e w9 rfl h9 | rintro e w9 ⟨rfl, h9⟩
 replace h9 := hi_ h9.drop
 go_wp2_with fail
 exact bodyPost_end (v := .tuple #[]) (results_none (by kernel_rfl) _ _ _) rfl ⟨rfl, h9.out⟩
theorem act4_R (w0 : World) (B b : Nat) (v : Ac) (q : QAc) (t : RS) (he : v.kind = 4) (hv : AcAt w0 B v q)  : DoesR w0 B b 97 #[.pointer (some ⟨b, 0, none⟩), .agg (A1_ v q.expr)] t (RS.act v (rEx v.expr) t) := by
 unfold A1_
 intro bx w h hF
 have hs := hv.name
 have hx := hv.expr
 have hEq : RS.act v (rEx v.expr) t = RS.fin (((t.put [40]).put w20_).must (decide (v.name.size = 0) && noneB v.expr)) := by
  unfold RS.act
  rw [if_neg (by omega), if_neg (by omega), if_neg (by omega), if_pos he]
 rw [hEq] at hF ⊢
 clear hEq
 have ff := hF.fin
 have f2 : FitR (((t.put [40]).put w20_).must (decide (v.name.size = 0) && noneB v.expr)) := ff
 have f1 : FitR ((t.put [40]).put w20_) := ff
 have f0 : FitR (t.put [40]) := f1.put
 obtain ⟨S, hS⟩ : ∃ S, S = w.alloc ((O1_ v q.expr)) := ⟨_, rfl⟩
 have h0 : RK w0 B b t ((w.heap.size, (O1_ v q.expr)) :: bx) S := by rw [hS]; exact h.alloc _
 have hWS : Hid (S = _) := hS
 clear hS
 replace h := hi_ h
 have c0 := hi_ (open_R w0 B b t _ _ h0 f0)
 have cE := hi_ (fun W hW => end_R w0 B b (((t.put [40]).put w20_).must (decide (v.name.size = 0) && noneB v.expr)) ((w.heap.size, (O1_ v q.expr)) :: bx) W hW hF)
 have c1 := hi_ (fun W hW => put_R w0 B b (t.put [40]) w20_ ((w.heap.size, (O1_ v q.expr)) :: bx) W hW f1)
 have cM := hi_ (must_as w0 B b ((t.put [40]).put w20_) (decide (v.name.size = 0) && noneB v.expr) ((w.heap.size, (O1_ v q.expr)) :: bx) f2)
 have hL := hi_ hx.lens
 clear f1 f2
 replace he := hi_ he
 replace h0 := hi_ h0
 have hv' := hi_ hv
 clear hF ff f0 hv
 go_enter Tryz.func97, Tryz.ntmps97
 go_wp2_with (first | (rw [← hWS.out]) | (go_at_call 16; refine c0.out.mono ?_))
 first | rintro e w1 rfl h1 | rintro e w1 ⟨rfl, h1⟩
 obtain ⟨x0, -⟩ := c12_ (h1.box M0_)
 rw [he.out] at x0
 replace h1 := hi_ h1
 go_wp2_with (go_at_call 17; refine (c1.out w1 h1.out).mono ?_)
 first | rintro e w2 rfl h2 | rintro e w2 ⟨rfl, h2⟩
 clear x0
 have h2' := hi_ h2
 obtain ⟨-, x1, x2, x3, x4, x5, x6, x7, x8, x9, x10, x11⟩ := c12_ (h2.box M0_)
 clear h2
 have cB := hi_ (none_any v.expr q.expr w2 hL.out)
 by_cases k1 : v.name.size = 0
 ·have y0 : v.name.toList = [] := by rw [size_nil]; exact k1
  have y1 : v.name.toList.isEmpty = true := by rw [size_emp]; simp [k1]
  replace k1 := hi_ k1
  go_wp2_with (go_at_call 38; refine cB.out.mono ?_)
  first | rintro e w3 rfl hb3 | rintro e w3 ⟨rfl, hb3⟩
  clear y0 y1 x1 x2 x3 x4 x5 x6 x7 x8 x9 x10 x11
  have h3 := hi_ (h2'.out.below hb3)
  replace hb3 := hi_ hb3
  go_wp2_with (go_at_call 34; refine (cM.out _ _ h3.out (by simp [k1.out])).mono ?_)
  first | rintro e w8 rfl h8 | rintro e w8 ⟨rfl, h8⟩

  replace h8 := hi_ h8
  go_wp2_with (go_at_call 21; refine (cE.out w8 h8.out).mono ?_)
  first | rintro e w9 rfl h9 | rintro e w9 ⟨rfl, h9⟩
  replace h9 := hi_ h9.drop
  go_wp2_with fail
  exact bodyPost_end (v := .tuple #[]) (results_none (by kernel_rfl) _ _ _) rfl ⟨rfl, h9.out⟩
 ·have y0 : ¬ v.name.toList = [] := by rw [size_nil]; exact k1
  have y1 : v.name.toList.isEmpty = false := by rw [size_emp]; simp [k1]
  have y2 : (v.name.toList == []) = false := by rw [size_beq]; simp [k1]
  replace k1 := hi_ k1
  go_wp2_with (go_at_call 34; refine (cM.out _ _ h2'.out (by rw [Bool.eq_iff_iff]; simp [k1.out])).mono ?_)
  first | rintro e w8 rfl h8 | rintro e w8 ⟨rfl, h8⟩
  clear y0 y1 y2 x1 x2 x3 x4 x5 x6 x7 x8 x9 x10 x11
  replace h8 := hi_ h8
  go_wp2_with (go_at_call 21; refine (cE.out w8 h8.out).mono ?_)
  first | rintro e w9 rfl h9 | rintro e w9 ⟨rfl, h9⟩
  replace h9 := hi_ h9.drop
  go_wp2_with fail
  exact bodyPost_end (v := .tuple #[]) (results_none (by kernel_rfl) _ _ _) rfl ⟨rfl, h9.out⟩
theorem act5_R (w0 : World) (B b : Nat) (v : Ac) (q : QAc) (t : RS) (he : ¬ v.kind = 1 ∧ ¬ v.kind = 2 ∧ ¬ v.kind = 3 ∧ ¬ v.kind = 4) (hv : AcAt w0 B v q)  : DoesR w0 B b 97 #[.pointer (some ⟨b, 0, none⟩), .agg (A1_ v q.expr)] t (RS.act v (rEx v.expr) t) := by
 unfold A1_
 intro bx w h hF
 have hs := hv.name
 have hx := hv.expr
 have hEq : RS.act v (rEx v.expr) t = RS.fin ((t.put [40]).must false) := by
  unfold RS.act
  rw [if_neg he.1, if_neg he.2.1, if_neg he.2.2.1, if_neg he.2.2.2]
 rw [hEq] at hF ⊢
 clear hEq
 have ff := hF.fin
 have f1 : FitR ((t.put [40]).must false) := ff
 have f0 : FitR (t.put [40]) := ff
 obtain ⟨S, hS⟩ : ∃ S, S = w.alloc ((O1_ v q.expr)) := ⟨_, rfl⟩
 have h0 : RK w0 B b t ((w.heap.size, (O1_ v q.expr)) :: bx) S := by rw [hS]; exact h.alloc _
 have hWS : Hid (S = _) := hS
 clear hS
 replace h := hi_ h
 have c0 := hi_ (open_R w0 B b t _ _ h0 f0)
 have cE := hi_ (fun W hW => end_R w0 B b ((t.put [40]).must false) ((w.heap.size, (O1_ v q.expr)) :: bx) W hW hF)
 have c1 := hi_ (fun W hW => must_R w0 B b (t.put [40]) false ((w.heap.size, (O1_ v q.expr)) :: bx) W hW f1)
 clear f1
 replace h0 := hi_ h0
 have hv' := hi_ hv
 clear hF ff f0 hv
 go_enter Tryz.func97, Tryz.ntmps97
 go_wp2_with (first | (rw [← hWS.out]) | (go_at_call 16; refine c0.out.mono ?_))
 first | rintro e w1 rfl h1 | rintro e w1 ⟨rfl, h1⟩
 obtain ⟨e1, e2, e3, e4⟩ := he
 have y1 : (v.kind == 1) = false := by simp [e1]
 clear e1
 have y2 : (v.kind == 2) = false := by simp [e2]
 clear e2
 have y3 : (v.kind == 3) = false := by simp [e3]
 clear e3
 have y4 : (v.kind == 4) = false := by simp [e4]
 clear e4
 obtain ⟨x0, -⟩ := c12_ (h1.box M0_)
 replace h1 := hi_ h1
 go_wp2_with (go_at_call 34; refine (c1.out w1 h1.out).mono ?_)
 first | rintro e w8 rfl h8 | rintro e w8 ⟨rfl, h8⟩
 clear x0 y1 y2 y3 y4
 replace h8 := hi_ h8
 go_wp2_with (go_at_call 21; refine (cE.out w8 h8.out).mono ?_)
 first | rintro e w9 rfl h9 | rintro e w9 ⟨rfl, h9⟩
 replace h9 := hi_ h9.drop
 go_wp2_with fail
 exact bodyPost_end (v := .tuple #[]) (results_none (by kernel_rfl) _ _ _) rfl ⟨rfl, h9.out⟩
theorem act_R (w0 : World) (B b : Nat) (v : Ac) (hE : ExR w0 B b v.expr) : AcR w0 B b v := by
 intro q t hv
 rw [rAc_eq]
 by_cases h1 : v.kind = 1
 ·exact act1_R w0 B b v q t h1 hv hE
 by_cases h2 : v.kind = 2
 ·exact act2_R w0 B b v q t h2 hv hE
 by_cases h3 : v.kind = 3
 ·exact act3_R w0 B b v q t h3 hv hE
 by_cases h4 : v.kind = 4
 ·exact act4_R w0 B b v q t h4 hv
 exact act5_R w0 B b v q t ⟨h1, h2, h3, h4⟩ hv
theorem ex_R (w0 : World) (B b : Nat) (v : Ex) : ExR w0 B b v :=
 Ex.both (Q := AcR w0 B b) (fun v h1 h2 h3 h4 => expr_R w0 B b v (Exs_R w0 B b _ h1) (Exs_R w0 B b _ h2) (Exs_R w0 B b _ h3) (Acs_R w0 B b _ h4) (pairs_R w0 B b v h2)) (fun v h => act_R w0 B b v h) v
theorem exs_R (w0 : World) (B b : Nat) (L : List Ex) : ExsR w0 B b L := Exs_R w0 B b L fun v _ => ex_R w0 B b v
theorem acs_R (w0 : World) (B b : Nat) (L : List Ac) : AcsR w0 B b L := Acs_R w0 B b L fun v _ => act_R w0 B b v (ex_R w0 B b _)
end Go.Proofs.YtlppklbmdedipaaGreatDoor
