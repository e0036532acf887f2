/- PrintTexts, part 16. -/
import Derived.Test.YtlppklbmdedipaaGreatDoorW02
import Derived.Test.YtlppklbmdedipaaGreatDoorW15
import Derived.Deep.CutBlock
namespace Go.Proofs.YtlppklbmdedipaaGreatDoor
open Go Go.RowKit
set_option maxHeartbeats 8000000
set_option maxRecDepth 100000
theorem pPairs_snoc : ∀ (L : List Ex) (N : List ByteArray) (k : Nat) (v : Ex) (s : ByteArray) (t : PS), L[k]? = some v → N[k]? = some s → pPairs (L.take (k + 1)) N t = PS.round (fun t => pEx v (t.plain s)) (pPairs (L.take k) N t)
 | [], _, _, _, _, _, h, _ => by simp at h
 | _ :: _, [], _, _, _, _, _, h => by simp at h
 | x :: r, y :: m, 0, v, s, t, h, g => by
  simp only [List.getElem?_cons_zero, Option.some.injEq] at h g
  subst h g
  simp only [List.take_succ_cons, List.take_zero, pPairs]
 | x :: r, y :: m, k + 1, v, s, t, h, g => by
  simp only [List.getElem?_cons_succ] at h g
  rw [List.take_succ_cons, pPairs, List.take_succ_cons, pPairs]
  exact pPairs_snoc r m k v s _ h g
theorem FitP.pairs_take {w : World} {B n : Nat} {L : List Ex} {a : Option Addr} (k : ExLs w B L a n) {N : List ByteArray} {t : PS} (h : FitP (pPairs L N t)) (j : Nat) : FitP (pPairs (L.take j) N t) := by
 have key : ∀ (L : List Ex) (N : List ByteArray) (j : Nat) (t : PS), oks (L.map Ex.tr) = true → (pPairs (L.take j) N t).l.length ≤ (pPairs L N t).l.length := by
  intro L
  induction L with
  | nil => intro N j t _; rw [List.take_nil]; exact Nat.le_refl _
  | cons x r ih =>
   intro N j t ho
   have hr := ho
   rw [List.map_cons, oks, Bool.and_eq_true] at hr
   cases N with
   | nil => cases j <;> simp [pPairs]
   | cons y m =>
    cases j with
    | zero => rw [List.take_zero, pPairs]; exact (pPairs_le (x :: r) (fun v _ => pEx_le v) ho (y :: m) t).lo
    | succ j => rw [List.take_succ_cons, pPairs, pPairs]; exact ih m j _ hr.2
 exact Nat.le_trans (key L N j t k.oks) h
theorem pairs1_P (w0 : World) (B b : Nat) (v : Ex) (q : QEx) (t : PS) (p1 p2 p3 p4 k : Nat) (s : ByteArray) (v2 : Ex) (bx : Bx) (w : World) (hv : ExAt w0 B v q) (hg : v.vals[k]? = some v2) (hs : s.size ≤ 140737488355328) (hE : ExP w0 B b v2)
  (m1 : (p1, (PB_ 35 b)) ∈ bx) (m2 : (p2, .cells #[.string s] 9 (0, 0)) ∈ bx) (m3 : (p3, .cells #[.int .u8 v.kind, .int .i64 v.n, .string v.s, .slice q.argsa q.argsn q.argsc, .slice q.namesa q.namesn q.namesc, .slice q.valsa q.valsn q.valsc, .int .u8 v.elem, .slice q.keya q.keyn q.keyc, .slice q.actsa q.actsn q.actsc, .string v.site] 50 (0, 0)) ∈ bx) (m4 : (p4, .cells #[.int .i64 (k : Nat)] 3 (0, 0)) ∈ bx) (h : PK w0 B b t bx w) (hF : FitP (pEx v2 (t.plain s))) :
  Calls Tryz.prog 129 #[.pointer (some ⟨p1, 0, none⟩), .pointer (some ⟨p2, 0, none⟩), .pointer (some ⟨p3, 0, none⟩), .pointer (some ⟨p4, 0, none⟩)] w fun e w' => e = .returned (.tuple #[]) ∧ PK w0 B b (pEx v2 (t.plain s)) bx w' := by
 have hvl := hv.vals
 have hvn := hv.vals.2.1
 have hlen := hv.lens.vals
 have hk : k < q.valsn := by rw [hlen]; exact (List.getElem?_eq_some_iff.1 hg).1
 obtain ⟨b2, o2, v3, q2, hqb, hb2, hg2, hc2, hv2⟩ := ExLs.elem hvl k hk
 obtain rfl : v3 = v2 := Option.some.inj (hg2.symm.trans hg)
 have f1 : FitP (t.plain s) := FitP.ex hv2 hF
 have c1 := hi_ (plain_P w0 B b t s hs bx w h f1)
 have c2 := hi_ (fun W hW => hE q2 (t.plain s) hv2 bx W hW hF)
 have hki : (k : Int) < (q.valsn : Int) := by omega
 replace hqb := hi_ hqb
 have x1 := c1_ (h.box m1)
 have x2 := c1_ (h.box m2)
 replace h := hi_ h
 replace hlen := hi_ hlen
 clear hF f1 hg hg2
 go_enter Tryz.func129, Tryz.ntmps129
 go_wp2_with (go_at_call 28; refine c1.out.mono ?_)
 first | rintro e w1 rfl h1 | rintro e w1 ⟨rfl, h1⟩
 clear x1 x2
 have hb3 := h1.box m3
 have y1 : ∀ d : LowW w1, d.w.cell? ⟨p1, 0, none⟩ = some (.pointer (some ⟨b, 0, none⟩)) := fun d => (d.cell (h1.boxlt m1).1).trans (by simp [World.cell?, h1.box m1])
 have y3 : ∀ d : LowW w1, d.w.cell? ⟨p3, 5, none⟩ = some (.slice (some ⟨b2, o2, none⟩) q.valsn q.valsc) := fun d => (d.cell (h1.boxlt m3).1).trans (by rw [← hqb.out]; simp [World.cell?, hb3])
 have y4 : ∀ d : LowW w1, d.w.cell? ⟨p4, 0, none⟩ = some (.int .i64 (k : Nat)) := fun d => (d.cell (h1.boxlt m4).1).trans (by simp [World.cell?, h1.box m4])
 have z0 : ∀ d : LowW w1, d.w.cell? ⟨b2, o2 + k * 10, none⟩ = some (.int .u8 v3.kind) := fun d => ((h1.low.trans (d.low.mono h1.size)).cell (p := ⟨b2, o2 + k * 10, none⟩) hb2).trans (hc2 0 (by omega))
 have z1 : ∀ d : LowW w1, d.w.cell? ⟨b2, o2 + k * 10 + 1, none⟩ = some (.int .i64 v3.n) := fun d => ((h1.low.trans (d.low.mono h1.size)).cell (p := ⟨b2, o2 + k * 10 + 1, none⟩) hb2).trans (by rw [Nat.add_assoc]; exact hc2 1 (by omega))
 have z2 : ∀ d : LowW w1, d.w.cell? ⟨b2, o2 + k * 10 + 2, none⟩ = some (.string v3.s) := fun d => ((h1.low.trans (d.low.mono h1.size)).cell (p := ⟨b2, o2 + k * 10 + 2, none⟩) hb2).trans (by rw [Nat.add_assoc]; exact hc2 2 (by omega))
 have z3 : ∀ d : LowW w1, d.w.cell? ⟨b2, o2 + k * 10 + 3, none⟩ = some (.slice q2.argsa q2.argsn q2.argsc) := fun d => ((h1.low.trans (d.low.mono h1.size)).cell (p := ⟨b2, o2 + k * 10 + 3, none⟩) hb2).trans (by rw [Nat.add_assoc]; exact hc2 3 (by omega))
 have z4 : ∀ d : LowW w1, d.w.cell? ⟨b2, o2 + k * 10 + 4, none⟩ = some (.slice q2.namesa q2.namesn q2.namesc) := fun d => ((h1.low.trans (d.low.mono h1.size)).cell (p := ⟨b2, o2 + k * 10 + 4, none⟩) hb2).trans (by rw [Nat.add_assoc]; exact hc2 4 (by omega))
 have z5 : ∀ d : LowW w1, d.w.cell? ⟨b2, o2 + k * 10 + 5, none⟩ = some (.slice q2.valsa q2.valsn q2.valsc) := fun d => ((h1.low.trans (d.low.mono h1.size)).cell (p := ⟨b2, o2 + k * 10 + 5, none⟩) hb2).trans (by rw [Nat.add_assoc]; exact hc2 5 (by omega))
 have z6 : ∀ d : LowW w1, d.w.cell? ⟨b2, o2 + k * 10 + 6, none⟩ = some (.int .u8 v3.elem) := fun d => ((h1.low.trans (d.low.mono h1.size)).cell (p := ⟨b2, o2 + k * 10 + 6, none⟩) hb2).trans (by rw [Nat.add_assoc]; exact hc2 6 (by omega))
 have z7 : ∀ d : LowW w1, d.w.cell? ⟨b2, o2 + k * 10 + 7, none⟩ = some (.slice q2.keya q2.keyn q2.keyc) := fun d => ((h1.low.trans (d.low.mono h1.size)).cell (p := ⟨b2, o2 + k * 10 + 7, none⟩) hb2).trans (by rw [Nat.add_assoc]; exact hc2 7 (by omega))
 have z8 : ∀ d : LowW w1, d.w.cell? ⟨b2, o2 + k * 10 + 8, none⟩ = some (.slice q2.actsa q2.actsn q2.actsc) := fun d => ((h1.low.trans (d.low.mono h1.size)).cell (p := ⟨b2, o2 + k * 10 + 8, none⟩) hb2).trans (by rw [Nat.add_assoc]; exact hc2 8 (by omega))
 have z9 : ∀ d : LowW w1, d.w.cell? ⟨b2, o2 + k * 10 + 9, none⟩ = some (.string v3.site) := fun d => ((h1.low.trans (d.low.mono h1.size)).cell (p := ⟨b2, o2 + k * 10 + 9, none⟩) hb2).trans (by rw [Nat.add_assoc]; exact hc2 9 (by omega))
 have c2d := hi_ (fun d : LowW w1 => c2.out d.w (h1.below d.low))
 replace h1 := hi_ h1
 clear hb3 hc2 hv2 c2
 go_wp2_with fail
 refine wp_region_low_last 6 rfl rfl (by kernel_rfl) (by kernel_rfl) (by kernel_rfl) ?_
 simp only [List.take_succ_cons, List.take_zero]
 repeat (go_big_quiet_step (fail))
 refine wpQuiet_nil ?_
 rintro _ ⟨d, rfl⟩ K hKK
 go_simp
 go_at_call 32
 refine (c2d.out d).mono ?_
 rintro e w3 ⟨rfl, h3⟩
 refine hKK.out _ _ ?_
 clear hKK K y1 y3 y4 z0 z1 z2 z3 z4 z5 z6 z7 z8 z9
 replace h3 := hi_ h3
 go_wp2_with fail
 exact bodyPost_end (v := .tuple #[]) (results_none (by kernel_rfl) _ _ _) rfl ⟨rfl, h3.out⟩
def PairsP (w0 : World) (B b : Nat) (v : Ex) : Prop := ∀ (q : QEx) (t : PS), ExAt w0 B v q → DoesP w0 B b 93 #[.pointer (some ⟨b, 0, none⟩), .agg #[.int .u8 v.kind, .int .i64 v.n, .string v.s, .slice q.argsa q.argsn q.argsc, .slice q.namesa q.namesn q.namesc, .slice q.valsa q.valsn q.valsc, .int .u8 v.elem, .slice q.keya q.keyn q.keyc, .slice q.actsa q.actsn q.actsc, .string v.site]] t (PS.pairsF v (pPairs v.vals v.names) t)
theorem pairs_P (w0 : World) (B b : Nat) (v : Ex) (hV : ∀ x ∈ v.vals, ExP w0 B b x) : PairsP w0 B b v := by
 intro q t hv bx w h hF
 have hL := hv.lens
 have hmx := ExLens.maxes hv
 have hmn := hmx.2.1
 have hmv := hmx.2.2.1
 have hn := hL.names
 have hvv := hL.vals
 obtain ⟨p1, hp1⟩ : ∃ p, p = w.heap.size := ⟨_, rfl⟩
 obtain ⟨S1, hS1⟩ : ∃ S, S = w.alloc ((PB_ 35 b)) := ⟨_, rfl⟩
 have k1 : PK w0 B b t ((p1, (PB_ 35 b)) :: bx) S1 := by rw [hS1, hp1]; exact h.alloc _
 obtain ⟨p3, hp3⟩ : ∃ p, p = S1.heap.size := ⟨_, rfl⟩
 obtain ⟨S2, hS2⟩ : ∃ S, S = S1.alloc (.cells #[.int .u8 v.kind, .int .i64 v.n, .string v.s, .slice q.argsa q.argsn q.argsc, .slice q.namesa q.namesn q.namesc, .slice q.valsa q.valsn q.valsc, .int .u8 v.elem, .slice q.keya q.keyn q.keyc, .slice q.actsa q.actsn q.actsc, .string v.site] 50) := ⟨_, rfl⟩
 have k2 : PK w0 B b t ((p3, .cells #[.int .u8 v.kind, .int .i64 v.n, .string v.s, .slice q.argsa q.argsn q.argsc, .slice q.namesa q.namesn q.namesc, .slice q.valsa q.valsn q.valsc, .int .u8 v.elem, .slice q.keya q.keyn q.keyc, .slice q.actsa q.actsn q.actsc, .string v.site] 50 (0, 0)) :: (p1, (PB_ 35 b)) :: bx) S2 := by rw [hS2, hp3]; exact k1.alloc _
 have hW1 : Hid (S1 = _) := hS1
 have hW2 : Hid (S2 = _) := hS2
 replace hp1 := hi_ hp1
 replace hp3 := hi_ hp3
 replace h := hi_ h
 replace k1 := hi_ k1
 clear hS1 hS2
 clear hL hmx
 by_cases e : q.namesn = q.valsn
 ·have hpe : v.names.length = v.vals.length := by omega
  have hEq : PS.pairsF v (pPairs v.vals v.names) t = pPairs v.vals v.names t := by unfold PS.pairsF; rw [if_pos hpe]
  rw [hEq] at hF ⊢
  have y : ((q.namesn : Int) != (q.valsn : Int)) = false := by simp [e]
  have e9 := hi_ e
  obtain ⟨-, -, -, -, x4, x5, -⟩ := c10_ (k2.box M0_)
  replace hF := hi_ hF
  replace hn := hi_ hn
  replace hvv := hi_ hvv
  replace k2 := hi_ k2
  clear hEq hpe e
  go_enter Tryz.func93, Tryz.ntmps93
  go_wp2_with (first | (rw [← hW1.out]) | (rw [← hW2.out]) | (rw [← hp1.out]) | (rw [← hp3.out]))
  go_loopw [19] (fun i wr => ∃ k : Nat, k ≤ q.namesn ∧ i = .int .i64 (k : Nat) ∧ PK w0 B b (pPairs (v.vals.take k) v.names t) ((p3, .cells #[.int .u8 v.kind, .int .i64 v.n, .string v.s, .slice q.argsa q.argsn q.argsc, .slice q.namesa q.namesn q.namesc, .slice q.valsa q.valsn q.valsc, .int .u8 v.elem, .slice q.keya q.keyn q.keyc, .slice q.actsa q.actsn q.actsc, .string v.site] 50 (0, 0)) :: (p1, (PB_ 35 b)) :: bx) wr) (fun i _ => q.namesn - (intOf i).toNat)
  case atStart => exact ⟨0, Nat.zero_le _, rfl, by rw [List.take_zero, pPairs]; exact k2.out⟩
  case round =>
   clear x4 x5 y
   obtain ⟨k, hk, rfl, hK⟩ := hrel
   by_cases hlt : k < q.namesn
   ·have hlt9 : Hid (k + 1 ≤ q.namesn) := hlt
    obtain ⟨b1, o1, s, hqa, hb1, hg1, u0, hs⟩ := TLs.elem hv.names k hlt
    have hkv : k < v.vals.length := by rw [← hvv.out, ← e9.out]; exact hlt
    have hg2 : v.vals[k]? = some (v.vals[k]'hkv) := List.getElem?_eq_getElem hkv
    obtain ⟨v2, hv2⟩ : ∃ v2, v2 = v.vals[k]'hkv := ⟨_, rfl⟩
    rw [← hv2] at hg2
    have hsn := hi_ (pPairs_snoc v.vals v.names k v2 s t hg2 hg1)
    have f4 := FitP.pairs_take hv.vals hF.out (k + 1)
    rw [hsn.out] at f4
    have u0' := (hK.low.cell (p := ⟨b1, o1 + k, none⟩) hb1).trans u0
    obtain ⟨-, -, -, -, x7, -⟩ := c10_ (hK.box M0_)
    obtain ⟨pi, hpi⟩ : ∃ p, p = wr.heap.size := ⟨_, rfl⟩
    obtain ⟨A1, hA1⟩ : ∃ S, S = wr.alloc (.cells #[.int .i64 0] 3) := ⟨_, rfl⟩
    have a1 : PK w0 B b (pPairs (v.vals.take k) v.names t) ((pi, .cells #[.int .i64 0] 3 (0, 0)) :: ((p3, .cells #[.int .u8 v.kind, .int .i64 v.n, .string v.s, .slice q.argsa q.argsn q.argsc, .slice q.namesa q.namesn q.namesc, .slice q.valsa q.valsn q.valsc, .int .u8 v.elem, .slice q.keya q.keyn q.keyc, .slice q.actsa q.actsn q.actsc, .string v.site] 50 (0, 0)) :: (p1, (PB_ 35 b)) :: bx)) A1 := by rw [hA1, hpi]; exact hK.alloc _
    obtain ⟨ps, hps⟩ : ∃ p, p = A1.heap.size := ⟨_, rfl⟩
    obtain ⟨A2, hA2⟩ : ∃ S, S = A1.alloc (.cells #[.string ⟨#[]⟩] 9) := ⟨_, rfl⟩
    have a2 : PK w0 B b (pPairs (v.vals.take k) v.names t) ((pi, .cells #[.int .i64 0] 3 (0, 0)) :: (ps, .cells #[.string ⟨#[]⟩] 9 (0, 0)) :: ((p3, .cells #[.int .u8 v.kind, .int .i64 v.n, .string v.s, .slice q.argsa q.argsn q.argsc, .slice q.namesa q.namesn q.namesc, .slice q.valsa q.valsn q.valsc, .int .u8 v.elem, .slice q.keya q.keyn q.keyc, .slice q.actsa q.actsn q.actsc, .string v.site] 50 (0, 0)) :: (p1, (PB_ 35 b)) :: bx)) A2 := by rw [hA2, hps]; exact (a1.alloc _).swap
    obtain ⟨A3, hA3⟩ : ∃ S, S = A2.setCell ⟨pi, 0, none⟩ (.int .i64 (k : Nat)) := ⟨_, rfl⟩
    have a3 : PK w0 B b (pPairs (v.vals.take k) v.names t) ((ps, .cells #[.string ⟨#[]⟩] 9 (0, 0)) :: (pi, .cells #[.int .i64 (k : Nat)] 3 (0, 0)) :: ((p3, .cells #[.int .u8 v.kind, .int .i64 v.n, .string v.s, .slice q.argsa q.argsn q.argsc, .slice q.namesa q.namesn q.namesc, .slice q.valsa q.valsn q.valsc, .int .u8 v.elem, .slice q.keya q.keyn q.keyc, .slice q.actsa q.actsn q.actsc, .string v.site] 50 (0, 0)) :: (p1, (PB_ 35 b)) :: bx)) A3 := by rw [hA3]; exact (a2.set 0 _).swap
    obtain ⟨A4, hA4⟩ : ∃ S, S = A3.setCell ⟨ps, 0, none⟩ (.string s) := ⟨_, rfl⟩
    have a4 : PK w0 B b (pPairs (v.vals.take k) v.names t) ((ps, .cells #[.string s] 9 (0, 0)) :: (pi, .cells #[.int .i64 (k : Nat)] 3 (0, 0)) :: ((p3, .cells #[.int .u8 v.kind, .int .i64 v.n, .string v.s, .slice q.argsa q.argsn q.argsc, .slice q.namesa q.namesn q.namesc, .slice q.valsa q.valsn q.valsc, .int .u8 v.elem, .slice q.keya q.keyn q.keyc, .slice q.actsa q.actsn q.actsc, .string v.site] 50 (0, 0)) :: (p1, (PB_ 35 b)) :: bx)) A4 := by rw [hA4]; exact a3.set 0 _
    have g1 := c1_ (a2.box M0_)
    have g2 : A2.frozen? ⟨pi, 0, none⟩ = false := fz_ (a2.box M0_)
    have g3 := c1_ (a3.box M0_)
    have g4 : A3.frozen? ⟨ps, 0, none⟩ = false := fz_ (a3.box M0_)
    have x9 := c1_ (a4.box M3_)
    have cR := hi_ (round_P w0 B b 129 #[.pointer (some ⟨p1, 0, none⟩), .pointer (some ⟨ps, 0, none⟩), .pointer (some ⟨p3, 0, none⟩), .pointer (some ⟨pi, 0, none⟩)] (pPairs (v.vals.take k) v.names t) (fun t => pEx v2 (t.plain s)) _ A4 (enters_of Tryz.func129 (by kernel_rfl) rfl)
     ((((PS.Le.refl _).plain s).trans (pEx_le v2 (by
      have := hv.vals.oks
      exact oks_mem this _ (List.mem_map.2 ⟨v2, List.mem_of_getElem? hg2, rfl⟩)) _)).lo)
     (fun W hW => pairs1_P w0 B b v q _ p1 ps p3 pi k s v2 _ W hv hg2 hs (hV v2 (List.mem_of_getElem? hg2)) M3_ M0_ M2_ M1_ hW (by have := f4.round; exact Nat.le_trans (Nat.le_succ _) this)) a4 f4)
    have b1' : Hid (A1 = _) := hA1
    have b2' : Hid (A2 = _) := hA2
    have b3' : Hid (A3 = _) := hA3
    have b4' : Hid (A4 = _) := hA4
    replace hqa := hi_ hqa
    replace hpi := hi_ hpi
    replace hps := hi_ hps
    replace hK := hi_ hK
    replace a1 := hi_ a1
    replace a2 := hi_ a2
    replace a3 := hi_ a3
    replace a4 := hi_ a4
    rw [hqa.out] at x7
    clear hA1 hA2 hA3 hA4 hg1 hg2 hv2 f4 hkv u0
    rw [hqa.out]
    go_wp2_with (first | (rw [← b1'.out]) | (rw [← b2'.out]) | (rw [← b3'.out]) | (rw [← b4'.out]) | (rw [← hpi.out]) | (rw [← hps.out]) | (go_at_call 25; refine cR.out.mono ?_))
    first | rintro e w3 rfl h3 | rintro e w3 ⟨rfl, h3⟩
    rw [← hsn.out] at h3
    replace h3 := hi_ h3.drop.drop
    clear g1 g2 g3 g4 x9 x7 u0'
    go_wp2_with fail
    go_roundw
    case rel => exact ⟨k + 1, hlt9.out, by go_num, by rw [← hqa.out]; exact h3.out⟩
    case measure => simp [intOf]; have := hlt9.out; omega
   ·obtain rfl : k = q.namesn := by omega
    have hfin : Hid (PK w0 B b (pPairs v.vals v.names t) bx wr) := by
     rw [List.take_of_length_le (by rw [← hvv.out, ← e9.out]; exact Nat.le_refl _)] at hK
     exact hK.drop.drop
    clear hK
    go_wp2_with fail
    exact bodyPost_end (v := .tuple #[]) (results_none (by kernel_rfl) _ _ _) rfl ⟨rfl, hfin.out⟩
 ·have hpe : ¬ v.names.length = v.vals.length := by omega
  have hEq : PS.pairsF v (pPairs v.vals v.names) t = t.worse := by unfold PS.pairsF; rw [if_neg hpe]
  rw [hEq]
  have y : ((q.namesn : Int) != (q.valsn : Int)) = true := by simp; omega
  obtain ⟨-, -, -, -, x4, x5, -⟩ := c10_ (k2.box M0_)
  have x1 := c1_ (k2.box M1_)
  obtain ⟨_, _, _, hq9, _⟩ := PK.cells k2
  have z1 : S2.cell? ⟨b, 3, none⟩ = some (.bool t.bad) := by simp [World.cell?, hq9]
  have z2 : S2.frozen? ⟨b, 3, none⟩ = false := fz_ hq9
  have hfin : Hid (PK w0 B b t.worse bx (S2.setCell ⟨b, 3, none⟩ (.bool true))) := (k2.head (C' := PC b t.worse) 3 _ (by
   rintro v cs ⟨⟨p, hp, rfl⟩, h2⟩
   exact ⟨⟨p, hp, rfl⟩, h2⟩)).drop.drop
  replace k2 := hi_ k2
  replace hn := hi_ hn
  replace hvv := hi_ hvv
  clear hEq hpe e hq9 hF
  go_enter Tryz.func93, Tryz.ntmps93
  go_wp2_with (first | (rw [← hW1.out]) | (rw [← hW2.out]) | (rw [← hp1.out]) | (rw [← hp3.out]))
  exact bodyPost_ret (v := .tuple #[]) (results_none (by kernel_rfl) _ _ _) rfl ⟨rfl, hfin.out⟩
theorem eqnames_any (w0 : World) (B b : Nat) (v : Ex) (q : QEx) (N : List ByteArray) (ao : Option Addr) (cp : Nat) (t : PS) (bx : Bx) (w : World) (hv : ExAt w0 B v q) (hN : N.length ≤ 8)
  (h : PK w0 B b t bx w) (ha : N = [] ∨ ∃ g, ao = some ⟨g, 0, none⟩ ∧ (g, .cells (N.map Value.string).toArray 9 (0, 0)) ∈ bx) :
  Calls Tryz.prog 149 #[.slice q.namesa q.namesn q.namesc, .slice ao N.length cp] w fun e w' => e = .returned (.bool (decide (v.names = N))) ∧ Below w.heap.size w w' := by
 have hln := hv.lens.names
 have hmx := hv.names.2.1
 by_cases e : q.namesn = N.length
 ·by_cases e0 : q.namesn = 0
  ·have hn : v.names = [] := List.eq_nil_of_length_eq_zero (by omega)
   have hN0 : N = [] := List.eq_nil_of_length_eq_zero (by omega)
   have := Tryz.slices_Equal_string_empty q.namesa ao q.namesc N.length cp w (by omega)
   rw [e0]
   refine this.mono ?_
   rintro e9 w' ⟨rfl, hw⟩
   rw [hw]
   exact ⟨rbool (by rw [hn, hN0]; rfl), Below.refl _ _⟩
  ·obtain ⟨b1, o1, s, hqa, hb1, hg1, u0, hs⟩ := TLs.elem hv.names 0 (by omega)
   rcases ha with rfl | ⟨g, hg, hm⟩
   ·simp at e; omega
   ·rw [hqa, hg]
    have := Tryz.slices_Equal_string b1 o1 q.namesn q.namesc g 0 N.length cp v.names N w (by omega) (Nat.le_refl _) (by omega) (by omega) (fun j hj => by
      obtain ⟨b2, o2, s2, hqb, hb2, hg2, u2, _⟩ := TLs.elem hv.names j (by omega)
      obtain ⟨rfl, rfl⟩ : b1 = b2 ∧ o1 = o2 := by
       rw [hqa] at hqb; injection hqb with hqb; injection hqb with x y; exact ⟨x, y⟩
      rw [h.low.cell (p := ⟨b1, o1 + j, none⟩) hb2, u2, List.getD_eq_getElem?_getD, hg2]; rfl)
     (fun j hj => by
      have hb := h.box hm
      simp [World.cell?, hb, List.getD_eq_getElem?_getD, List.getElem?_eq_getElem hj])
    refine this.mono ?_
    rintro e9 w' ⟨rfl, n, rfl⟩
    refine ⟨rbool ?_, ⟨rfl, rfl, rfl, Nat.le_refl _, fun _ _ => rfl⟩⟩
    rw [List.take_of_length_le (by omega), List.take_of_length_le (Nat.le_refl _)]
 ·refine (Tryz.slices_Equal_string_lens q.namesa ao q.namesn q.namesc N.length cp w e).mono ?_
  rintro e9 w' ⟨rfl, hw⟩
  rw [hw]
  have : ¬ v.names = N := fun h => e (by rw [hln, h])
  exact ⟨rbool (by simp [this]), Below.refl _ _⟩
theorem named_P (w0 : World) (B b : Nat) (v : Ex) (q : QEx) (N : List ByteArray) (ao : Option Addr) (cp : Nat) (t : PS) (bx : Bx) (w : World) (hv : ExAt w0 B v q) (hV : ExsP w0 B b v.vals) (hN : N.length ≤ 8)
  (h : PK w0 B b t bx w) (ha : N = [] ∨ ∃ g, ao = some ⟨g, 0, none⟩ ∧ (g, .cells (N.map Value.string).toArray 9 (0, 0)) ∈ bx) (hF : FitP (PS.named v N (pExs v.vals) t)) :
  Calls Tryz.prog 127 #[.pointer (some ⟨b, 0, none⟩), .agg (A0_ v q), .slice ao N.length cp] w fun e w' => e = .returned (.tuple #[]) ∧ PK w0 B b (PS.named v N (pExs v.vals) t) bx w' := by
 unfold A0_
 have hlv := hi_ hv.lens.vals
 have hF' : FitP (pExs v.vals (t.must (namedB v N))) := hF
 have f0 : FitP (t.must (namedB v N)) := FitP.exs hv.vals hF'
 obtain ⟨p3, hp3⟩ : ∃ p, p = w.heap.size := ⟨_, rfl⟩
 obtain ⟨S2, hS2⟩ : ∃ S, S = w.alloc ((O0_ v q)) := ⟨_, rfl⟩
 have k2 : PK w0 B b t ((p3, (O0_ v q)) :: bx) S2 := by rw [hS2, hp3]; exact h.alloc _
 have hW2 : Hid (S2 = _) := hS2
 replace hp3 := hi_ hp3
 replace h := hi_ h
 clear hS2
 have cE := hi_ (eqnames_any w0 B b v q N ao cp t _ S2 hv hN k2 (ha.imp id fun ⟨g, hg, hm⟩ => ⟨g, hg, List.mem_cons_of_mem _ hm⟩))
 have cM := hi_ (fun W ok (hW : PK w0 B b t ((p3, (O0_ v q)) :: bx) W) (e : ok = namedB v N) => must_asP w0 B b t (namedB v N) _ ok W hW e f0)
 have cA := hi_ (fun W (hW : PK w0 B b (t.must (namedB v N)) ((p3, (O0_ v q)) :: bx) W) => hV _ _ q.valsc _ hv.vals _ W hW hF')
 have hnb : Hid (namedB v N = (decide (v.names = N) && decide (v.vals.length = N.length))) := rfl
 obtain ⟨-, -, -, -, x4, -⟩ := c10_ (k2.box M0_)
 replace k2 := hi_ k2
 rw [show PS.named v N (pExs v.vals) t = pExs v.vals (t.must (namedB v N)) from rfl]
 generalize namedB v N = NB at *
 generalize decide (v.names = N) = U at *
 obtain ⟨m, hm⟩ : ∃ m, m = N.length := ⟨_, rfl⟩
 rw [← hm] at cE ⊢
 have hm8 : m ≤ 8 := by omega
 replace hm := hi_ hm
 clear hF hF' f0 hv ha hN
 go_enter Tryz.func127, Tryz.ntmps127
 go_wp2_with (first | (rw [← hW2.out]) | (rw [← hp3.out]) | (go_at_call 149; refine cE.out.mono ?_))
 first | rintro e w1 rfl hb1 | rintro e w1 ⟨rfl, hb1⟩
 clear x4
 have h1 := k2.out.below hb1
 replace hb1 := hi_ hb1
 obtain ⟨-, -, -, -, -, x5, -⟩ := c10_ (h1.box M0_)
 replace h1 := hi_ h1
 cases U
 ·have e9 : Hid (false = NB) := by show _ = _; rw [hnb.out]; rfl
  go_wp2_with (go_at_call 51; refine (cM.out _ _ h1.out e9.out).mono ?_)
  first | rintro e w2 rfl h2 | rintro e w2 ⟨rfl, h2⟩
  clear x5
  obtain ⟨-, -, -, -, -, x5, -⟩ := c10_ (h2.box M0_)
  replace h2 := hi_ h2
  go_wp2_with (go_at_call 84; refine (cA.out w2 h2.out).mono ?_)
  first | rintro e w3 rfl h3 | rintro e w3 ⟨rfl, h3⟩
  clear x5
  replace h3 := hi_ h3.drop
  go_wp2_with fail
  exact bodyPost_end (v := .tuple #[]) (results_none (by kernel_rfl) _ _ _) rfl ⟨rfl, h3.out⟩
 ·have e9 : Hid (((q.valsn : Int) == (m : Int)) = NB) := by show _ = _; rw [hnb.out, int_beq, hm.out, ← hlv.out]; simp
  go_wp2_with (go_at_call 51; refine (cM.out _ _ h1.out e9.out).mono ?_)
  first | rintro e w2 rfl h2 | rintro e w2 ⟨rfl, h2⟩
  clear x5
  obtain ⟨-, -, -, -, -, x5, -⟩ := c10_ (h2.box M0_)
  replace h2 := hi_ h2
  go_wp2_with (go_at_call 84; refine (cA.out w2 h2.out).mono ?_)
  first | rintro e w3 rfl h3 | rintro e w3 ⟨rfl, h3⟩
  clear x5
  replace h3 := hi_ h3.drop
  go_wp2_with fail
  exact bodyPost_end (v := .tuple #[]) (results_none (by kernel_rfl) _ _ _) rfl ⟨rfl, h3.out⟩
theorem sizeW_info : (Tryz.prog.info? 165).map (·.size) = some 9 := by kernel_rfl
theorem elemBad_not {v : Ex} (h : PS.elemBad v = false) : ¬ v.elem = 0 ∧ ¬ 9 ≤ v.elem ∧ v.n = 0 ∧ v.site.size = 0 ∧ v.acts.length = 0 ∧ v.key.length ≤ 1 := by
 unfold PS.elemBad at h
 simp only [Bool.or_eq_false_iff, decide_eq_false_iff_not] at h
 obtain ⟨⟨⟨⟨⟨h0, h1⟩, h2⟩, h3⟩, h4⟩, h5⟩ := h
 exact ⟨h0, h1, Classical.not_not.1 h2, Classical.not_not.1 h3, by omega, by omega⟩
theorem worse_K {w0 : World} {B b : Nat} {t : PS} {bx : Bx} {w : World} (h : PK w0 B b t bx w) : PK w0 B b t.worse bx (w.setCell ⟨b, 3, none⟩ (.bool true)) := h.head (C' := PC b t.worse) 3 _ (by
  rintro v cs ⟨⟨p, hp, rfl⟩, h2⟩
  exact ⟨⟨p, hp, rfl⟩, h2⟩)
theorem bad_cell {w0 : World} {B b : Nat} {t : PS} {bx : Bx} {w : World} (h : PK w0 B b t bx w) : w.cell? ⟨b, 3, none⟩ = some (.bool t.bad) ∧ w.frozen? ⟨b, 3, none⟩ = false := by
 obtain ⟨_, _, _, hq, _⟩ := PK.cells h
 exact ⟨by simp [World.cell?, hq], by simp [World.frozen?, hq]⟩
theorem elemB_P (w0 : World) (B b : Nat) (v : Ex) (q : QEx) (t : PS) (hB : PS.elemBad v = true) (hv : ExAt w0 B v q) : DoesP w0 B b 91 #[.pointer (some ⟨b, 0, none⟩), .agg (A0_ v q)] t (PS.elem v (pExs v.args) (pExs v.vals) (pExs v.key) (pPairs v.vals v.names) t) := by
 unfold A0_
 intro bx w h hF
 rw [show PS.elem v (pExs v.args) (pExs v.vals) (pExs v.key) (pPairs v.vals v.names) t = t.worse from by unfold PS.elem; rw [if_pos hB]]
 have hn9 : Hid (¬ (¬ v.elem = 0 ∧ ¬ 9 ≤ v.elem ∧ v.n = 0 ∧ v.site.size = 0 ∧ ¬ 0 < q.actsn ∧ ¬ 1 < q.keyn)) := by
  show ¬ _
  rintro ⟨h0, h1, h2, h3, h4, h5⟩
  rw [hv.lens.acts] at h4
  rw [hv.lens.key] at h5
  unfold PS.elemBad at hB
  simp [h2, h3] at hB
  omega
 clear hF hB
 obtain ⟨p1, hp1⟩ : ∃ p, p = w.heap.size := ⟨_, rfl⟩
 obtain ⟨S1, hS1⟩ : ∃ S, S = w.alloc ((PB_ 35 b)) := ⟨_, rfl⟩
 have k1 : PK w0 B b t ((p1, (PB_ 35 b)) :: bx) S1 := by rw [hS1, hp1]; exact h.alloc _
 obtain ⟨p3, hp3⟩ : ∃ p, p = S1.heap.size := ⟨_, rfl⟩
 obtain ⟨S2, hS2⟩ : ∃ S, S = S1.alloc ((O0_ v q)) := ⟨_, rfl⟩
 have k2 : PK w0 B b t (L2_ p3 p1 b (O0_ v q) bx) S2 := by rw [hS2, hp3]; exact k1.alloc _
 have hW1 : Hid (S1 = _) := hS1
 have hW2 : Hid (S2 = _) := hS2
 replace hp1 := hi_ hp1
 replace hp3 := hi_ hp3
 replace h := hi_ h
 replace k1 := hi_ k1
 clear hS1 hS2
 obtain ⟨S3, hS3⟩ : ∃ S, S = S2.alloc (.cells A23_ 165) := ⟨_, rfl⟩
 have k3 : PK w0 B b t ((S2.heap.size, O22_) :: (L2_ p3 p1 b (O0_ v q) bx)) S3 := by rw [hS3]; exact k2.alloc _
 have hst := row_store (k3.box M0_) (cs := A24_) sizeW_info rfl (by simp [Value.oneCell', A24_])
 have k4 := k3.row A24_
 obtain ⟨S4, hS4⟩ : ∃ S, S = S3.setRow S2.heap.size A24_ := ⟨_, rfl⟩
 rw [← hS4] at k4 hst
 have hW3 : Hid (S3 = _) := hS3
 replace hst := hi_ hst
 replace k2 := hi_ k2
 replace k3 := hi_ k3
 clear hS3 hS4
 obtain ⟨-, x1, -, -, -, -, x6, x7, x8, x9⟩ := c10_ (k4.box M1_)
 have x11 := c1_ (k4.box M2_)
 obtain ⟨z1, z2⟩ := bad_cell k4
 have hfin := hi_ (worse_K k4).drop.drop.drop
 replace k4 := hi_ k4
 replace hv := hi_ hv
 have g6 := u8_nonneg hv.out.elem
 have hw6 : Hid (wrap64 v.elem = v.elem) := by show _ = _; have h1 := hv.out.elem; have h2 := g6; simp [Lit.wf, IntKind.min, IntKind.max, IntKind.signed, IntKind.bits] at h1; exact Go.IntWalk.wrap64_in _ (by omega)
 replace g6 := hi_ g6
 go_enter Tryz.func91, Tryz.ntmps91
 go_upto_region 2 with (first | (rw [← hW1.out]) | (rw [← hW2.out]) | (rw [← hp1.out]) | (rw [← hp3.out]) | (rw [← hW3.out]) | (refine st_arm hst.out rfl _ _ rfl rfl rfl ?_))
 by_cases a0 : v.elem = 0
 ·skip
  have y00 : (v.elem == 0) = true := by simp [a0]
  replace a0 := hi_ a0
  go_wp2_with fail
  first | exact bodyPost_ret (v := .tuple #[]) (results_none (by kernel_rfl) _ _ _) rfl ⟨rfl, hfin.out⟩ | trace_state
 ·skip
  have y00 : (v.elem == 0) = false := by simp [a0]
  replace a0 := hi_ a0
  by_cases a1 : 9 ≤ v.elem
  ·skip
   have y10 : 9 ≤ wrap64 v.elem := by rw [hw6.out]; exact a1
   replace a1 := hi_ a1
   go_wp2_with fail
   first | exact bodyPost_ret (v := .tuple #[]) (results_none (by kernel_rfl) _ _ _) rfl ⟨rfl, hfin.out⟩ | trace_state
  ·skip
   have y10 : ¬ 9 ≤ wrap64 v.elem := by rw [hw6.out]; exact a1
   have y11 : wrap64 v.elem < 9 := by rw [hw6.out]; omega
   replace a1 := hi_ a1
   by_cases a2 : ¬ v.n = 0
   ·skip
    have y20 : (v.n != 0) = true := by simp [a2]
    have y21 : ¬ v.n = 0 := a2
    replace a2 := hi_ a2
    go_wp2_with fail
    first | exact bodyPost_ret (v := .tuple #[]) (results_none (by kernel_rfl) _ _ _) rfl ⟨rfl, hfin.out⟩ | trace_state
   ·skip
    replace a2 := Classical.not_not.1 a2
    have y20 : (v.n != 0) = false := by simp [a2]
    have y21 : v.n = 0 := a2
    replace a2 := hi_ a2
    by_cases a3 : ¬ v.site.size = 0
    ·skip
     have y30 : ¬ v.site.toList = [] := by rw [size_nil]; exact a3
     have y31 : (v.site.toList != []) = true := by rw [bne, size_beq]; simp [a3]
     replace a3 := hi_ a3
     go_wp2_with fail
     first | exact bodyPost_ret (v := .tuple #[]) (results_none (by kernel_rfl) _ _ _) rfl ⟨rfl, hfin.out⟩ | trace_state
    ·skip
     replace a3 := Classical.not_not.1 a3
     have y30 : v.site.toList = [] := by rw [size_nil]; exact a3
     have y31 : (v.site.toList != []) = false := by rw [bne, size_beq]; simp [a3]
     replace a3 := hi_ a3
     by_cases a4 : 0 < q.actsn
     ·skip
      have y40 : (0 : Int) < (q.actsn : Int) := by omega
      have y41 : ¬ q.actsn = 0 := by omega
      have y42 : 0 < q.actsn := a4
      replace a4 := hi_ a4
      go_wp2_with fail
      first | exact bodyPost_ret (v := .tuple #[]) (results_none (by kernel_rfl) _ _ _) rfl ⟨rfl, hfin.out⟩ | trace_state
     ·skip
      have y40 : q.actsn = 0 := by omega
      replace a4 := hi_ a4
      by_cases a5 : 1 < q.keyn
      ·skip
       have y50 : (1 : Int) < (q.keyn : Int) := by omega
       have y51 : 1 < q.keyn := a5
       replace a5 := hi_ a5
       go_wp2_with fail
       first | exact bodyPost_ret (v := .tuple #[]) (results_none (by kernel_rfl) _ _ _) rfl ⟨rfl, hfin.out⟩ | trace_state
      ·skip
       have y50 : ¬ (1 : Int) < (q.keyn : Int) := by omega
       have y51 : ¬ 1 < q.keyn := a5
       have y52 : q.keyn ≤ 1 := by omega
       replace a5 := hi_ a5
       exfalso
       exact hn9.out ⟨a0.out, a1.out, a2.out, a3.out, a4.out, a5.out⟩
theorem pairsF_le {w : World} {B : Nat} {v : Ex} {q : QEx} (hv : ExAt w B v q) (u : PS) : PS.Le u (PS.pairsF v (pPairs v.vals v.names) u) (0 + (28 * wts (v.vals.map Ex.tr) + 28 * (v.names.length + wts (v.names.map T.txt)))) :=
 (PS.Le.refl u).pairsF v (fun u => pPairs_le v.vals (fun v _ => pEx_le v) hv.vals.oks v.names u)
theorem elem1c_P (w0 : World) (B b : Nat) (v : Ex) (q : QEx) (t : PS) (p1 p3 : Nat) (bx : Bx) (w : World) (hv : ExAt w0 B v q) {o3 : Obj} (ho : o3 = (O0_ v q)) (hP : PairsP w0 B b v)
  (m1 : (p1, (PB_ 35 b)) ∈ bx) (m3 : (p3, o3) ∈ bx) (h : PK w0 B b t bx w) (hF : FitP (PS.pairsF v (pPairs v.vals v.names) t)) :
  Calls Tryz.prog 126 #[.pointer (some ⟨p1, 0, none⟩), .pointer (some ⟨p3, 0, none⟩)] w fun e w' => e = .returned (.tuple #[]) ∧ PK w0 B b (PS.pairsF v (pPairs v.vals v.names) t) bx w' := by
 subst ho
 have c1 := hi_ (hP q t hv bx w h hF)
 have x1 := c1_ (h.box m1)
 have hl := hi_ (row_load (h.box m3) Tryz.underlying50 rfl sizeEx_info)
 replace h := hi_ h
 clear hF hv
 go_enter Tryz.func126, Tryz.ntmps126
 go_wp2_with (first | (refine ld_arm hl.out rfl _ rfl rfl ?_) | (go_at_call 93; refine c1.out.mono ?_))
 first | rintro e w9 rfl h9 | rintro e w9 ⟨rfl, h9⟩
 replace h9 := hi_ h9
 go_wp2_with fail
 exact bodyPost_end (v := .tuple #[]) (results_none (by kernel_rfl) _ _ _) rfl ⟨rfl, h9.out⟩
theorem elem1_P (w0 : World) (B b : Nat) (v : Ex) (q : QEx) (t : PS) (he : v.elem = 1) (hB : PS.elemBad v = false) (hv : ExAt w0 B v q) (hA : ExsP w0 B b v.args) (_hV : ExsP w0 B b v.vals) (hK : ExsP w0 B b v.key) (hP : PairsP w0 B b v) : DoesP w0 B b 91 #[.pointer (some ⟨b, 0, none⟩), .agg (A0_ v q)] t (PS.elem v (pExs v.args) (pExs v.vals) (pExs v.key) (pPairs v.vals v.names) t) := by
 unfold A0_
 intro bx w h hF
 have hs := hv.s
 have hok9 := hi_ hv.ok
 have hEq : PS.elem v (pExs v.args) (pExs v.vals) (pExs v.key) (pPairs v.vals v.names) t = (pExs v.args (PS.round (PS.pairsF v (pPairs v.vals v.names)) ((PS.keyF v (pExs v.key) (t.put w2_)).plain v.s))) := by
  unfold PS.elem
  rw [if_neg (by rw [hB]; decide)]
  unfold PS.elemP PS.nameF
  rw [if_pos (by omega), if_neg (by omega), he]; rfl
 rw [hEq] at hF ⊢
 clear hEq
 have f6 : FitP (PS.round (PS.pairsF v (pPairs v.vals v.names)) ((PS.keyF v (pExs v.key) (t.put w2_)).plain v.s)) := FitP.exs hv.args hF
 have f4 : FitP ((PS.keyF v (pExs v.key) (t.put w2_)).plain v.s) := f6.of ((PS.Le.refl _).round (f := (PS.pairsF v (pPairs v.vals v.names))) (fun u => pairsF_le hv u))
 have f3 : FitP (PS.keyF v (pExs v.key) (t.put w2_)) := f4.plain
 have f2 : FitP (if v.key.length = 0 then (t.put w2_).put [45] else (t.put w2_)) := FitP.exs hv.key f3
 have f1 : FitP (t.put w2_) := by
  split at f2
  ·exact f2.put
  ·exact f2
 obtain ⟨p1, hp1⟩ : ∃ p, p = w.heap.size := ⟨_, rfl⟩
 obtain ⟨S1, hS1⟩ : ∃ S, S = w.alloc ((PB_ 35 b)) := ⟨_, rfl⟩
 have k1 : PK w0 B b t ((p1, (PB_ 35 b)) :: bx) S1 := by rw [hS1, hp1]; exact h.alloc _
 obtain ⟨p3, hp3⟩ : ∃ p, p = S1.heap.size := ⟨_, rfl⟩
 obtain ⟨S2, hS2⟩ : ∃ S, S = S1.alloc ((O0_ v q)) := ⟨_, rfl⟩
 have k2 : PK w0 B b t (L2_ p3 p1 b (O0_ v q) bx) S2 := by rw [hS2, hp3]; exact k1.alloc _
 have hW1 : Hid (S1 = _) := hS1
 have hW2 : Hid (S2 = _) := hS2
 replace hp1 := hi_ hp1
 replace hp3 := hi_ hp3
 replace h := hi_ h
 replace k1 := hi_ k1
 clear hS1 hS2
 have c1 := hi_ (fun W hW => put_P w0 B b t w2_ (L2_ p3 p1 b (O23_ v q) bx) W hW f1)
 have c2 := hi_ (fun (f : FitP ((t.put w2_).put [45])) W hW => put_P w0 B b (t.put w2_) [45] (L2_ p3 p1 b (O23_ v q) bx) W hW f)
 obtain ⟨T2, hT2⟩ : ∃ T, T = (if v.key.length = 0 then (t.put w2_).put [45] else (t.put w2_)) := ⟨_, rfl⟩
 have f3' : FitP (pExs v.key T2) := by rw [hT2]; exact f3
 have c3 := hi_ (fun W hW => hK _ _ q.keyc T2 hv.key (L2_ p3 p1 b (O23_ v q) bx) W hW f3')
 replace hT2 := hi_ hT2
 clear f3'
 have c4 := hi_ (fun W hW => plain_P w0 B b (PS.keyF v (pExs v.key) (t.put w2_)) v.s hs (L2_ p3 p1 b (O23_ v q) bx) W hW f4)
 have c6 := hi_ (fun W hW => round_P w0 B b 126 #[.pointer (some ⟨p1, 0, none⟩), .pointer (some ⟨p3, 0, none⟩)] ((PS.keyF v (pExs v.key) (t.put w2_)).plain v.s) (PS.pairsF v (pPairs v.vals v.names)) (L2_ p3 p1 b (O23_ v q) bx) W (enters_of Tryz.func126 (by kernel_rfl) rfl) (pairsF_le hv _).lo
  (fun W hW => elem1c_P w0 B b v q _ p1 p3 (L2_ p3 p1 b (O23_ v q) bx) W hv (by simp only [O0_, O23_, A0_, A25_, he]) hP M1_ M0_ hW (Nat.le_trans (Nat.le_succ _) f6.round)) hW f6)
 have c9 := hi_ (fun W hW => hA _ _ q.argsc (PS.round (PS.pairsF v (pPairs v.vals v.names)) ((PS.keyF v (pExs v.key) (t.put w2_)).plain v.s)) hv.args (L2_ p3 p1 b (O23_ v q) bx) W hW hF)
 have hv' := hi_ hv
 have hkl := hi_ hv.lens.key
 have hal := hv.lens.acts
 obtain ⟨b0, b1, b2, b3, b4, b5⟩ := elemBad_not hB
 replace f2 := hi_ f2
 have f6' := hi_ f6
 clear hF hB f1 f3 f4 f6 hs
 have hOBX : Hid (((O0_ v q) : Obj) = (O23_ v q)) := by show _ = _; simp only [O0_, O23_, A0_, A25_, he]
 obtain ⟨S3, hS3⟩ : ∃ S, S = S2.alloc (.cells A23_ 165) := ⟨_, rfl⟩
 rw [hOBX.out] at k2
 have k3 : PK w0 B b t ((S2.heap.size, O22_) :: (L2_ p3 p1 b (O23_ v q) bx)) S3 := by rw [hS3]; exact k2.alloc _
 have hst := row_store (k3.box M0_) (cs := A24_) sizeW_info rfl (by simp [Value.oneCell', A24_])
 have k4 := k3.row A24_
 obtain ⟨S4, hS4⟩ : ∃ S, S = S3.setRow S2.heap.size A24_ := ⟨_, rfl⟩
 rw [← hS4] at k4 hst
 have hW3 : Hid (S3 = _) := hS3
 replace hst := hi_ hst
 replace k2 := hi_ k2
 replace k3 := hi_ k3
 clear hS3 hS4
 have x11 := c1_ (k4.box M2_)
 obtain ⟨-, x1, -, -, -, -, x6, x7, x8, x9⟩ := c10_ (k4.box M1_)
 have xw : S4.cell? ⟨S2.heap.size, 1, none⟩ = some (.string (bs w2_)) := by
  have := k4.box M0_
  simp [World.cell?, this]; rfl
 have hk5 := k4.drop
 have y11 : ∀ d : LowW S4, d.w.cell? ⟨p1, 0, none⟩ = some (.pointer (some ⟨b, 0, none⟩)) := fun d => (d.cell (hk5.boxlt M1_).1).trans x11
 have y6 : ∀ d : LowW S4, d.w.cell? ⟨p3, 6, none⟩ = some (.int .u8 1) := fun d => (d.cell (hk5.boxlt M0_).1).trans x6
 have yw : ∀ d : LowW S4, d.w.cell? ⟨S2.heap.size, 1, none⟩ = some (.string (bs w2_)) := fun d => (d.cell (k4.boxlt M0_).1).trans xw
 have c1d := hi_ (fun d : LowW S4 => c1.out d.w (hk5.below d.low))
 have hsz4 := hk5.size
 replace hk5 := hi_ hk5
 replace k4 := hi_ k4
 clear xw x11
 have z0 : Hid (v.n = 0) := b2
 have z3 : Hid (v.site.size = 0) := b3
 have z4 : Hid (q.actsn = 0) := by show _ = _; omega
 have z5 : Hid (q.keyn ≤ 1) := by show _ ≤ _; rw [hkl.out]; exact b5
 replace hal := hi_ hal
 replace he := hi_ he
 replace hv := hi_ hv
 clear b0 b1 b2 b3 b4 b5
 go_enter Tryz.func91, Tryz.ntmps91
 go_upto_region 2 with (first | (rw [← hW1.out]) | (rw [← hW2.out]) | (rw [← hp1.out]) | (rw [← hp3.out]) | (rw [← hW3.out]) | (refine st_arm hst.out rfl _ _ rfl rfl rfl ?_))
 have u2 : (v.n != 0) = false := by simp [z0.out]
 have u3 : v.site.toList = [] := by rw [size_nil]; exact z3.out
 have u3' : (v.site.toList != []) = false := by rw [bne, size_beq]; simp [z3.out]
 have u4 : q.actsn = 0 := z4.out
 have u5 : ¬ (1 : Int) < (q.keyn : Int) := by have := z5.out; omega
 go_wp2_with fail
 refine wp_region_low_last 5 rfl rfl (by kernel_rfl) (by kernel_rfl) (by kernel_rfl) ?_
 simp only [List.take_succ_cons, List.take_zero]
 clear u2 u3 u3' u4 u5 x1 x6 x7 x8 x9
 repeat (go_big_quiet_step (fail))
 refine wpQuiet_nil ?_
 rintro _ ⟨d, rfl⟩ K hKK
 go_simp
 go_at_call 27
 refine (c1d.out d).mono ?_
 first | rintro e w5 rfl h5 | rintro e w5 ⟨rfl, h5⟩
 refine hKK.out _ _ ?_
 clear hKK K y11 y6 yw
 obtain ⟨-, -, -, -, -, -, -, x7, -⟩ := c10_ (h5.box M0_)
 have x11 := c1_ (h5.box M1_)
 go_upto_if 49 with fail
 go_cut [] (fun wx => PK w0 B b T2 (L2_ p3 p1 b (O23_ v q) bx) wx)
 case first =>
  by_cases hk0 : q.keyn = 0
  ·have k9 : v.key.length = 0 := by rw [← hkl.out]; exact hk0
   have f2' := f2.out
   rw [if_pos k9] at f2'
   have c2' := hi_ (c2.out f2' w5 h5)
   have y : ((q.keyn : Int) == 0) = true := by simp [hk0]
   replace k9 := hi_ k9
   replace h5 := hi_ h5
   clear f2' hk0
   go_wp2_with (go_at_call 27; refine c2'.out.mono ?_)
   first | rintro e w6 rfl h6 | rintro e w6 ⟨rfl, h6⟩
   replace h6 := hi_ h6
   go_wp2_with fail
   go_meet
   rw [hT2.out, if_pos k9.out]
   exact h6.out
  ·have k9 : Hid (¬ v.key.length = 0) := by show ¬ _; rw [← hkl.out]; exact hk0
   have y : ((q.keyn : Int) == 0) = false := by simp [hk0]
   replace h5 := hi_ h5
   clear hk0
   go_wp2_with fail
   go_meet
   rw [hT2.out, if_neg k9.out]
   exact h5.out
 case rest =>
  clear x7 x11
  replace h5 := hi_ h5
  obtain ⟨-, -, -, -, -, -, -, x7, -⟩ := c10_ (hcut.box M0_)
  have x11 := c1_ (hcut.box M1_)
  replace hcut := hi_ hcut
  go_wp2_with (go_at_call 84; refine (c3.out wc hcut.out).mono ?_)
  first | rintro e w7 rfl h7 | rintro e w7 ⟨rfl, h7⟩
  clear x7 x11
  have h7 : PK w0 B b (PS.keyF v (pExs v.key) (t.put w2_)) (L2_ p3 p1 b (O23_ v q) bx) w7 := by
   have h7' := h7
   rw [hT2.out] at h7'
   exact h7'
  obtain ⟨-, -, x2, -, -, -, x6, -⟩ := c10_ (h7.box M0_)
  have x11 := c1_ (h7.box M1_)
  replace h7 := hi_ h7
  go_wp2_with (go_at_call 28; refine (c4.out w7 h7.out).mono ?_)
  first | rintro e w8 rfl h8 | rintro e w8 ⟨rfl, h8⟩
  clear x6 x2 x11
  obtain ⟨-, -, -, -, -, -, x6, -⟩ := c10_ (h8.box M0_)
  have x11 := c1_ (h8.box M1_)
  replace h8 := hi_ h8
  go_wp2_with (go_at_call 25; refine (c6.out w8 h8.out).mono ?_)
  first | rintro e wb rfl hb | rintro e wb ⟨rfl, hb⟩
  clear x6 x11
  obtain ⟨-, -, -, x3, -⟩ := c10_ (hb.box M0_)
  have x11 := c1_ (hb.box M1_)
  replace hb := hi_ hb
  go_wp2_with (go_at_call 84; refine (c9.out wb hb.out).mono ?_)
  first | rintro e wc9 rfl hc | rintro e wc9 ⟨rfl, hc⟩
  replace hc := hi_ hc.drop.drop
  go_wp2_with fail
  exact bodyPost_end (v := .tuple #[]) (results_none (by kernel_rfl) _ _ _) rfl ⟨rfl, hc.out⟩
theorem elem2_P (w0 : World) (B b : Nat) (v : Ex) (q : QEx) (t : PS) (he : v.elem = 2) (hB : PS.elemBad v = false) (hv : ExAt w0 B v q) (hA : ExsP w0 B b v.args) (_hV : ExsP w0 B b v.vals) (hK : ExsP w0 B b v.key) (hP : PairsP w0 B b v) : DoesP w0 B b 91 #[.pointer (some ⟨b, 0, none⟩), .agg (A0_ v q)] t (PS.elem v (pExs v.args) (pExs v.vals) (pExs v.key) (pPairs v.vals v.names) t) := by
 unfold A0_
 intro bx w h hF
 have hs := hv.s
 have hok9 := hi_ hv.ok
 have hEq : PS.elem v (pExs v.args) (pExs v.vals) (pExs v.key) (pPairs v.vals v.names) t = (pExs v.args (PS.round (PS.pairsF v (pPairs v.vals v.names)) ((PS.keyF v (pExs v.key) (t.put w3_)).plain v.s))) := by
  unfold PS.elem
  rw [if_neg (by rw [hB]; decide)]
  unfold PS.elemP PS.nameF
  rw [if_pos (by omega), if_neg (by omega), he]; rfl
 rw [hEq] at hF ⊢
 clear hEq
 have f6 : FitP (PS.round (PS.pairsF v (pPairs v.vals v.names)) ((PS.keyF v (pExs v.key) (t.put w3_)).plain v.s)) := FitP.exs hv.args hF
 have f4 : FitP ((PS.keyF v (pExs v.key) (t.put w3_)).plain v.s) := f6.of ((PS.Le.refl _).round (f := (PS.pairsF v (pPairs v.vals v.names))) (fun u => pairsF_le hv u))
 have f3 : FitP (PS.keyF v (pExs v.key) (t.put w3_)) := f4.plain
 have f2 : FitP (if v.key.length = 0 then (t.put w3_).put [45] else (t.put w3_)) := FitP.exs hv.key f3
 have f1 : FitP (t.put w3_) := by
  split at f2
  ·exact f2.put
  ·exact f2
 obtain ⟨p1, hp1⟩ : ∃ p, p = w.heap.size := ⟨_, rfl⟩
 obtain ⟨S1, hS1⟩ : ∃ S, S = w.alloc ((PB_ 35 b)) := ⟨_, rfl⟩
 have k1 : PK w0 B b t ((p1, (PB_ 35 b)) :: bx) S1 := by rw [hS1, hp1]; exact h.alloc _
 obtain ⟨p3, hp3⟩ : ∃ p, p = S1.heap.size := ⟨_, rfl⟩
 obtain ⟨S2, hS2⟩ : ∃ S, S = S1.alloc ((O0_ v q)) := ⟨_, rfl⟩
 have k2 : PK w0 B b t (L2_ p3 p1 b (O0_ v q) bx) S2 := by rw [hS2, hp3]; exact k1.alloc _
 have hW1 : Hid (S1 = _) := hS1
 have hW2 : Hid (S2 = _) := hS2
 replace hp1 := hi_ hp1
 replace hp3 := hi_ hp3
 replace h := hi_ h
 replace k1 := hi_ k1
 clear hS1 hS2
 have c1 := hi_ (fun W hW => put_P w0 B b t w3_ (L2_ p3 p1 b (O24_ v q) bx) W hW f1)
 have c2 := hi_ (fun (f : FitP ((t.put w3_).put [45])) W hW => put_P w0 B b (t.put w3_) [45] (L2_ p3 p1 b (O24_ v q) bx) W hW f)
 obtain ⟨T2, hT2⟩ : ∃ T, T = (if v.key.length = 0 then (t.put w3_).put [45] else (t.put w3_)) := ⟨_, rfl⟩
 have f3' : FitP (pExs v.key T2) := by rw [hT2]; exact f3
 have c3 := hi_ (fun W hW => hK _ _ q.keyc T2 hv.key (L2_ p3 p1 b (O24_ v q) bx) W hW f3')
 replace hT2 := hi_ hT2
 clear f3'
 have c4 := hi_ (fun W hW => plain_P w0 B b (PS.keyF v (pExs v.key) (t.put w3_)) v.s hs (L2_ p3 p1 b (O24_ v q) bx) W hW f4)
 have c6 := hi_ (fun W hW => round_P w0 B b 126 #[.pointer (some ⟨p1, 0, none⟩), .pointer (some ⟨p3, 0, none⟩)] ((PS.keyF v (pExs v.key) (t.put w3_)).plain v.s) (PS.pairsF v (pPairs v.vals v.names)) (L2_ p3 p1 b (O24_ v q) bx) W (enters_of Tryz.func126 (by kernel_rfl) rfl) (pairsF_le hv _).lo
  (fun W hW => elem1c_P w0 B b v q _ p1 p3 (L2_ p3 p1 b (O24_ v q) bx) W hv (by simp only [O0_, O24_, A0_, A26_, he]) hP M1_ M0_ hW (Nat.le_trans (Nat.le_succ _) f6.round)) hW f6)
 have c9 := hi_ (fun W hW => hA _ _ q.argsc (PS.round (PS.pairsF v (pPairs v.vals v.names)) ((PS.keyF v (pExs v.key) (t.put w3_)).plain v.s)) hv.args (L2_ p3 p1 b (O24_ v q) bx) W hW hF)
 have hv' := hi_ hv
 have hkl := hi_ hv.lens.key
 have hal := hv.lens.acts
 obtain ⟨b0, b1, b2, b3, b4, b5⟩ := elemBad_not hB
 replace f2 := hi_ f2
 have f6' := hi_ f6
 clear hF hB f1 f3 f4 f6 hs
 have hOBX : Hid (((O0_ v q) : Obj) = (O24_ v q)) := by show _ = _; simp only [O0_, O24_, A0_, A26_, he]
 obtain ⟨S3, hS3⟩ : ∃ S, S = S2.alloc (.cells A23_ 165) := ⟨_, rfl⟩
 rw [hOBX.out] at k2
 have k3 : PK w0 B b t ((S2.heap.size, O22_) :: (L2_ p3 p1 b (O24_ v q) bx)) S3 := by rw [hS3]; exact k2.alloc _
 have hst := row_store (k3.box M0_) (cs := A24_) sizeW_info rfl (by simp [Value.oneCell', A24_])
 have k4 := k3.row A24_
 obtain ⟨S4, hS4⟩ : ∃ S, S = S3.setRow S2.heap.size A24_ := ⟨_, rfl⟩
 rw [← hS4] at k4 hst
 have hW3 : Hid (S3 = _) := hS3
 replace hst := hi_ hst
 replace k2 := hi_ k2
 replace k3 := hi_ k3
 clear hS3 hS4
 have x11 := c1_ (k4.box M2_)
 obtain ⟨-, x1, -, -, -, -, x6, x7, x8, x9⟩ := c10_ (k4.box M1_)
 have xw : S4.cell? ⟨S2.heap.size, 2, none⟩ = some (.string (bs w3_)) := by
  have := k4.box M0_
  simp [World.cell?, this]; rfl
 have hk5 := k4.drop
 have y11 : ∀ d : LowW S4, d.w.cell? ⟨p1, 0, none⟩ = some (.pointer (some ⟨b, 0, none⟩)) := fun d => (d.cell (hk5.boxlt M1_).1).trans x11
 have y6 : ∀ d : LowW S4, d.w.cell? ⟨p3, 6, none⟩ = some (.int .u8 2) := fun d => (d.cell (hk5.boxlt M0_).1).trans x6
 have yw : ∀ d : LowW S4, d.w.cell? ⟨S2.heap.size, 2, none⟩ = some (.string (bs w3_)) := fun d => (d.cell (k4.boxlt M0_).1).trans xw
 have c1d := hi_ (fun d : LowW S4 => c1.out d.w (hk5.below d.low))
 have hsz4 := hk5.size
 replace hk5 := hi_ hk5
 replace k4 := hi_ k4
 clear xw x11
 have z0 : Hid (v.n = 0) := b2
 have z3 : Hid (v.site.size = 0) := b3
 have z4 : Hid (q.actsn = 0) := by show _ = _; omega
 have z5 : Hid (q.keyn ≤ 1) := by show _ ≤ _; rw [hkl.out]; exact b5
 replace hal := hi_ hal
 replace he := hi_ he
 replace hv := hi_ hv
 clear b0 b1 b2 b3 b4 b5
 go_enter Tryz.func91, Tryz.ntmps91
 go_upto_region 2 with (first | (rw [← hW1.out]) | (rw [← hW2.out]) | (rw [← hp1.out]) | (rw [← hp3.out]) | (rw [← hW3.out]) | (refine st_arm hst.out rfl _ _ rfl rfl rfl ?_))
 have u2 : (v.n != 0) = false := by simp [z0.out]
 have u3 : v.site.toList = [] := by rw [size_nil]; exact z3.out
 have u3' : (v.site.toList != []) = false := by rw [bne, size_beq]; simp [z3.out]
 have u4 : q.actsn = 0 := z4.out
 have u5 : ¬ (1 : Int) < (q.keyn : Int) := by have := z5.out; omega
 go_wp2_with fail
 refine wp_region_low_last 5 rfl rfl (by kernel_rfl) (by kernel_rfl) (by kernel_rfl) ?_
 simp only [List.take_succ_cons, List.take_zero]
 clear u2 u3 u3' u4 u5 x1 x6 x7 x8 x9
 repeat (go_big_quiet_step (fail))
 refine wpQuiet_nil ?_
 rintro _ ⟨d, rfl⟩ K hKK
 go_simp
 go_at_call 27
 refine (c1d.out d).mono ?_
 first | rintro e w5 rfl h5 | rintro e w5 ⟨rfl, h5⟩
 refine hKK.out _ _ ?_
 clear hKK K y11 y6 yw
 obtain ⟨-, -, -, -, -, -, -, x7, -⟩ := c10_ (h5.box M0_)
 have x11 := c1_ (h5.box M1_)
 go_upto_if 49 with fail
 go_cut [] (fun wx => PK w0 B b T2 (L2_ p3 p1 b (O24_ v q) bx) wx)
 case first =>
  by_cases hk0 : q.keyn = 0
  ·have k9 : v.key.length = 0 := by rw [← hkl.out]; exact hk0
   have f2' := f2.out
   rw [if_pos k9] at f2'
   have c2' := hi_ (c2.out f2' w5 h5)
   have y : ((q.keyn : Int) == 0) = true := by simp [hk0]
   replace k9 := hi_ k9
   replace h5 := hi_ h5
   clear f2' hk0
   go_wp2_with (go_at_call 27; refine c2'.out.mono ?_)
   first | rintro e w6 rfl h6 | rintro e w6 ⟨rfl, h6⟩
   replace h6 := hi_ h6
   go_wp2_with fail
   go_meet
   rw [hT2.out, if_pos k9.out]
   exact h6.out
  ·have k9 : Hid (¬ v.key.length = 0) := by show ¬ _; rw [← hkl.out]; exact hk0
   have y : ((q.keyn : Int) == 0) = false := by simp [hk0]
   replace h5 := hi_ h5
   clear hk0
   go_wp2_with fail
   go_meet
   rw [hT2.out, if_neg k9.out]
   exact h5.out
 case rest =>
  clear x7 x11
  replace h5 := hi_ h5
  obtain ⟨-, -, -, -, -, -, -, x7, -⟩ := c10_ (hcut.box M0_)
  have x11 := c1_ (hcut.box M1_)
  replace hcut := hi_ hcut
  go_wp2_with (go_at_call 84; refine (c3.out wc hcut.out).mono ?_)
  first | rintro e w7 rfl h7 | rintro e w7 ⟨rfl, h7⟩
  clear x7 x11
  have h7 : PK w0 B b (PS.keyF v (pExs v.key) (t.put w3_)) (L2_ p3 p1 b (O24_ v q) bx) w7 := by
   have h7' := h7
   rw [hT2.out] at h7'
   exact h7'
  obtain ⟨-, -, x2, -, -, -, x6, -⟩ := c10_ (h7.box M0_)
  have x11 := c1_ (h7.box M1_)
  replace h7 := hi_ h7
  go_wp2_with (go_at_call 28; refine (c4.out w7 h7.out).mono ?_)
  first | rintro e w8 rfl h8 | rintro e w8 ⟨rfl, h8⟩
  clear x6 x2 x11
  obtain ⟨-, -, -, -, -, -, x6, -⟩ := c10_ (h8.box M0_)
  have x11 := c1_ (h8.box M1_)
  replace h8 := hi_ h8
  go_wp2_with (go_at_call 25; refine (c6.out w8 h8.out).mono ?_)
  first | rintro e wb rfl hb | rintro e wb ⟨rfl, hb⟩
  clear x6 x11
  obtain ⟨-, -, -, x3, -⟩ := c10_ (hb.box M0_)
  have x11 := c1_ (hb.box M1_)
  replace hb := hi_ hb
  go_wp2_with (go_at_call 84; refine (c9.out wb hb.out).mono ?_)
  first | rintro e wc9 rfl hc | rintro e wc9 ⟨rfl, hc⟩
  replace hc := hi_ hc.drop.drop
  go_wp2_with fail
  exact bodyPost_end (v := .tuple #[]) (results_none (by kernel_rfl) _ _ _) rfl ⟨rfl, hc.out⟩
theorem elem3_P (w0 : World) (B b : Nat) (v : Ex) (q : QEx) (t : PS) (he : v.elem = 3) (hB : PS.elemBad v = false) (hv : ExAt w0 B v q) (hA : ExsP w0 B b v.args) (_hV : ExsP w0 B b v.vals) (hK : ExsP w0 B b v.key) (hP : PairsP w0 B b v) : DoesP w0 B b 91 #[.pointer (some ⟨b, 0, none⟩), .agg (A0_ v q)] t (PS.elem v (pExs v.args) (pExs v.vals) (pExs v.key) (pPairs v.vals v.names) t) := by
 unfold A0_
 intro bx w h hF
 have hs := hv.s
 have hok9 := hi_ hv.ok
 have hEq : PS.elem v (pExs v.args) (pExs v.vals) (pExs v.key) (pPairs v.vals v.names) t = (pExs v.args (PS.round (PS.pairsF v (pPairs v.vals v.names)) ((PS.keyF v (pExs v.key) (t.put w4_)).plain v.s))) := by
  unfold PS.elem
  rw [if_neg (by rw [hB]; decide)]
  unfold PS.elemP PS.nameF
  rw [if_pos (by omega), if_neg (by omega), he]; rfl
 rw [hEq] at hF ⊢
 clear hEq
 have f6 : FitP (PS.round (PS.pairsF v (pPairs v.vals v.names)) ((PS.keyF v (pExs v.key) (t.put w4_)).plain v.s)) := FitP.exs hv.args hF
 have f4 : FitP ((PS.keyF v (pExs v.key) (t.put w4_)).plain v.s) := f6.of ((PS.Le.refl _).round (f := (PS.pairsF v (pPairs v.vals v.names))) (fun u => pairsF_le hv u))
 have f3 : FitP (PS.keyF v (pExs v.key) (t.put w4_)) := f4.plain
 have f2 : FitP (if v.key.length = 0 then (t.put w4_).put [45] else (t.put w4_)) := FitP.exs hv.key f3
 have f1 : FitP (t.put w4_) := by
  split at f2
  ·exact f2.put
  ·exact f2
 obtain ⟨p1, hp1⟩ : ∃ p, p = w.heap.size := ⟨_, rfl⟩
 obtain ⟨S1, hS1⟩ : ∃ S, S = w.alloc ((PB_ 35 b)) := ⟨_, rfl⟩
 have k1 : PK w0 B b t ((p1, (PB_ 35 b)) :: bx) S1 := by rw [hS1, hp1]; exact h.alloc _
 obtain ⟨p3, hp3⟩ : ∃ p, p = S1.heap.size := ⟨_, rfl⟩
 obtain ⟨S2, hS2⟩ : ∃ S, S = S1.alloc ((O0_ v q)) := ⟨_, rfl⟩
 have k2 : PK w0 B b t (L2_ p3 p1 b (O0_ v q) bx) S2 := by rw [hS2, hp3]; exact k1.alloc _
 have hW1 : Hid (S1 = _) := hS1
 have hW2 : Hid (S2 = _) := hS2
 replace hp1 := hi_ hp1
 replace hp3 := hi_ hp3
 replace h := hi_ h
 replace k1 := hi_ k1
 clear hS1 hS2
 have c1 := hi_ (fun W hW => put_P w0 B b t w4_ (L2_ p3 p1 b (O25_ v q) bx) W hW f1)
 have c2 := hi_ (fun (f : FitP ((t.put w4_).put [45])) W hW => put_P w0 B b (t.put w4_) [45] (L2_ p3 p1 b (O25_ v q) bx) W hW f)
 obtain ⟨T2, hT2⟩ : ∃ T, T = (if v.key.length = 0 then (t.put w4_).put [45] else (t.put w4_)) := ⟨_, rfl⟩
 have f3' : FitP (pExs v.key T2) := by rw [hT2]; exact f3
 have c3 := hi_ (fun W hW => hK _ _ q.keyc T2 hv.key (L2_ p3 p1 b (O25_ v q) bx) W hW f3')
 replace hT2 := hi_ hT2
 clear f3'
 have c4 := hi_ (fun W hW => plain_P w0 B b (PS.keyF v (pExs v.key) (t.put w4_)) v.s hs (L2_ p3 p1 b (O25_ v q) bx) W hW f4)
 have c6 := hi_ (fun W hW => round_P w0 B b 126 #[.pointer (some ⟨p1, 0, none⟩), .pointer (some ⟨p3, 0, none⟩)] ((PS.keyF v (pExs v.key) (t.put w4_)).plain v.s) (PS.pairsF v (pPairs v.vals v.names)) (L2_ p3 p1 b (O25_ v q) bx) W (enters_of Tryz.func126 (by kernel_rfl) rfl) (pairsF_le hv _).lo
  (fun W hW => elem1c_P w0 B b v q _ p1 p3 (L2_ p3 p1 b (O25_ v q) bx) W hv (by simp only [O0_, O25_, A0_, A27_, he]) hP M1_ M0_ hW (Nat.le_trans (Nat.le_succ _) f6.round)) hW f6)
 have c9 := hi_ (fun W hW => hA _ _ q.argsc (PS.round (PS.pairsF v (pPairs v.vals v.names)) ((PS.keyF v (pExs v.key) (t.put w4_)).plain v.s)) hv.args (L2_ p3 p1 b (O25_ v q) bx) W hW hF)
 have hv' := hi_ hv
 have hkl := hi_ hv.lens.key
 have hal := hv.lens.acts
 obtain ⟨b0, b1, b2, b3, b4, b5⟩ := elemBad_not hB
 replace f2 := hi_ f2
 have f6' := hi_ f6
 clear hF hB f1 f3 f4 f6 hs
 have hOBX : Hid (((O0_ v q) : Obj) = (O25_ v q)) := by show _ = _; simp only [O0_, O25_, A0_, A27_, he]
 obtain ⟨S3, hS3⟩ : ∃ S, S = S2.alloc (.cells A23_ 165) := ⟨_, rfl⟩
 rw [hOBX.out] at k2
 have k3 : PK w0 B b t ((S2.heap.size, O22_) :: (L2_ p3 p1 b (O25_ v q) bx)) S3 := by rw [hS3]; exact k2.alloc _
 have hst := row_store (k3.box M0_) (cs := A24_) sizeW_info rfl (by simp [Value.oneCell', A24_])
 have k4 := k3.row A24_
 obtain ⟨S4, hS4⟩ : ∃ S, S = S3.setRow S2.heap.size A24_ := ⟨_, rfl⟩
 rw [← hS4] at k4 hst
 have hW3 : Hid (S3 = _) := hS3
 replace hst := hi_ hst
 replace k2 := hi_ k2
 replace k3 := hi_ k3
 clear hS3 hS4
 have x11 := c1_ (k4.box M2_)
 obtain ⟨-, x1, -, -, -, -, x6, x7, x8, x9⟩ := c10_ (k4.box M1_)
 have xw : S4.cell? ⟨S2.heap.size, 3, none⟩ = some (.string (bs w4_)) := by
  have := k4.box M0_
  simp [World.cell?, this]; rfl
 have hk5 := k4.drop
 have y11 : ∀ d : LowW S4, d.w.cell? ⟨p1, 0, none⟩ = some (.pointer (some ⟨b, 0, none⟩)) := fun d => (d.cell (hk5.boxlt M1_).1).trans x11
 have y6 : ∀ d : LowW S4, d.w.cell? ⟨p3, 6, none⟩ = some (.int .u8 3) := fun d => (d.cell (hk5.boxlt M0_).1).trans x6
 have yw : ∀ d : LowW S4, d.w.cell? ⟨S2.heap.size, 3, none⟩ = some (.string (bs w4_)) := fun d => (d.cell (k4.boxlt M0_).1).trans xw
 have c1d := hi_ (fun d : LowW S4 => c1.out d.w (hk5.below d.low))
 have hsz4 := hk5.size
 replace hk5 := hi_ hk5
 replace k4 := hi_ k4
 clear xw x11
 have z0 : Hid (v.n = 0) := b2
 have z3 : Hid (v.site.size = 0) := b3
 have z4 : Hid (q.actsn = 0) := by show _ = _; omega
 have z5 : Hid (q.keyn ≤ 1) := by show _ ≤ _; rw [hkl.out]; exact b5
 replace hal := hi_ hal
 replace he := hi_ he
 replace hv := hi_ hv
 clear b0 b1 b2 b3 b4 b5
 go_enter Tryz.func91, Tryz.ntmps91
 go_upto_region 2 with (first | (rw [← hW1.out]) | (rw [← hW2.out]) | (rw [← hp1.out]) | (rw [← hp3.out]) | (rw [← hW3.out]) | (refine st_arm hst.out rfl _ _ rfl rfl rfl ?_))
 have u2 : (v.n != 0) = false := by simp [z0.out]
 have u3 : v.site.toList = [] := by rw [size_nil]; exact z3.out
 have u3' : (v.site.toList != []) = false := by rw [bne, size_beq]; simp [z3.out]
 have u4 : q.actsn = 0 := z4.out
 have u5 : ¬ (1 : Int) < (q.keyn : Int) := by have := z5.out; omega
 go_wp2_with fail
 refine wp_region_low_last 5 rfl rfl (by kernel_rfl) (by kernel_rfl) (by kernel_rfl) ?_
 simp only [List.take_succ_cons, List.take_zero]
 clear u2 u3 u3' u4 u5 x1 x6 x7 x8 x9
 repeat (go_big_quiet_step (fail))
 refine wpQuiet_nil ?_
 rintro _ ⟨d, rfl⟩ K hKK
 go_simp
 go_at_call 27
 refine (c1d.out d).mono ?_
 first | rintro e w5 rfl h5 | rintro e w5 ⟨rfl, h5⟩
 refine hKK.out _ _ ?_
 clear hKK K y11 y6 yw
 obtain ⟨-, -, -, -, -, -, -, x7, -⟩ := c10_ (h5.box M0_)
 have x11 := c1_ (h5.box M1_)
 go_upto_if 49 with fail
 go_cut [] (fun wx => PK w0 B b T2 (L2_ p3 p1 b (O25_ v q) bx) wx)
 case first =>
  by_cases hk0 : q.keyn = 0
  ·have k9 : v.key.length = 0 := by rw [← hkl.out]; exact hk0
   have f2' := f2.out
   rw [if_pos k9] at f2'
   have c2' := hi_ (c2.out f2' w5 h5)
   have y : ((q.keyn : Int) == 0) = true := by simp [hk0]
   replace k9 := hi_ k9
   replace h5 := hi_ h5
   clear f2' hk0
   go_wp2_with (go_at_call 27; refine c2'.out.mono ?_)
   first | rintro e w6 rfl h6 | rintro e w6 ⟨rfl, h6⟩
   replace h6 := hi_ h6
   go_wp2_with fail
   go_meet
   rw [hT2.out, if_pos k9.out]
   exact h6.out
  ·have k9 : Hid (¬ v.key.length = 0) := by show ¬ _; rw [← hkl.out]; exact hk0
   have y : ((q.keyn : Int) == 0) = false := by simp [hk0]
   replace h5 := hi_ h5
   clear hk0
   go_wp2_with fail
   go_meet
   rw [hT2.out, if_neg k9.out]
   exact h5.out
 case rest =>
  clear x7 x11
  replace h5 := hi_ h5
  obtain ⟨-, -, -, -, -, -, -, x7, -⟩ := c10_ (hcut.box M0_)
  have x11 := c1_ (hcut.box M1_)
  replace hcut := hi_ hcut
  go_wp2_with (go_at_call 84; refine (c3.out wc hcut.out).mono ?_)
  first | rintro e w7 rfl h7 | rintro e w7 ⟨rfl, h7⟩
  clear x7 x11
  have h7 : PK w0 B b (PS.keyF v (pExs v.key) (t.put w4_)) (L2_ p3 p1 b (O25_ v q) bx) w7 := by
   have h7' := h7
   rw [hT2.out] at h7'
   exact h7'
  obtain ⟨-, -, x2, -, -, -, x6, -⟩ := c10_ (h7.box M0_)
  have x11 := c1_ (h7.box M1_)
  replace h7 := hi_ h7
  go_wp2_with (go_at_call 28; refine (c4.out w7 h7.out).mono ?_)
  first | rintro e w8 rfl h8 | rintro e w8 ⟨rfl, h8⟩
  clear x6 x2 x11
  obtain ⟨-, -, -, -, -, -, x6, -⟩ := c10_ (h8.box M0_)
  have x11 := c1_ (h8.box M1_)
  replace h8 := hi_ h8
  go_wp2_with (go_at_call 25; refine (c6.out w8 h8.out).mono ?_)
  first | rintro e wb rfl hb | rintro e wb ⟨rfl, hb⟩
  clear x6 x11
  obtain ⟨-, -, -, x3, -⟩ := c10_ (hb.box M0_)
  have x11 := c1_ (hb.box M1_)
  replace hb := hi_ hb
  go_wp2_with (go_at_call 84; refine (c9.out wb hb.out).mono ?_)
  first | rintro e wc9 rfl hc | rintro e wc9 ⟨rfl, hc⟩
  replace hc := hi_ hc.drop.drop
  go_wp2_with fail
  exact bodyPost_end (v := .tuple #[]) (results_none (by kernel_rfl) _ _ _) rfl ⟨rfl, hc.out⟩
end Go.Proofs.YtlppklbmdedipaaGreatDoor
