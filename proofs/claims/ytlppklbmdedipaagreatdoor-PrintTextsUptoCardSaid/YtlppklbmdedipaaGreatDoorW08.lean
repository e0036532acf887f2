/- PrintTexts, part 8. -/
import Derived.Test.YtlppklbmdedipaaGreatDoorW02
import Derived.Test.YtlppklbmdedipaaGreatDoorW07
import Derived.Test.YtlppklbmdedipaaGreatDoorProg
import Derived.Test.YtlppklbmdedipaaGreatDoorW03
import Derived.Test.YtlppklbmdedipaaGreatDoorShelf
import Derived.WalkKit
import Derived.WalkSpells
import Derived.WalkLawsBesides
import Derived.BigQuiet
import Derived.Deep.QuietTactic
import Derived.Deep.LoopGhost
import Derived.Lib.Hide
import Derived.Shelf.Abstract
import Derived.Lib.OthersKept
import Derived.Lib.AppendStr
import Derived.Laws.Externs
namespace Go.Proofs.YtlppklbmdedipaaGreatDoor
open Go Go.RowKit
set_option maxHeartbeats 8000000
set_option maxRecDepth 100000
theorem Own.lst_inv {w : World} {base : Nat} {m : Mode} {mk : Nat → List Value} {E K : Nat} {es : List T} {a : Option Addr} {n c : Nat} {R : List Row} (h : Own w base m mk (.lst E K es) [.slice a n c] R) (hm : m.sh = none := by rfl) :
  n = es.length ∧ n ≤ 1152921504606846976 ∧ ∃ (xs : List Value) (cc : Nat → List Value) (RR : Nat → List Row), w.ownsRow base E K (.slice a n c) n xs ∧ (∀ i, i < n → (cc i).length = K ∧ ∀ j, j < K → xs[i * K + j]? = (cc i)[j]?) ∧
   (∀ (i : Nat) (h : i < es.length), Own w base m mk es[i] (cc i) (RR i)) ∧ (m.sp = true → Behind w mk E K n (.slice a n c)) ∧ R = ((List.range n).flatMap RR) ++ [⟨E, K, .slice a n c, n⟩] := by
 cases h with
 | lst _ _ v _ xs cc RR hn ho hc he hs =>
  have hnl : n = es.length := by
   rcases ho.2 with ⟨h0, h1⟩ | ⟨g, cap, cur, h0, _⟩
   ·injection h0 with _ h2 _; omega
   ·injection h0
  subst hnl
  exact ⟨rfl, hn, xs, cc, RR, ho, hc, he, hs, rfl⟩
 | old _ _ lo hlo h1 h => rw [hm] at h1; cases h1
theorem Own.ex_head {w : World} {base : Nat} {m : Mode} {mk : Nat → List Value} {v : Ex} {q : QEx} {ps : List T} {cs : List Value} {R : List Row} (h : Own w base m mk (.obj (v.tr :: ps)) (q.cells v ++ cs) R) :
  ∃ R1 R2, R = R1 ++ R2 ∧ Own w base m mk v.tr (q.cells v) R1 ∧ Own w base m mk (.obj ps) cs R2 := by
 obtain ⟨c1, c2, R1, R2, e, e2, h1, h2⟩ := h.cons_inv
 obtain ⟨q', hq', _⟩ := h1.at.toEx
 have hl : (q.cells v).length = c1.length := by rw [hq']; rfl
 obtain ⟨e3, e4⟩ := List.append_inj e hl
 subst e3 e4
 exact ⟨R1, R2, e2, h1, h2⟩
theorem Own.invEx {w : World} {base : Nat} {m : Mode} {mk : Nat → List Value} {v : Ex} {q : QEx} {R : List Row} (h : Own w base m mk v.tr (q.cells v) R) :
  ∃ R3 R4 R5 R7 R8 : List Row, Own w base m mk (.lst 50 10 (v.args.map Ex.tr)) [.slice q.argsa q.argsn q.argsc] R3 ∧ Own w base m mk (.lst 9 1 (v.names.map T.txt)) [.slice q.namesa q.namesn q.namesc] R4 ∧ Own w base m mk (.lst 50 10 (v.vals.map Ex.tr)) [.slice q.valsa q.valsn q.valsc] R5 ∧ Own w base m mk (.lst 50 10 (v.key.map Ex.tr)) [.slice q.keya q.keyn q.keyc] R7 ∧ Own w base m mk (.lst 101 12 (v.acts.map Ac.tr)) [.slice q.actsa q.actsn q.actsc] R8 := by
 rw [Ex.tr_eq] at h
 replace h : Own w base m mk _ (.int .u8 v.kind :: .int .i64 v.n :: .string v.s :: .slice q.argsa q.argsn q.argsc :: .slice q.namesa q.namesn q.namesc :: .slice q.valsa q.valsn q.valsc :: .int .u8 v.elem :: .slice q.keya q.keyn q.keyc :: .slice q.actsa q.actsn q.actsc :: .string v.site :: []) R := h
 obtain ⟨S0, _, rfl, a0, h⟩ := h.head_inv rfl
 obtain ⟨S1, _, rfl, a1, h⟩ := h.head_inv rfl
 obtain ⟨S2, _, rfl, a2, h⟩ := h.head_inv rfl
 obtain ⟨S3, _, rfl, a3, h⟩ := h.head_inv rfl
 obtain ⟨S4, _, rfl, a4, h⟩ := h.head_inv rfl
 obtain ⟨S5, _, rfl, a5, h⟩ := h.head_inv rfl
 obtain ⟨S6, _, rfl, a6, h⟩ := h.head_inv rfl
 obtain ⟨S7, _, rfl, a7, h⟩ := h.head_inv rfl
 obtain ⟨S8, _, rfl, a8, h⟩ := h.head_inv rfl
 obtain ⟨S9, _, rfl, a9, h⟩ := h.head_inv rfl
 exact ⟨S3, S4, S5, S7, S8, a3, a4, a5, a7, a8⟩
theorem Own.invAc {w : World} {base : Nat} {m : Mode} {mk : Nat → List Value} {v : Ac} {q : QAc} {R : List Row} (h : Own w base m mk v.tr (q.cells v) R) :
  ∃ R2 : List Row, Own w base m mk v.expr.tr (q.expr.cells v.expr) R2 := by
 rw [Ac.tr_eq] at h
 replace h : Own w base m mk _ (.int .u8 v.kind :: .string v.name :: (q.expr.cells v.expr ++ ([]))) R := h
 obtain ⟨S0, _, rfl, a0, h⟩ := h.head_inv rfl
 obtain ⟨S1, _, rfl, a1, h⟩ := h.head_inv rfl
 obtain ⟨S2, _, rfl, a2, h⟩ := h.ex_head
 exact ⟨S2, a2⟩
theorem Own.invSt {w : World} {base : Nat} {m : Mode} {mk : Nat → List Value} {v : St} {q : QSt} {R : List Row} (h : Own w base m mk v.tr (q.cells v) R) :
  ∃ R3 R4 R5 R6 R7 : List Row, Own w base m mk v.expr.tr (q.expr.cells v.expr) R3 ∧ Own w base m mk (.lst 50 10 (v.deps.map Ex.tr)) [.slice q.depsa q.depsn q.depsc] R4 ∧ Own w base m mk (.lst 101 12 (v.dos.map Ac.tr)) [.slice q.dosa q.dosn q.dosc] R5 ∧ Own w base m mk (.lst 101 12 (v.undo.map Ac.tr)) [.slice q.undoa q.undon q.undoc] R6 ∧ Own w base m mk (.lst 63 17 (v.body.map St.tr)) [.slice q.bodya q.bodyn q.bodyc] R7 := by
 rw [St.tr_eq] at h
 replace h : Own w base m mk _ (.int .u8 v.kind :: .string v.name :: .string v.ctx :: (q.expr.cells v.expr ++ (.slice q.depsa q.depsn q.depsc :: .slice q.dosa q.dosn q.dosc :: .slice q.undoa q.undon q.undoc :: .slice q.bodya q.bodyn q.bodyc :: []))) R := h
 obtain ⟨S0, _, rfl, a0, h⟩ := h.head_inv rfl
 obtain ⟨S1, _, rfl, a1, h⟩ := h.head_inv rfl
 obtain ⟨S2, _, rfl, a2, h⟩ := h.head_inv rfl
 obtain ⟨S3, _, rfl, a3, h⟩ := h.ex_head
 obtain ⟨S4, _, rfl, a4, h⟩ := h.head_inv rfl
 obtain ⟨S5, _, rfl, a5, h⟩ := h.head_inv rfl
 obtain ⟨S6, _, rfl, a6, h⟩ := h.head_inv rfl
 obtain ⟨S7, _, rfl, a7, h⟩ := h.head_inv rfl
 exact ⟨S3, S4, S5, S6, S7, a3, a4, a5, a6, a7⟩
theorem Own.invCo {w : World} {base : Nat} {m : Mode} {mk : Nat → List Value} {v : Co} {q : QCo} {R : List Row} (h : Own w base m mk v.tr (q.cells v) R) :
  ∃ R2 R3 : List Row, Own w base m mk (.lst 63 17 (v.body.map St.tr)) [.slice q.bodya q.bodyn q.bodyc] R2 ∧ Own w base m mk v.out.tr (q.out.cells v.out) R3 := by
 rw [Co.tr_eq] at h
 replace h : Own w base m mk _ (.string v.name :: .string v.param :: .slice q.bodya q.bodyn q.bodyc :: (q.out.cells v.out ++ ([]))) R := h
 obtain ⟨S0, _, rfl, a0, h⟩ := h.head_inv rfl
 obtain ⟨S1, _, rfl, a1, h⟩ := h.head_inv rfl
 obtain ⟨S2, _, rfl, a2, h⟩ := h.head_inv rfl
 obtain ⟨S3, _, rfl, a3, h⟩ := h.ex_head
 exact ⟨S2, S3, a2, a3⟩
def LeftEx (v : Ex) : Prop := ∀ (q1 q2 : QEx) (base : Nat) (R : List Row) (w : World), Own w base twinM mkS v.tr (q1.cells v) R → ExAt w w.heap.size v q2 →
 Calls Tryz.prog 71 #[.agg #[.int .u8 v.kind, .int .i64 v.n, .string v.s, .slice q1.argsa q1.argsn q1.argsc, .slice q1.namesa q1.namesn q1.namesc, .slice q1.valsa q1.valsn q1.valsc, .int .u8 v.elem, .slice q1.keya q1.keyn q1.keyc, .slice q1.actsa q1.actsn q1.actsc, .string v.site], .agg #[.int .u8 v.kind, .int .i64 v.n, .string v.s, .slice q2.argsa q2.argsn q2.argsc, .slice q2.namesa q2.namesn q2.namesc, .slice q2.valsa q2.valsn q2.valsc, .int .u8 v.elem, .slice q2.keya q2.keyn q2.keyc, .slice q2.actsa q2.actsn q2.actsc, .string v.site]] w fun e w' => e = .returned (.bool true) ∧ Below w.heap.size w w'
theorem ownEx_elem {w : World} {base n : Nat} {m : Mode} {mk : Nat → List Value} {L : List Ex} {g c : Nat} {R : List Row} (h : Own w base m mk (.lst 50 10 (L.map Ex.tr)) [.slice (some ⟨g, 0, none⟩) n c] R) (i : Nat) (hi : i < n) (hm : m.sh = none := by rfl) :
  ∃ (v : Ex) (q : QEx) (R' : List Row), L[i]? = some v ∧ (∀ j, j < 10 → w.cell? ⟨g, i * 10 + j, none⟩ = (q.cells v)[j]?) ∧ Own w base m mk v.tr (q.cells v) R' := by
 obtain ⟨h1, _, xs, cc, RR, ho, hc, he, _, _⟩ := h.lst_inv hm
 rw [List.length_map] at h1
 have hlt : i < L.length := by omega
 have h2 := he i (by rw [List.length_map]; exact hlt)
 rw [List.getElem_map] at h2
 obtain ⟨q, hq, _⟩ := h2.at.toEx
 refine ⟨L[i], q, RR i, List.getElem?_eq_getElem hlt, fun j hj => ?_, by rw [← hq]; exact h2⟩
 rw [← hq, ho.cellAt (i * 10 + j) (by omega)]
 exact (hc i hi).2 j hj
def LeftAc (v : Ac) : Prop := ∀ (q1 q2 : QAc) (base : Nat) (R : List Row) (w : World), Own w base twinM mkS v.tr (q1.cells v) R → AcAt w w.heap.size v q2 →
 Calls Tryz.prog 131 #[.agg #[.int .u8 v.kind, .string v.name, .int .u8 v.expr.kind, .int .i64 v.expr.n, .string v.expr.s, .slice q1.expr.argsa q1.expr.argsn q1.expr.argsc, .slice q1.expr.namesa q1.expr.namesn q1.expr.namesc, .slice q1.expr.valsa q1.expr.valsn q1.expr.valsc, .int .u8 v.expr.elem, .slice q1.expr.keya q1.expr.keyn q1.expr.keyc, .slice q1.expr.actsa q1.expr.actsn q1.expr.actsc, .string v.expr.site], .agg #[.int .u8 v.kind, .string v.name, .int .u8 v.expr.kind, .int .i64 v.expr.n, .string v.expr.s, .slice q2.expr.argsa q2.expr.argsn q2.expr.argsc, .slice q2.expr.namesa q2.expr.namesn q2.expr.namesc, .slice q2.expr.valsa q2.expr.valsn q2.expr.valsc, .int .u8 v.expr.elem, .slice q2.expr.keya q2.expr.keyn q2.expr.keyc, .slice q2.expr.actsa q2.expr.actsn q2.expr.actsc, .string v.expr.site]] w fun e w' => e = .returned (.bool true) ∧ Below w.heap.size w w'
theorem ownAc_elem {w : World} {base n : Nat} {m : Mode} {mk : Nat → List Value} {L : List Ac} {g c : Nat} {R : List Row} (h : Own w base m mk (.lst 101 12 (L.map Ac.tr)) [.slice (some ⟨g, 0, none⟩) n c] R) (i : Nat) (hi : i < n) (hm : m.sh = none := by rfl) :
  ∃ (v : Ac) (q : QAc) (R' : List Row), L[i]? = some v ∧ (∀ j, j < 12 → w.cell? ⟨g, i * 12 + j, none⟩ = (q.cells v)[j]?) ∧ Own w base m mk v.tr (q.cells v) R' := by
 obtain ⟨h1, _, xs, cc, RR, ho, hc, he, _, _⟩ := h.lst_inv hm
 rw [List.length_map] at h1
 have hlt : i < L.length := by omega
 have h2 := he i (by rw [List.length_map]; exact hlt)
 rw [List.getElem_map] at h2
 obtain ⟨q, hq, _⟩ := h2.at.toAc
 refine ⟨L[i], q, RR i, List.getElem?_eq_getElem hlt, fun j hj => ?_, by rw [← hq]; exact h2⟩
 rw [← hq, ho.cellAt (i * 12 + j) (by omega)]
 exact (hc i hi).2 j hj
def LeftSt (v : St) : Prop := ∀ (q1 q2 : QSt) (base : Nat) (R : List Row) (w : World), Own w base twinM mkS v.tr (q1.cells v) R → StAt w w.heap.size v q2 →
 Calls Tryz.prog 99 #[.agg #[.int .u8 v.kind, .string v.name, .string v.ctx, .int .u8 v.expr.kind, .int .i64 v.expr.n, .string v.expr.s, .slice q1.expr.argsa q1.expr.argsn q1.expr.argsc, .slice q1.expr.namesa q1.expr.namesn q1.expr.namesc, .slice q1.expr.valsa q1.expr.valsn q1.expr.valsc, .int .u8 v.expr.elem, .slice q1.expr.keya q1.expr.keyn q1.expr.keyc, .slice q1.expr.actsa q1.expr.actsn q1.expr.actsc, .string v.expr.site, .slice q1.depsa q1.depsn q1.depsc, .slice q1.dosa q1.dosn q1.dosc, .slice q1.undoa q1.undon q1.undoc, .slice q1.bodya q1.bodyn q1.bodyc], .agg #[.int .u8 v.kind, .string v.name, .string v.ctx, .int .u8 v.expr.kind, .int .i64 v.expr.n, .string v.expr.s, .slice q2.expr.argsa q2.expr.argsn q2.expr.argsc, .slice q2.expr.namesa q2.expr.namesn q2.expr.namesc, .slice q2.expr.valsa q2.expr.valsn q2.expr.valsc, .int .u8 v.expr.elem, .slice q2.expr.keya q2.expr.keyn q2.expr.keyc, .slice q2.expr.actsa q2.expr.actsn q2.expr.actsc, .string v.expr.site, .slice q2.depsa q2.depsn q2.depsc, .slice q2.dosa q2.dosn q2.dosc, .slice q2.undoa q2.undon q2.undoc, .slice q2.bodya q2.bodyn q2.bodyc]] w fun e w' => e = .returned (.bool true) ∧ Below w.heap.size w w'
theorem ownSt_elem {w : World} {base n : Nat} {m : Mode} {mk : Nat → List Value} {L : List St} {g c : Nat} {R : List Row} (h : Own w base m mk (.lst 63 17 (L.map St.tr)) [.slice (some ⟨g, 0, none⟩) n c] R) (i : Nat) (hi : i < n) (hm : m.sh = none := by rfl) :
  ∃ (v : St) (q : QSt) (R' : List Row), L[i]? = some v ∧ (∀ j, j < 17 → w.cell? ⟨g, i * 17 + j, none⟩ = (q.cells v)[j]?) ∧ Own w base m mk v.tr (q.cells v) R' := by
 obtain ⟨h1, _, xs, cc, RR, ho, hc, he, _, _⟩ := h.lst_inv hm
 rw [List.length_map] at h1
 have hlt : i < L.length := by omega
 have h2 := he i (by rw [List.length_map]; exact hlt)
 rw [List.getElem_map] at h2
 obtain ⟨q, hq, _⟩ := h2.at.toSt
 refine ⟨L[i], q, RR i, List.getElem?_eq_getElem hlt, fun j hj => ?_, by rw [← hq]; exact h2⟩
 rw [← hq, ho.cellAt (i * 17 + j) (by omega)]
 exact (hc i hi).2 j hj
def LeftCo (v : Co) : Prop := ∀ (q1 q2 : QCo) (base : Nat) (R : List Row) (w : World), Own w base twinM mkS v.tr (q1.cells v) R → CoAt w w.heap.size v q2 →
 Calls Tryz.prog 44 #[.agg #[.string v.name, .string v.param, .slice q1.bodya q1.bodyn q1.bodyc, .int .u8 v.out.kind, .int .i64 v.out.n, .string v.out.s, .slice q1.out.argsa q1.out.argsn q1.out.argsc, .slice q1.out.namesa q1.out.namesn q1.out.namesc, .slice q1.out.valsa q1.out.valsn q1.out.valsc, .int .u8 v.out.elem, .slice q1.out.keya q1.out.keyn q1.out.keyc, .slice q1.out.actsa q1.out.actsn q1.out.actsc, .string v.out.site], .agg #[.string v.name, .string v.param, .slice q2.bodya q2.bodyn q2.bodyc, .int .u8 v.out.kind, .int .i64 v.out.n, .string v.out.s, .slice q2.out.argsa q2.out.argsn q2.out.argsc, .slice q2.out.namesa q2.out.namesn q2.out.namesc, .slice q2.out.valsa q2.out.valsn q2.out.valsc, .int .u8 v.out.elem, .slice q2.out.keya q2.out.keyn q2.out.keyc, .slice q2.out.actsa q2.out.actsn q2.out.actsc, .string v.out.site]] w fun e w' => e = .returned (.bool true) ∧ Below w.heap.size w w'
theorem ownCo_elem {w : World} {base n : Nat} {m : Mode} {mk : Nat → List Value} {L : List Co} {g c : Nat} {R : List Row} (h : Own w base m mk (.lst 52 13 (L.map Co.tr)) [.slice (some ⟨g, 0, none⟩) n c] R) (i : Nat) (hi : i < n) (hm : m.sh = none := by rfl) :
  ∃ (v : Co) (q : QCo) (R' : List Row), L[i]? = some v ∧ (∀ j, j < 13 → w.cell? ⟨g, i * 13 + j, none⟩ = (q.cells v)[j]?) ∧ Own w base m mk v.tr (q.cells v) R' := by
 obtain ⟨h1, _, xs, cc, RR, ho, hc, he, _, _⟩ := h.lst_inv hm
 rw [List.length_map] at h1
 have hlt : i < L.length := by omega
 have h2 := he i (by rw [List.length_map]; exact hlt)
 rw [List.getElem_map] at h2
 obtain ⟨q, hq, _⟩ := h2.at.toCo
 refine ⟨L[i], q, RR i, List.getElem?_eq_getElem hlt, fun j hj => ?_, by rw [← hq]; exact h2⟩
 rw [← hq, ho.cellAt (i * 13 + j) (by omega)]
 exact (hc i hi).2 j hj
end Go.Proofs.YtlppklbmdedipaaGreatDoor

namespace Go.Proofs.YtlppklbmdedipaaGreatDoor.Lx
open Go Go.RowKit
set_option maxHeartbeats 8000000
set_option maxRecDepth 100000

theorem ret_int {k : IntKind} {a b : Int} (h : a = b) : Ending.returned (.int k a) = .returned (.int k b) := by rw [h]
theorem ret_bool {a b : Bool} (h : a = b) : Ending.returned (.bool a) = .returned (.bool b) := by rw [h]

def Scan (w : World) (b : Nat) (l : List UInt8) (ln : Int) : Prop := w.heap[b]? = some (.cells #[.string (bs l), .int .i64 ln] 125 (0, 0))
theorem Scan.c0 {w : World} {b : Nat} {l : List UInt8} {ln : Int} (h : Scan w b l ln) : w.cell? ⟨b, 0, none⟩ = some (.string (bs l)) := by simp [World.cell?, show w.heap[b]? = _ from h]
theorem Scan.c1 {w : World} {b : Nat} {l : List UInt8} {ln : Int} (h : Scan w b l ln) : w.cell? ⟨b, 1, none⟩ = some (.int .i64 ln) := by simp [World.cell?, show w.heap[b]? = _ from h]
theorem Scan.fr {w : World} {b : Nat} {l : List UInt8} {ln : Int} (h : Scan w b l ln) (j : Nat) : w.frozen? ⟨b, j, none⟩ = false := by simp [World.frozen?, show w.heap[b]? = _ from h]
theorem Scan.lt {w : World} {b : Nat} {l : List UInt8} {ln : Int} (h : Scan w b l ln) : b < w.heap.size := by
 by_cases hb : b < w.heap.size
 ·exact hb
 ·have h' : w.heap[b]? = _ := h
  simp [Array.getElem?_eq_none (Nat.le_of_not_lt hb)] at h'
theorem Scan.set0 {w : World} {b : Nat} {l : List UInt8} {ln : Int} (h : Scan w b l ln) (t : List UInt8) : Scan (w.setCell ⟨b, 0, none⟩ (.string (bs t))) b t ln := by
 have h' : w.heap[b]? = _ := h
 simp [Scan, World.setCell, Array.getElem?_modify, h']
theorem Scan.set1 {w : World} {b : Nat} {l : List UInt8} {ln : Int} (h : Scan w b l ln) (m : Int) : Scan (w.setCell ⟨b, 1, none⟩ (.int .i64 m)) b l m := by
 have h' : w.heap[b]? = _ := h
 simp [Scan, World.setCell, Array.getElem?_modify, h']
theorem Scan.of_block {w w' : World} {b : Nat} {l : List UInt8} {ln : Int} (h : Scan w b l ln) (e : w'.heap[b]? = w.heap[b]?) : Scan w' b l ln := by
 unfold Scan at *; rw [e, h]
theorem Scan.alloc {w : World} {b : Nat} {l : List UInt8} {ln : Int} (h : Scan w b l ln) (o : Obj) : Scan (w.alloc o) b l ln := h.of_block (Below.heap_alloc w o b h.lt)
theorem Scan.far {w : World} {b : Nat} {l : List UInt8} {ln : Int} (h : Scan w b l ln) {p : Addr} (hp : b ≠ p.block) (u : Value) : Scan (w.setCell p u) b l ln := h.of_block (Below.heap_setCell w p u b hp)
theorem Scan.drewN {w : World} {b : Nat} {l : List UInt8} {ln : Int} (h : Scan w b l ln) (n : Nat) : Scan (w.drewN n) b l ln := h
theorem Scan.below {w w' : World} {b : Nat} {l : List UInt8} {ln : Int} (h : Scan w b l ln) {B : Nat} (hb : Below B w w') (hB : b < B) : Scan w' b l ln := h.of_block (hb.block b hB)

structure Touch (S : Nat → Prop) (w w' : World) : Prop where
 os : w'.os = w.os
 tape : w'.tape = w.tape
 output : w'.output = w.output
 size : w.heap.size ≤ w'.heap.size
 block : ∀ k, k < w.heap.size → ¬ S k → w'.heap[k]? = w.heap[k]?
theorem Touch.refl (S : Nat → Prop) (w : World) : Touch S w w := ⟨rfl, rfl, rfl, Nat.le_refl _, fun _ _ _ => rfl⟩
theorem Touch.trans {S : Nat → Prop} {a b c : World} (h : Touch S a b) (k : Touch S b c) : Touch S a c :=
 ⟨k.os.trans h.os, k.tape.trans h.tape, k.output.trans h.output, Nat.le_trans h.size k.size, fun i hi hS => (k.block i (Nat.lt_of_lt_of_le hi h.size) hS).trans (h.block i hi hS)⟩
theorem Touch.alloc {S : Nat → Prop} {a w : World} (h : Touch S a w) (o : Obj) : Touch S a (w.alloc o) :=
 ⟨h.os, h.tape, h.output, by simp; have := h.size; omega, fun i hi hS => (Below.heap_alloc w o i (Nat.lt_of_lt_of_le hi h.size)).trans (h.block i hi hS)⟩
theorem Touch.set {S : Nat → Prop} {a w : World} (h : Touch S a w) {p : Addr} (hp : S p.block) (u : Value) : Touch S a (w.setCell p u) :=
 ⟨h.os, h.tape, h.output, by simpa using h.size, fun i hi hS => (Below.heap_setCell w p u i (fun e => hS (e ▸ hp))).trans (h.block i hi hS)⟩
theorem Touch.setN {S : Nat → Prop} {a w : World} (h : Touch S a w) {p : Addr} (hp : a.heap.size ≤ p.block) (u : Value) : Touch S a (w.setCell p u) :=
 ⟨h.os, h.tape, h.output, by simpa using h.size, fun i hi hS => (Below.heap_setCell w p u i (by omega)).trans (h.block i hi hS)⟩
theorem Touch.drewN {S : Nat → Prop} {a w : World} (h : Touch S a w) (n : Nat) : Touch S a (w.drewN n) := ⟨h.os, h.tape, h.output, h.size, h.block⟩
theorem Touch.below {S : Nat → Prop} {a w w' : World} (h : Touch S a w) {B : Nat} (hb : Below B w w') (hB : ∀ k, k < a.heap.size → ¬ S k → k < B) : Touch S a w' :=
 ⟨hb.os.trans h.os, hb.tape.trans h.tape, hb.output.trans h.output, Nat.le_trans h.size hb.size, fun i hi hS => (hb.block i (hB i hi hS)).trans (h.block i hi hS)⟩
theorem Touch.to_below {S : Nat → Prop} {w w' : World} (h : Touch S w w') {B : Nat} (hB : B ≤ w.heap.size) (hS : ∀ k, k < B → ¬ S k) : Below B w w' :=
 ⟨h.os, h.tape, h.output, h.size, fun i hi => h.block i (Nat.lt_of_lt_of_le hi hB) (hS i hi)⟩
theorem skip2_any (c : UInt8) (w : World) :
  Calls Tryz.prog 109 #[.int .u8 (c.toNat : Int)] w fun e w' => e = .returned (.bool (c != 10)) ∧ w = w' := by
 have h : ((c.toNat : Int) != 10) = (c != 10) := by
  rw [Bool.eq_iff_iff]; simp [bne_iff_ne, ← UInt8.toNat_inj]; omega
 have H := hi_ h; clear h
 go_enter Tryz.func109, Tryz.ntmps109
 go_wp2
 go_ret
 exact ⟨by rw [← H.out]; rfl, rfl⟩

theorem idx7 (c : UInt8) : 0 ≤ Lib.indexByte [45, 95, 58, 46, 35, 33, 63] c ↔ (c.toNat = 45 ∨ c.toNat = 95 ∨ c.toNat = 58 ∨ c.toNat = 46 ∨ c.toNat = 35 ∨ c.toNat = 33 ∨ c.toNat = 63) := by
 have h : ∀ n : Fin 256, (0 ≤ Lib.indexByte [45, 95, 58, 46, 35, 33, 63] (UInt8.ofNat n.val) ↔ (n.val = 45 ∨ n.val = 95 ∨ n.val = 58 ∨ n.val = 46 ∨ n.val = 35 ∨ n.val = 33 ∨ n.val = 63)) := by decide +kernel
 have := h ⟨c.toNat, c.toNat_lt⟩
 simpa using this

theorem of_any (c : UInt8) (w : World) :
  Calls Tryz.prog 107 #[.int .u8 (c.toNat : Int)] w fun e w' => e = .returned (.int .u8 (kindOf c : Int)) ∧ w = w' := by
 have hi := hi_ (idx7 c)
 go_enter Tryz.func107, Tryz.ntmps107
 go_wp2_with (go_at_call 132; refine (Tryz.strings_IndexByte _ _ _).mono ?_; rintro e w' ⟨rfl, rfl⟩)
 all_goals
  go_ret
  refine ⟨ret_int ?_, rfl⟩
  have hi := hi.out
  unfold kindOf
  try simp only [beq_iff_eq, bne_iff_ne, beq_eq_false_iff_ne, bne_eq_false_iff_eq, ne_eq] at *
  repeat' split
  all_goals first | rfl | omega

theorem skip1_any (c : UInt8) (w : World) :
  Calls Tryz.prog 106 #[.int .u8 (c.toNat : Int)] w fun e w' => e = .returned (.bool (idle c)) ∧ w = w' := by
 have h : ((kindOf c : Int) == 1) = idle c := by
  rw [Bool.eq_iff_iff]; simp [idle]; omega
 have H := hi_ h; clear h
 go_enter Tryz.func106, Tryz.ntmps106
 go_wp2_with (go_at_call 107; refine (of_any _ _).mono ?_; rintro e w' ⟨rfl, rfl⟩)
 go_ret
 exact ⟨by rw [← H.out]; rfl, rfl⟩

theorem word1_any (c : UInt8) (w : World) :
  Calls Tryz.prog 111 #[.int .u8 (c.toNat : Int)] w fun e w' => e = .returned (.bool (part c)) ∧ w = w' := by
 have h : decide ((2 : Int) ≤ (kindOf c : Int)) = part c := by
  rw [Bool.eq_iff_iff]; simp [part]; omega
 have H := hi_ h; clear h
 go_enter Tryz.func111, Tryz.ntmps111
 go_wp2_with (go_at_call 107; refine (of_any _ _).mono ?_; rintro e w' ⟨rfl, rfl⟩)
 go_ret
 exact ⟨by rw [← H.out]; rfl, rfl⟩

theorem text1_any (c : UInt8) (w : World) :
  Calls Tryz.prog 134 #[.int .u8 (c.toNat : Int)] w fun e w' => e = .returned (.bool (plainByte c)) ∧ w = w' := by
 have h (n : Int) (k : UInt8) (hk : (k.toNat : Int) = n) : ((c.toNat : Int) != n) = (c != k) := by
  subst hk; rw [Bool.eq_iff_iff]; simp [bne_iff_ne, ← UInt8.toNat_inj]; omega
 have H : Hid ((((c.toNat : Int) != 34) && ((c.toNat : Int) != 92) && ((c.toNat : Int) != 10)) = plainByte c) := by
  have a := h 34 34 rfl; have b := h 92 92 rfl; have d := h 10 10 rfl
  show _ = _; rw [a, b, d]; rfl
 clear h
 go_enter Tryz.func134, Tryz.ntmps134
 go_wp2
 all_goals
  go_ret
  refine ⟨ret_bool ?_, rfl⟩
  rw [← H.out] <;> simp_all

theorem eat_any (g : Nat) (p : UInt8 → Bool) (b : Nat) (l : List UInt8) (ln : Int) (w : World) (hs : l.length ≤ 1000000)
  (eg : ∀ args w, (callFunc g args).run Tryz.prog w = .ok (.enter g args) w)
  (hcl : ∀ (c : UInt8) (W : World), Calls Tryz.prog g #[.int .u8 (c.toNat : Int)] W fun e W' => e = .returned (.bool (p c)) ∧ W = W')
  (hb : Scan w b l ln) :
  Calls Tryz.prog 105 #[.pointer (some ⟨b, 0, none⟩), .func (.func g) #[] #[]] w fun e w' =>
   e = .returned (.string (bs (l.takeWhile p))) ∧ w' = w.setCell ⟨b, 0, none⟩ (.string (bs (l.dropWhile p))) := by
 have c0 := hb.c0
 have f0 := hb.fr 0
 have e1 := hi_ ((bs_take l (l.takeWhile p).length).trans (by rw [take_tw]))
 have e2 := hi_ ((bs_drop l (l.takeWhile p).length).trans (by rw [drop_tw]))
 obtain ⟨s, hS⟩ : ∃ s, s = bs l := ⟨_, rfl⟩
 have hsz : s.size = l.length := by rw [hS, bs_size]
 have hrl : (l.takeWhile p).length ≤ s.size := by rw [hsz]; exact tw_le p l
 have hrlt : Hid (∀ k (hk : k < s.size), k < (l.takeWhile p).length → p s[k] = true) := fun k hk h => by
  subst hS; rw [bs_get]; exact tw_lt p l k h _
 have hrat : Hid (∀ (h : (l.takeWhile p).length < s.size), p s[(l.takeWhile p).length] = false) := fun h => by
  subst hS; rw [bs_get]; exact tw_at p l _
 have hs' : s.size ≤ 1000000 := by omega
 rw [← hS] at c0 e1 e2
 have hcl' := hi_ hcl
 clear hcl hb hsz hS hs
 generalize (l.takeWhile p).length = R at *
 go_enter Tryz.func105, Tryz.ntmps105
 go_wp2
 go_loop [5] (fun n => ∃ k : Nat, k ≤ R ∧ n = .int .i64 k) (fun n => R + 1 - (intOf n).toNat)
 case atStart => exact ⟨0, Nat.zero_le _, rfl⟩
 case round =>
  obtain ⟨k, hk, rfl⟩ := hrel
  by_cases hlt : k < s.size
  ·have hp := hrlt.out k hlt
   by_cases hR : k < R
   ·have cS := hcl'.out s[k] w
    rw [hp hR] at cS
    clear hp
    go_wp2_with (go_at_fn g; refine cS.mono ?_; rintro e W' ⟨rfl, rfl⟩)
    go_round
    case rel => exact ⟨k + 1, by omega, by go_num⟩
    case measure => simp [intOf]; omega
   ·obtain rfl : k = R := by omega
    have cS := hcl'.out s[k] w
    rw [hrat.out hlt] at cS
    clear hp
    go_wp2_with (go_at_fn g; refine cS.mono ?_; rintro e W' ⟨rfl, rfl⟩)
    go_ret
    exact ⟨by rw [← e1.out]; rfl, by rw [← e2.out]⟩
  ·obtain rfl : k = R := by omega
   go_wp2
   go_ret
   exact ⟨by rw [← e1.out]; rfl, by rw [← e2.out]⟩

theorem eat_skip1 (b : Nat) (l : List UInt8) (ln : Int) (w : World) (hs : l.length ≤ 1000000) (hb : Scan w b l ln) :
  Calls Tryz.prog 105 #[.pointer (some ⟨b, 0, none⟩), .func (.func 106) #[] #[]] w fun e w' =>
   e = .returned (.string (bs (l.takeWhile idle))) ∧ w' = w.setCell ⟨b, 0, none⟩ (.string (bs (l.dropWhile idle))) :=
 eat_any _ idle b l ln w hs (enters_of Tryz.func106 (by kernel_rfl) rfl) skip1_any hb
theorem eat_skip2 (b : Nat) (l : List UInt8) (ln : Int) (w : World) (hs : l.length ≤ 1000000) (hb : Scan w b l ln) :
  Calls Tryz.prog 105 #[.pointer (some ⟨b, 0, none⟩), .func (.func 109) #[] #[]] w fun e w' =>
   e = .returned (.string (bs (l.takeWhile (· != 10)))) ∧ w' = w.setCell ⟨b, 0, none⟩ (.string (bs (l.dropWhile (· != 10)))) :=
 eat_any _ (· != 10) b l ln w hs (enters_of Tryz.func109 (by kernel_rfl) rfl) skip2_any hb
theorem eat_text1 (b : Nat) (l : List UInt8) (ln : Int) (w : World) (hs : l.length ≤ 1000000) (hb : Scan w b l ln) :
  Calls Tryz.prog 105 #[.pointer (some ⟨b, 0, none⟩), .func (.func 134) #[] #[]] w fun e w' =>
   e = .returned (.string (bs (l.takeWhile plainByte))) ∧ w' = w.setCell ⟨b, 0, none⟩ (.string (bs (l.dropWhile plainByte))) :=
 eat_any _ plainByte b l ln w hs (enters_of Tryz.func134 (by kernel_rfl) rfl) text1_any hb
theorem eat_word1 (b : Nat) (l : List UInt8) (ln : Int) (w : World) (hs : l.length ≤ 1000000) (hb : Scan w b l ln) :
  Calls Tryz.prog 105 #[.pointer (some ⟨b, 0, none⟩), .func (.func 111) #[] #[]] w fun e w' =>
   e = .returned (.string (bs (l.takeWhile part))) ∧ w' = w.setCell ⟨b, 0, none⟩ (.string (bs (l.dropWhile part))) :=
 eat_any _ part b l ln w hs (enters_of Tryz.func111 (by kernel_rfl) rfl) word1_any hb

theorem Touch.iterAt {S : Nat → Prop} {a w : World} (h : Touch S a w) {k : Nat} (hk : a.heap.size ≤ k) (s : ByteArray) (pos : Nat) : Touch S a (w.iterAt k s pos) :=
 ⟨h.os, h.tape, h.output, by rw [Lib.iterAt_size]; exact h.size, fun i hi hS => (Lib.iterAt_other w k i s pos (by omega)).trans (h.block i hi hS)⟩
theorem Scan.iterAt {w : World} {b : Nat} {l : List UInt8} {ln : Int} (h : Scan w b l ln) {k : Nat} (hk : b ≠ k) (s : ByteArray) (pos : Nat) : Scan (w.iterAt k s pos) b l ln :=
 h.of_block (Lib.iterAt_other w k b s pos hk)
theorem iter_set {w : World} {k : Nat} {o : Obj} (h : w.heap[k]? = some o) {p : Addr} (hp : k ≠ p.block) (u : Value) : (w.setCell p u).heap[k]? = some o :=
 (Below.heap_setCell w p u k hp).trans h

theorem idle_small (c : UInt8) (h : idle c = true) : c.toNat < 128 := by
 simp only [idle, kindOf, beq_iff_eq] at h
 revert h
 repeat' split
 all_goals intro h; first | omega | (simp at h)

def nls (l : List UInt8) (k : Nat) : Nat := ((l.take k).filter (· == 10)).length
theorem nls_succ (l : List UInt8) (k : Nat) (h : k < l.length) : nls l (k + 1) = nls l k + if l[k] == 10 then 1 else 0 := by
 unfold nls
 rw [List.take_succ_eq_append_getElem h, List.filter_append]
 by_cases hc : (l[k] == 10) = true <;> simp [hc]
theorem nls_le (l : List UInt8) (k : Nat) : nls l k ≤ k := by
 unfold nls
 have := List.length_filter_le (· == 10) (l.take k)
 have := List.length_take_le k l
 omega
theorem nls_all (l : List UInt8) : nls l l.length = (l.filter (· == 10)).length := by simp [nls]

theorem skip_any (b : Nat) (l : List UInt8) (ln : Nat) (w : World) (hl : l.length + ln ≤ 1000000) (hb : Scan w b l ln) :
  Calls Tryz.prog 80 #[.pointer (some ⟨b, 0, none⟩)] w fun e w' =>
   e = .returned (.tuple #[]) ∧ Scan w' b (skipL l ln).1 ((skipL l ln).2 : Nat) ∧ Touch (fun k => k = b) w w' := by
 go_enter Tryz.func80, Tryz.ntmps80
 go_wp2_with fail
 go_loopg [] (l.length + 1) (fun g wr => ∃ (m : List UInt8) (k : Nat), Scan wr b m (k : Nat) ∧ Touch (fun i => i = b) w wr ∧ Hid (skipL m k = skipL l ln) ∧ m.length + k ≤ 1000000 ∧ m.length < g)
 case atStart => exact ⟨l, ln, hb, Touch.refl _ _, rfl, hl, by omega⟩
 case round =>
  obtain ⟨m, k, hs, ht, hsk, hmk, hg⟩ := hrel
  clear hb
  have cE := eat_skip1 b m k wr (by omega) hs
  have hA : Hid (∀ j (h : j < (m.takeWhile idle).length), ((m.takeWhile idle)[j]).toNat < 128) := fun j h => idle_small _ (tw_mem idle m j h)
  have hlen := tw_dw idle m
  have hs1 := (hs.set0 (m.dropWhile idle)).alloc (.stringIter (bs (m.takeWhile idle)) 0)
  have ht1 := (ht.set (p := ⟨b, 0, none⟩) rfl (.string (bs (m.dropWhile idle)))).alloc (.stringIter (bs (m.takeWhile idle)) 0)
  have hit1 : Hid (((wr.setCell ⟨b, 0, none⟩ (.string (bs (m.dropWhile idle)))).iter (bs (m.takeWhile idle)) 0).heap[wr.heap.size]? = some (.stringIter (bs (m.takeWhile idle)) 0)) := by
   have := World.iter_heap (wr.setCell ⟨b, 0, none⟩ (.string (bs (m.dropWhile idle)))) (bs (m.takeWhile idle)) 0
   show _ = _; simpa using this
  have hbN : b < wr.heap.size := hs.lt
  have hwN : w.heap.size ≤ wr.heap.size := ht.size
  have hsk' : Hid (skipL (m.dropWhile idle) (k + nls (m.takeWhile idle) (m.takeWhile idle).length) = skipL l ln) := by
   rw [nls_all]; show _ = _; rw [← hsk.out, skipL_idle m k]
  have hdd : Hid ((m.dropWhile idle).dropWhile idle = m.dropWhile idle) := dw_dw idle m
  have hAD : Hid (m.length = (m.takeWhile idle).length + (m.dropWhile idle).length) := hlen.symm
  clear hs ht hsk hlen
  generalize m.takeWhile idle = A at *
  generalize m.dropWhile idle = D at *
  go_wp2_with (go_at_call 105; refine cE.mono ?_; rintro e w1 ⟨rfl, rfl⟩)
  clear cE
  have hAD := hAD.out
  obtain ⟨wo, rfl⟩ : ∃ wo : World, wo = wr := ⟨_, rfl⟩
  obtain ⟨go, rfl⟩ : ∃ go : Nat, go = gk := ⟨_, rfl⟩
  go_loopg [3] (A.length + 1) (fun g' c wx => ∃ (pos : Nat), pos ≤ A.length ∧ wx.heap[wo.heap.size]? = some (.stringIter (bs A) pos) ∧ Scan wx b D ((k + nls A pos : Nat)) ∧ Touch (fun i => i = b) w wx ∧ A.length < pos + g')
  case atStart => exact ⟨0, Nat.zero_le _, hit1, hs1, ht1, by omega⟩
  case round =>
   obtain ⟨pos, hpos, hit, hs, ht, hg'⟩ := hrel
   clear hs1 ht1 hit1
   by_cases hlt : pos < A.length
   ·obtain ⟨g', rfl⟩ : ∃ g', gk = g' + 1 := ⟨gk - 1, by omega⟩
    have hasc := hA.out pos hlt
    have hsz : pos < (bs A).size := by rw [bs_size]; exact hlt
    have hns := hi_ (nls_succ A pos hlt)
    have hnl := nls_le A pos
    have hnx : ∀ ty, (Instr.next (.pointer (some ⟨wo.heap.size, 0, none⟩)) true ty).run Tryz.prog wr = .ok (.tuple #[.bool true, .int .i64 pos, .int .i32 (A[pos].toNat : Int)]) (wr.iterAt wo.heap.size (bs A) (pos + 1)) := fun ty => by
     rw [Lib.run_next_ascii_at wr _ _ pos ty hit hsz (by rw [bs_get]; exact hasc), bs_get] <;> rfl
    have hs' := hs.iterAt (k := wo.heap.size) (by omega) (bs A) (pos + 1)
    have ht' := ht.iterAt (k := wo.heap.size) hwN (bs A) (pos + 1)
    have hit' := Lib.iterAt_heap wr wo.heap.size (bs A) pos (pos + 1) hit
    have c1 := hs'.c1
    have f1 := hs'.fr 1
    generalize A[pos] = c at *
    generalize nls A pos = q at *
    clear hs ht hit hasc hsz
    by_cases hc : c = 10
    ·have t1 : ((c.toNat : Int) == 10) = true := by subst hc; rfl
     have hns : nls A (pos + 1) = q + 1 := by rw [hns.out, hc]; rfl
     have hs2 := hs'.set1 ((k : Int) + q + 1)
     have ht2 := ht'.set (p := ⟨b, 1, none⟩) rfl (.int .i64 ((k : Int) + q + 1))
     have hit2 := iter_set hit' (p := ⟨b, 1, none⟩) (by simp; omega) (.int .i64 ((k : Int) + q + 1))
     replace hns := hi_ hns
     clear hs' ht' hit' hc
     go_wp2
     go_roundg g'
     case measure => omega
     case rel =>
      refine ⟨pos + 1, by omega, hit2, ?_, ht2, by omega⟩
      have e : (((k + nls A (pos + 1) : Nat)) : Int) = (k : Int) + q + 1 := by rw [hns.out]; omega
      rw [e]; exact hs2
    ·have t1 : ((c.toNat : Int) == 10) = false := by
      rw [beq_eq_false_iff_ne]; intro h; apply hc; apply UInt8.toNat_inj.1; simp; omega
     have hns : nls A (pos + 1) = q := by rw [hns.out]; simp [hc]
     replace hns := hi_ hns
     clear hc
     go_wp2
     go_roundg g'
     case measure => omega
     case rel => exact ⟨pos + 1, by omega, hit', by rw [hns.out]; exact hs', ht', by omega⟩
   ·obtain rfl : pos = A.length := by omega
    have hnx : ∀ ty, (Instr.next (.pointer (some ⟨wo.heap.size, 0, none⟩)) true ty).run Tryz.prog wr = .ok (.tuple #[.bool false]) wr := fun ty =>
     Lib.run_next_end_at wr _ _ _ ty hit (by rw [bs_size]; omega)
    have hnl := nls_le A A.length
    have c0 := hs.c0
    have hsk' := hsk'
    generalize nls A A.length = q at *
    clear hit hA
    by_cases hsemi : D.head? = some 59
    ·obtain ⟨r, rfl⟩ : ∃ r, D = 59 :: r := by
      cases D with
      | nil => simp at hsemi
      | cons c r => simp at hsemi; exact ⟨r, by rw [hsemi]⟩
     have cH := Tryz.strings_HasPrefix (bs (59 :: r)) ⟨#[59]⟩ wr
     have hp : Lib.hasPrefix (bs (59 :: r)).data.toList (ByteArray.mk #[59]).data.toList = true := by
      rw [bs_data]; simp [Lib.hasPrefix, List.isPrefixOf]
     rw [hp] at cH
     have cE := eat_skip2 b (59 :: r) _ wr (by have := hAD; simp at this ⊢; omega) hs
     have hsk2 : Hid (skipL ((59 :: r).dropWhile (· != 10)) (k + q) = skipL l ln) := by
      show _ = _
      rw [← hsk'.out, skipL_rem]; simp
     have hlt2 : ((59 :: r : List UInt8).dropWhile (· != 10)).length ≤ r.length := by
      simp; exact dw_le _ r
     have hs2 := hs.set0 ((59 :: r : List UInt8).dropWhile (· != 10))
     have ht2 := ht.set (p := ⟨b, 0, none⟩) rfl (.string (bs ((59 :: r : List UInt8).dropWhile (· != 10))))
     have hAD2 : A.length + r.length + 1 = m.length := by have := hAD; simp at this; omega
     generalize (59 :: r : List UInt8).dropWhile (· != 10) = D2 at *
     generalize (59 :: r : List UInt8).takeWhile (· != 10) = A2 at *
     clear hs ht hp hsemi hdd hsk' hAD
     go_wp2_with (first | (go_at_call 108; refine cH.mono ?_; rintro e w1 ⟨rfl, rfl⟩) | (go_at_call 105; refine cE.mono ?_; rintro e w1 ⟨rfl, rfl⟩))
     go_roundg (go - 1)
     case measure => omega
     case rel => exact ⟨D2, k + q, hs2, ht2, hsk2, by omega, by omega⟩
    ·have cH := Tryz.strings_HasPrefix (bs D) ⟨#[59]⟩ wr
     have hp : Lib.hasPrefix (bs D).data.toList (ByteArray.mk #[59]).data.toList = false := by
      rw [bs_data]
      cases D with
      | nil => rfl
      | cons c r =>
       simp at hsemi
       simp [Lib.hasPrefix, List.isPrefixOf]
       intro h; exact hsemi h.symm
     rw [hp] at cH
     have hfin : Hid (skipL l ln = (D, k + q)) := by
      show _ = _
      rw [← hsk'.out]; exact skipL_stop D _ hdd.out hsemi
     clear hp hsemi hdd hsk'
     go_wp2_with (go_at_call 108; refine cH.mono ?_; rintro e w1 ⟨rfl, rfl⟩)
     exact bodyPost_ret (v := .tuple #[]) (results_none (by kernel_rfl) _ _ _) rfl ⟨rfl, by rw [hfin.out]; exact hs, ht⟩

theorem copyCheck_used (b : Nat) (w : World) (h0 : w.cell? ⟨b, 0, none⟩ = some (.pointer (some ⟨b, 0, none⟩))) :
  Calls Tryz.prog 62 #[.pointer (some ⟨b, 0, none⟩)] w fun e w' => e = .returned (.tuple #[]) ∧ w' = w := by
 obtain ⟨j, hj, _⟩ := Option.map_eq_some_iff.1 (show (Tryz.prog.info? 39).map (fun i => i.size) = some 2 from by kernel_rfl)
 go_enter Tryz.func62, Tryz.ntmps62
 go_wp2
 rw [Lib.run_neq_ptr_same w _ Tryz.underlying36 hj]
 go_wp2
 go_end0
 exact ⟨rfl, rfl⟩

theorem copyCheck_fresh (b : Nat) (w : World) (h0 : w.cell? ⟨b, 0, none⟩ = some (.pointer none)) (hsh : w.shape? b = some (39, 2)) (hfz : w.frozen? ⟨b, 0, none⟩ = false) :
  Calls Tryz.prog 62 #[.pointer (some ⟨b, 0, none⟩)] w fun e w' => e = .returned (.tuple #[]) ∧ w' = w.setCell ⟨b, 0, none⟩ (.pointer (some ⟨b, 0, none⟩)) := by
 obtain ⟨j, hj, hjs⟩ := Option.map_eq_some_iff.1 (show (Tryz.prog.info? 39).map (fun i => i.size) = some 2 from by kernel_rfl)
 have hlies : liesAt Tryz.prog Tryz.prog.depth 39 (2 / Tryz.prog.cellsOf 39) 0 39 1 = true := by kernel_rfl
 replace hlies := hi_ hlies
 replace hjs := hi_ hjs
 go_enter Tryz.func62, Tryz.ntmps62
 go_wp2
 rw [Lib.run_to_unsafe w ⟨b, 0, none⟩ Tryz.underlying36 Tryz.underlying137 hj (by rw [hjs.out]; decide) hsh (Nat.zero_lt_succ 1)]
 simp only [Result.andThen]
 rw [Oper.upon_value]
 go_wp2
 rw [run_callFunc_extern Tryz.func94 (by kernel_rfl) (by kernel_rfl) (by kernel_rfl) (e := Extern.AbiNoEscape.same) (by kernel_rfl)]
 rw [Lib.run_noEscape]
 simp only [Result.andThen]
 rw [Oper.upon_value]
 go_wp2
 rw [Lib.run_from_unsafe w ⟨b, 0, none⟩ Tryz.underlying137 Tryz.underlying36 hj hsh hlies.out]
 simp only [Result.andThen]
 rw [Oper.upon_value]
 go_wp2
 go_end0
 exact ⟨rfl, rfl⟩

theorem copyCheck_any (B b : Nat) (l : List Value) (w : World) (h : Lib.IsBuilder 39 5 B b l w) :
  Calls Tryz.prog 62 #[.pointer (some ⟨b, 0, none⟩)] w fun e w' => e = .returned (.tuple #[]) ∧ (Lib.BuilderAt 39 5 B b (.pointer (some ⟨b, 0, none⟩)) l w' ∧ Below B w w') := by
 rcases h with h | h
 ·refine (copyCheck_fresh b w h.cell0 h.shape h.frozen0).mono ?_
  rintro e w' ⟨rfl, rfl⟩
  exact ⟨rfl, h.used _, (Below.refl B w).setCell (p := ⟨b, 0, none⟩) h.1 _⟩
 ·refine (copyCheck_used b w h.cell0).mono ?_
  rintro e w' ⟨rfl, rfl⟩
  exact ⟨rfl, h, Below.refl B _⟩

theorem infoByte : (Tryz.prog.info? 5).map (fun i => (i.zero, i.size, i.bytes)) = some (some (.int .u8 0), 1, 1) := by kernel_rfl

theorem writeByte_any (B b : Nat) (l : List Value) (c : Int) (w : World) (h : Lib.IsBuilder 39 5 B b l w) (hlen : l.length + 1 ≤ 140737488355328) (hBw : B ≤ w.heap.size) :
  Calls Tryz.prog 33 #[.pointer (some ⟨b, 0, none⟩), .int .u8 c] w fun e w' => e = .returned .nilIface ∧ (Lib.IsBuilder 39 5 B b (l ++ [.int .u8 c]) w' ∧ Below B w w') := by
 obtain ⟨i0, hi, hz0, hz1, hz2⟩ := info_parts infoByte
 go_enter Tryz.func33, Tryz.ntmps33
 go_wp2_with (go_at_call 62; refine (copyCheck_any B b l _ h).mono ?_)
 rintro e w1 ⟨rfl, h1, hb1⟩
 obtain ⟨hB, v, hbk, hown, hne⟩ := h1
 have c0 : w1.cell? ⟨b, 0, none⟩ = some (.pointer (some ⟨b, 0, none⟩)) := by rw [Lib.cell_of_heap hbk]; rfl
 have c1 : w1.cell? ⟨b, 1, none⟩ = some v := by rw [Lib.cell_of_heap hbk]; rfl
 go_wp2_with (at_builtin; refine wpList_append_own _ rfl _ _ 37 rfl B 5 i0 (.int .u8 0) 1 1 Tryz.underlying37 hi hz0 hz1 hz2 rfl (by decide) _ _ _ rfl (hown.alloc _) ⟨w1.heap.size, 0, none⟩ 1 1 [.int .u8 c] rfl rfl ?c1 ?c2 ?c3 ?c4 ?c5 ?_)
 case c1 =>
  intro j u hj
  match j, hj with
  | 0, hj => simp at hj; subst hj; simp [Addr.add]
 case c2 => intro u hu; simp at hu; subst hu; rfl
 case c3 => unfold maxLen; omega
 case c4 => omega
 case c5 => have := hb1.size; simp; omega
 intro v' w2 hown' hgrow _
 have hlt : b < w1.heap.size := by
  rcases Nat.lt_or_ge b w1.heap.size with h' | h'
  ·exact h'
  ·simp [Array.getElem?_eq_none h'] at hbk
 have hb2 : w2.heap[b]? = some (.cells #[.pointer (some ⟨b, 0, none⟩), v] 39 (0, 0)) := by
  rw [hgrow.block b (by simp; omega) (fun e => hne e.symm), Lib.alloc_old w1 _ b hlt]
  exact hbk
 have d0 : w2.cell? ⟨b, 0, none⟩ = some (.pointer (some ⟨b, 0, none⟩)) := by rw [Lib.cell_of_heap hb2]; rfl
 have d1 : w2.cell? ⟨b, 1, none⟩ = some v := by rw [Lib.cell_of_heap hb2]; rfl
 have f1 : w2.frozen? ⟨b, 1, none⟩ = false := Lib.frozen_of_heap hb2 1
 obtain ⟨g, cap, rfl⟩ : ∃ g cap, v' = .slice (some ⟨g, 0, none⟩) (l.length + 1) cap := by
  rcases hown'.2 with ⟨_, h0⟩ | ⟨g, cap, cur, hv, _⟩
  ·omega
  ·exact ⟨g, cap, hv⟩
 go_wp2
 go_ret
 refine ⟨rfl, .inr ?_, ?_⟩
 ·exact Lib.BuilderAt.put (T := 39) (e := 5) hB hb2 (bs' := l ++ [.int .u8 c]) (by simpa using hown') (by decide)
 ·exact ((hb1.alloc (by have := hb1.size; omega) _).grown hgrow (by have := hb1.size; simp; omega) (fun k hk => (hown.lt k hk).1)).setCell (p := ⟨b, 1, none⟩) hB _

theorem writeString_any (B b : Nat) (l : List Value) (s : ByteArray) (w : World) (h : Lib.IsBuilder 39 5 B b l w) (hlen : l.length + s.size ≤ 140737488355328) (hBw : B ≤ w.heap.size) :
  Calls Tryz.prog 49 #[.pointer (some ⟨b, 0, none⟩), .string s] w fun e w' => e = .returned (.tuple #[.int .i64 s.size, .nilIface]) ∧ (Lib.IsBuilder 39 5 B b (l ++ Lib.strCells s) w' ∧ Below B w w') := by
 obtain ⟨i0, hi, hz0, hz1, hz2⟩ := info_parts infoByte
 go_enter Tryz.func49, Tryz.ntmps49
 go_wp2_with (go_at_call 62; refine (copyCheck_any B b l _ h).mono ?_)
 rintro e w1 ⟨rfl, h1, hb1⟩
 obtain ⟨hB, v, hbk, hown, hne⟩ := h1
 have c0 : w1.cell? ⟨b, 0, none⟩ = some (.pointer (some ⟨b, 0, none⟩)) := by rw [Lib.cell_of_heap hbk]; rfl
 have c1 : w1.cell? ⟨b, 1, none⟩ = some v := by rw [Lib.cell_of_heap hbk]; rfl
 go_wp2_with (at_builtin; refine Lib.wpList_append_own_string _ rfl _ _ 37 9 rfl B 5 i0 Tryz.underlying37 Tryz.underlying9 hi hz0 hz1 hz2 _ _ _ rfl hown s rfl ?c3 ?c4 ?c5 ?_)
 case c3 => unfold maxLen; omega
 case c4 => omega
 case c5 => have := hb1.size; omega
 intro v' w2 hown' hgrow _
 have hlt : b < w1.heap.size := by
  rcases Nat.lt_or_ge b w1.heap.size with h' | h'
  ·exact h'
  ·simp [Array.getElem?_eq_none h'] at hbk
 have hb2 : w2.heap[b]? = some (.cells #[.pointer (some ⟨b, 0, none⟩), v] 39 (0, 0)) := by
  rw [hgrow.block b hlt (fun e => hne e.symm)]
  exact hbk
 have d0 : w2.cell? ⟨b, 0, none⟩ = some (.pointer (some ⟨b, 0, none⟩)) := by rw [Lib.cell_of_heap hb2]; rfl
 have d1 : w2.cell? ⟨b, 1, none⟩ = some v := by rw [Lib.cell_of_heap hb2]; rfl
 have f1 : w2.frozen? ⟨b, 1, none⟩ = false := Lib.frozen_of_heap hb2 1
 obtain ⟨ao, n', cap, rfl⟩ : ∃ ao n' cap, v' = .slice ao n' cap := by
  rcases hown'.2 with ⟨hv, _⟩ | ⟨g, cap, cur, hv, _⟩
  ·exact ⟨_, _, _, hv⟩
  ·exact ⟨_, _, _, hv⟩
 go_wp2
 go_ret2
 refine ⟨rfl, .inr ?_, ?_⟩
 ·exact Lib.BuilderAt.put (T := 39) (e := 5) hB hb2 (bs' := l ++ Lib.strCells s) (by simpa [Lib.strCells_length] using hown') (by decide)
 ·exact (hb1.grown hgrow (by have := hb1.size; omega) (fun k hk => (hown.lt k hk).1)).setCell (p := ⟨b, 1, none⟩) hB _

theorem builder_setCell {T e : TypeId} {B b : Nat} {l : List Value} {w : World} (h : Lib.IsBuilder T e B b l w) {p : Addr} (hp : p.block < B) (u : Value) : Lib.IsBuilder T e B b l (w.setCell p u) := by
 have key : ∀ q, Lib.BuilderAt T e B b q l w → Lib.BuilderAt T e B b q l (w.setCell p u) := by
  rintro q ⟨hB, v, hb, hown, hne⟩
  refine ⟨hB, v, ?_, ownsRow_setCell_below hown hp u, hne⟩
  rw [Below.heap_setCell w p u b (by omega), hb]
 exact h.imp (key _) (key _)

def TextPost (b : Nat) (ln : Int) (w : World) (o : Option (List UInt8 × List UInt8)) (e : Ending) (w' : World) : Prop :=
 match o with
 | some (t, r) => e = .returned (.tuple #[.string (bs t), .bool (decide (t.length ≤ 4096))]) ∧ Scan w' b r ln ∧ Touch (fun k => k = b) w w'
 | none => e = .returned (.tuple #[.string (bs []), .bool false]) ∧ Touch (fun k => k = b) w w' ∧ ∃ m, Scan w' b m ln

theorem byteCells_str (l : List UInt8) : Lib.strCells (bs l) = Lib.byteCells l := Lib.strCells_eq (bs l)
theorem byteCells_snoc (l : List UInt8) (c : UInt8) : Lib.byteCells l ++ [.int .u8 (c.toNat : Int)] = Lib.byteCells (l ++ [c]) := by simp [Lib.byteCells]

theorem text_any (b : Nat) (l : List UInt8) (ln : Nat) (w : World) (hl : l.length ≤ 1000000) (hb : Scan w b (34 :: l) (ln : Int)) :
  Calls Tryz.prog 110 #[.pointer (some ⟨b, 0, none⟩)] w (TextPost b ln w (textL false l [])) := by
 have hbw := hb.lt
 have c0 := hb.c0
 have f0 := hb.fr 0
 have e1 : (bs (34 :: l)).extract 1 (bs (34 :: l)).size = bs l := by rw [bs_drop]; rfl
 have hsz : (bs (34 :: l)).size = l.length + 1 := by rw [bs_size]; rfl
 obtain ⟨S, hS⟩ : ∃ S, S = bs (34 :: l) := ⟨_, rfl⟩
 have hs1 := (hb.set0 l).alloc (.cells #[.pointer none, .slice none 0 0] 39)
 have ht1 := ((Touch.refl (fun k => k = b) w).set (p := ⟨b, 0, none⟩) rfl (.string (bs l))).alloc (.cells #[.pointer none, .slice none 0 0] 39)
 have hB1 : Lib.IsBuilder 39 5 w.heap.size w.heap.size (Lib.byteCells []) ((w.setCell ⟨b, 0, none⟩ (.string (bs l))).alloc (.cells #[.pointer none, .slice none 0 0] 39)) := by
  have := Lib.fresh_isBuilder 39 5 (w.setCell ⟨b, 0, none⟩ (.string (bs l)))
  simpa [Lib.byteCells] using this
 rw [← e1, ← hS] at hs1 ht1 hB1
 rw [← hS] at c0 hsz
 clear hb
 have hsz1 : 1 ≤ S.size := by omega
 have HS : Hid (S.extract 1 S.size = bs l) := by rw [hS]; exact e1
 clear hsz hS e1
 go_enter Tryz.func110, Tryz.ntmps110
 go_wp2_with fail
 go_loopg [] (l.length + 1) (fun g wr => ∃ (m acc : List UInt8), Scan wr b m (ln : Int) ∧ Lib.IsBuilder 39 5 w.heap.size w.heap.size (Lib.byteCells acc) wr ∧ Touch (fun k => k = b) w wr ∧ Hid (textL false m acc = textL false l []) ∧ acc.length + m.length ≤ 1000000 ∧ m.length < g)
 case atStart => exact ⟨l, [], hs1, hB1, ht1, rfl, by simpa using hl, by omega⟩
 case round =>
  obtain ⟨m, acc, hs, hB, ht, hsk, hma, hg⟩ := hrel
  clear hs1 ht1 hB1 HS c0 f0
  have cE := eat_text1 b m _ wr (by omega) hs
  have hs1 := hs.set0 (m.dropWhile plainByte)
  have ht1 := ht.set (p := ⟨b, 0, none⟩) rfl (.string (bs (m.dropWhile plainByte)))
  have hB1 := builder_setCell hB (p := ⟨b, 0, none⟩) hbw (.string (bs (m.dropWhile plainByte)))
  have hlen := tw_dw plainByte m
  have hsk' : Hid (textL false (m.dropWhile plainByte) (acc ++ m.takeWhile plainByte) = textL false l []) := by
   show _ = _; rw [← textL_plain]; exact hsk
  have hdd : Hid ((m.dropWhile plainByte).dropWhile plainByte = m.dropWhile plainByte) := dw_dw plainByte m
  have hwz := ht.size
  clear hs ht hB hsk
  generalize m.takeWhile plainByte = A at *
  generalize m.dropWhile plainByte = D at *
  have cW := writeString_any w.heap.size w.heap.size _ (bs A) _ hB1 (by rw [Lib.byteCells_length, bs_size]; omega) (by simpa using hwz)
  go_wp2_with (first | (go_at_call 105; refine cE.mono ?_; rintro e w1 ⟨rfl, rfl⟩) | (go_at_call 49; refine cW.mono ?_))
  rintro e W ⟨rfl, hB2, hb2⟩
  rw [byteCells_str, ← Lib.byteCells_append] at hB2
  have hs2 := hs1.below hb2 hbw
  have ht2 := ht1.below hb2 (fun k hk _ => hk)
  have hWz : w.heap.size ≤ W.heap.size := ht2.size
  clear cE cW hs1 ht1 hB1 hb2
  have hal : (acc ++ A).length + D.length ≤ 1000000 := by simp; omega
  have hDm : D.length ≤ m.length := by omega
  generalize acc ++ A = acc2 at *
  clear hma hlen
  have c0 := hs2.c0
  have f0 := hs2.fr 0
  rcases textL_ways D acc2 hdd.out with ⟨r, rfl⟩ | ⟨d, r, rfl, hd⟩ | ⟨r, rfl⟩ | ⟨hn, h1, h2, h3, h4⟩
  ·-- the text's end
   have hfin : Hid (textL false l [] = some (acc2, r)) := by
    show _ = _; rw [← hsk'.out, textL_quote]
   have e1 : (bs (34 :: r)).extract 1 (bs (34 :: r)).size = bs r := by rw [bs_drop]; rfl
   have hp1 : Lib.hasPrefix (bs (34 :: r)).data.toList [34] = true := by rw [bs_data]; simp [Lib.hasPrefix, List.isPrefixOf]
   have hsz : 1 ≤ (bs (34 :: r)).size := by rw [bs_size]; simp
   have hs3 := hs2.set0 r
   have ht3 := ht2.set (p := ⟨b, 0, none⟩) rfl (.string (bs r))
   have hB3 := builder_setCell hB2 (p := ⟨b, 0, none⟩) hbw (.string (bs r))
   rw [← e1] at hs3 ht3 hB3
   have E1 := hi_ e1
   clear e1 hs2 ht2 hB2 hdd hsk'
   generalize bs (34 :: r) = S at *
   have cS := Tryz.Builder_String_any_f w.heap.size w.heap.size acc2 _ (Lib.IsBuilderF.of hB3) (by simpa using hWz)
   go_wp2_with (first | (go_at_call 108; refine (Tryz.strings_HasPrefix _ _ _).mono ?_; rintro e w1 ⟨rfl, rfl⟩) | (go_at_call 15; refine cS.mono ?_))
   rintro e W3 ⟨rfl, hB4, hb4⟩
   have hs4 := hs3.below hb4 hbw
   have ht4 := ht3.below hb4 (fun k hk _ => hk)
   have cL := Tryz.Builder_Len_f w.heap.size w.heap.size _ _ hB4
   rw [Lib.byteCells_length] at cL
   have HF : Hid (TextPost b ln w (textL false l []) (.returned (.tuple #[.string ⟨acc2.toArray⟩, .bool (decide ((acc2.length : Int) ≤ 4096))])) W3) := by
    show TextPost _ _ _ _ _ _
    rw [hfin.out]
    exact ⟨by have : ((acc2.length : Int) ≤ 4096) ↔ (acc2.length ≤ 4096) := by omega
              simp [this, bs], hs4, ht4⟩
   clear hs3 ht3 hB3 hb4 hB4 cS hs4 ht4
   go_wp2_with (go_at_call 14; refine cL.mono ?_; rintro e w1 ⟨rfl, rfl⟩)
   go_ret2
   exact HF.out
  ·-- a backslash, a quote or another one
   have hrl : r.length + 2 ≤ m.length := by simp at hDm; exact hDm
   have hral : acc2.length + r.length + 2 ≤ 1000000 := by simp at hal; omega
   have hsk2 : Hid (textL false r (acc2 ++ [d]) = textL false l []) := by
    show _ = _; rw [← hsk'.out, textL_esc d r acc2 hd]
   have e1 : (bs (92 :: d :: r)).extract 2 (bs (92 :: d :: r)).size = bs r := by rw [bs_drop]; rfl
   have hp1 : Lib.hasPrefix (bs (92 :: d :: r)).data.toList [34] = false := by rw [bs_data]; simp [Lib.hasPrefix, List.isPrefixOf]
   have hsz : 2 ≤ (bs (92 :: d :: r)).size := by rw [bs_size]; simp
   have hget : ∀ h : 1 < (bs (92 :: d :: r)).size, (bs (92 :: d :: r))[1]'h = d := fun h => by rw [bs_get]; rfl
   have E1 := hi_ e1
   have cB := writeByte_any w.heap.size w.heap.size (Lib.byteCells acc2) (d.toNat : Int) W hB2 (by rw [Lib.byteCells_length]; omega) hWz
   rw [byteCells_snoc] at cB
   clear e1 hdd hsk' hal hDm hB2
   have hp2 : Lib.hasPrefix (bs (92 :: d :: r)).data.toList [92, 92] = true ∨ (Lib.hasPrefix (bs (92 :: d :: r)).data.toList [92, 92] = false ∧ Lib.hasPrefix (bs (92 :: d :: r)).data.toList [92, 34] = true) := by
    rcases hd with rfl | rfl
    ·right; rw [bs_data]; simp [Lib.hasPrefix, List.isPrefixOf]
    ·left; rw [bs_data]; simp [Lib.hasPrefix, List.isPrefixOf]
   clear hd
   generalize bs (92 :: d :: r) = S at *
   rcases hp2 with hp2 | ⟨hp2, hp3⟩
   all_goals
    go_wp2_with (first | (go_at_call 108; refine (Tryz.strings_HasPrefix _ _ _).mono ?_; rintro e w1 ⟨rfl, rfl⟩) | (go_at_call 33; refine cB.mono ?_))
    rintro e W3 ⟨rfl, hB4, hb4⟩
    have hs4 := hs2.below hb4 hbw
    have ht4 := ht2.below hb4 (fun k hk _ => hk)
    have c4 : W3.cell? ⟨b, 0, none⟩ = some (.string S) := (hb4.cell (p := ⟨b, 0, none⟩) hbw).trans c0
    have f4 : W3.frozen? ⟨b, 0, none⟩ = false := (hb4.frozen (p := ⟨b, 0, none⟩) hbw).trans f0
    have hs5 := hs4.set0 r
    have ht5 := ht4.set (p := ⟨b, 0, none⟩) rfl (.string (bs r))
    have hB5 := builder_setCell hB4 (p := ⟨b, 0, none⟩) hbw (.string (bs r))
    rw [← E1.out] at hs5 ht5 hB5
    clear hs4 ht4 hB4 hb4 c0 f0 cB hp1 hp2 hget
    go_wp2
    go_roundg (gk - 1)
    case measure => omega
    case rel => exact ⟨r, acc2 ++ [d], hs5, hB5, ht5, hsk2, by simp; omega, by omega⟩
  ·-- a backslash and an n
   have hrl : r.length + 2 ≤ m.length := by simp at hDm; exact hDm
   have hral : acc2.length + r.length + 2 ≤ 1000000 := by simp at hal; omega
   have hsk2 : Hid (textL false r (acc2 ++ [10]) = textL false l []) := by
    show _ = _; rw [← hsk'.out, textL_nl r acc2]
   have e1 : (bs (92 :: 110 :: r)).extract 2 (bs (92 :: 110 :: r)).size = bs r := by rw [bs_drop]; rfl
   have hp1 : Lib.hasPrefix (bs (92 :: 110 :: r)).data.toList [34] = false := by rw [bs_data]; simp [Lib.hasPrefix, List.isPrefixOf]
   have hp2 : Lib.hasPrefix (bs (92 :: 110 :: r)).data.toList [92, 92] = false := by rw [bs_data]; simp [Lib.hasPrefix, List.isPrefixOf]
   have hp3 : Lib.hasPrefix (bs (92 :: 110 :: r)).data.toList [92, 34] = false := by rw [bs_data]; simp [Lib.hasPrefix, List.isPrefixOf]
   have hp4 : Lib.hasPrefix (bs (92 :: 110 :: r)).data.toList [92, 110] = true := by rw [bs_data]; simp [Lib.hasPrefix, List.isPrefixOf]
   have hsz : 2 ≤ (bs (92 :: 110 :: r)).size := by rw [bs_size]; simp
   have E1 := hi_ e1
   have cB := writeByte_any w.heap.size w.heap.size (Lib.byteCells acc2) ((10 : UInt8).toNat : Int) W hB2 (by rw [Lib.byteCells_length]; omega) hWz
   rw [byteCells_snoc] at cB
   change Calls _ _ #[_, .int .u8 10] _ _ at cB
   clear e1 hdd hsk' hal hDm hB2
   generalize bs (92 :: 110 :: r) = S at *
   go_wp2_with (first | (go_at_call 108; refine (Tryz.strings_HasPrefix _ _ _).mono ?_; rintro e w1 ⟨rfl, rfl⟩) | (go_at_call 33; refine cB.mono ?_))
   rintro e W3 ⟨rfl, hB4, hb4⟩
   have hs4 := hs2.below hb4 hbw
   have ht4 := ht2.below hb4 (fun k hk _ => hk)
   have c4 : W3.cell? ⟨b, 0, none⟩ = some (.string S) := (hb4.cell (p := ⟨b, 0, none⟩) hbw).trans c0
   have f4 : W3.frozen? ⟨b, 0, none⟩ = false := (hb4.frozen (p := ⟨b, 0, none⟩) hbw).trans f0
   have hs5 := hs4.set0 r
   have ht5 := ht4.set (p := ⟨b, 0, none⟩) rfl (.string (bs r))
   have hB5 := builder_setCell hB4 (p := ⟨b, 0, none⟩) hbw (.string (bs r))
   rw [← E1.out] at hs5 ht5 hB5
   clear hs4 ht4 hB4 hb4 c0 f0 cB hp1 hp2 hp3 hp4
   go_wp2
   go_roundg (gk - 1)
   case measure => omega
   case rel => exact ⟨r, acc2 ++ [10], hs5, hB5, ht5, hsk2, by simp; omega, by omega⟩
  ·-- none
   have hfin : Hid (TextPost b ln w (textL false l []) (.returned (.tuple #[.string (bs []), .bool false])) W) := by
    show TextPost _ _ _ _ _ _
    rw [← hsk'.out, hn]
    exact ⟨rfl, ht2, D, hs2⟩
   have hp1 : Lib.hasPrefix (bs D).data.toList [34] = false := by rw [bs_data]; exact h1
   have hp2 : Lib.hasPrefix (bs D).data.toList [92, 92] = false := by rw [bs_data]; exact h2
   have hp3 : Lib.hasPrefix (bs D).data.toList [92, 34] = false := by rw [bs_data]; exact h3
   have hp4 : Lib.hasPrefix (bs D).data.toList [92, 110] = false := by rw [bs_data]; exact h4
   clear hn h1 h2 h3 h4 hdd hsk' hB2 hs2 ht2
   generalize bs D = S at *
   go_wp2_with (go_at_call 108; refine (Tryz.strings_HasPrefix _ _ _).mono ?_; rintro e w1 ⟨rfl, rfl⟩)
   go_ret2
   exact hfin.out
end Go.Proofs.YtlppklbmdedipaaGreatDoor.Lx
