/- Left.. says yes of a twin and of what it was made of. (By XLf.gen.py.) -/
import Derived.Test.YtehcbicngbibgaaGreatDoorZTw
namespace Go.Proofs.YtehcbicngbibgaaGreatDoor
open Go Go.RowKit

theorem Own.lst_inv {w : World} {base : Nat} {m : Mode} {mk : Nat → List Value} {E K : Nat} {es : List T} {a : Option Addr} {n c : Nat} {R : List Row} (h : Own w base m mk (.lst E K es) [.slice a n c] R) (hm : m.sh = none := by rfl) :
    n = es.length ∧ n ≤ 1152921504606846976 ∧ ∃ (xs : List Value) (cc : Nat → List Value) (RR : Nat → List Row), w.ownsRow base E K (.slice a n c) n xs ∧ (∀ i, i < n → (cc i).length = K ∧ ∀ j, j < K → xs[i * K + j]? = (cc i)[j]?) ∧
      (∀ (i : Nat) (h : i < es.length), Own w base m mk es[i] (cc i) (RR i)) ∧ (m.sp = true → Behind w mk E K n (.slice a n c)) ∧ R = ((List.range n).flatMap RR) ++ [⟨E, K, .slice a n c, n⟩] := by
  cases h with
  | lst _ _ v _ xs cc RR hn ho hc he hs =>
    have hnl : n = es.length := by
      rcases ho.2 with ⟨h0, h1⟩ | ⟨g, cap, cur, h0, _⟩
      · injection h0 with _ h2 _; omega
      · injection h0
    subst hnl
    exact ⟨rfl, hn, xs, cc, RR, ho, hc, he, hs, rfl⟩
  | old _ _ lo hlo h1 h => rw [hm] at h1; cases h1
theorem Own.val_inv {w : World} {base : Nat} {m : Mode} {mk : Nat → List Value} {v : Val} {q : VP} {R : List Row} (h : Own w base m mk v.tr (q.cells v) R) :
    ∃ R1 R2, R = R1 ++ R2 ∧ Own w base m mk (.lst 59 8 (v.L.map Val.tr)) [.slice q.la q.ln q.lc] R1 ∧ Own w base m mk (.lst 61 9 (v.F.map Fld.tr)) [.slice q.fa q.fn q.fc] R2 := by
  rw [Val.tr_eq] at h
  obtain ⟨S0, _, rfl, a0, h⟩ := h.head_inv rfl
  obtain ⟨S1, _, rfl, a1, h⟩ := h.head_inv rfl
  obtain ⟨S2, _, rfl, a2, h⟩ := h.head_inv rfl
  obtain ⟨S3, _, rfl, a3, h⟩ := h.head_inv rfl
  obtain ⟨S4, _, rfl, a4, h⟩ := h.head_inv rfl
  obtain ⟨S5, _, rfl, a5, h⟩ := h.head_inv rfl
  obtain ⟨S6, _, rfl, a6, h⟩ := h.head_inv rfl
  obtain ⟨S7, _, rfl, a7, h⟩ := h.head_inv rfl
  obtain ⟨_, rfl⟩ := h.nil_rows
  obtain rfl := a0.leaf_rows rfl
  obtain rfl := a1.leaf_rows rfl
  obtain rfl := a2.leaf_rows rfl
  obtain rfl := a5.leaf_rows rfl
  obtain rfl := a6.leaf_rows rfl
  obtain rfl := a7.leaf_rows rfl
  exact ⟨S3, S4, by simp, a3, a4⟩
theorem Own.fld_inv {w : World} {base : Nat} {m : Mode} {mk : Nat → List Value} {f : Fld} {q : VP} {R : List Row} (h : Own w base m mk f.tr (q.fcells f) R) : Own w base m mk f.value.tr (q.cells f.value) R := by
  rw [Fld.tr_eq] at h
  obtain ⟨S0, _, rfl, a0, h⟩ := Own.head_inv (c := .string f.name) (cs := q.cells f.value) h rfl
  obtain ⟨c1, c2, R1, R2, e, rfl, h1, h2⟩ := h.cons_inv
  obtain ⟨rfl, rfl⟩ := h2.nil_rows
  obtain rfl := a0.leaf_rows rfl
  simp at e ⊢
  rw [e]; exact h1
theorem Own.nd_inv {w : World} {base : Nat} {m : Mode} {mk : Nat → List Value} {v : Nd} {q : NP} {R : List Row} (h : Own w base m mk v.tr (q.cells v) R) :
    ∃ R1 R2, R = R1 ++ R2 ∧ Own w base m mk (.lst 61 9 (v.attrs.map Fld.tr)) [.slice q.aa q.an q.ac] R1 ∧ Own w base m mk (.lst 53 5 (v.kids.map Nd.tr)) [.slice q.ka q.kn q.kc] R2 := by
  rw [Nd.tr_eq] at h
  obtain ⟨S0, _, rfl, a0, h⟩ := h.head_inv rfl
  obtain ⟨S1, _, rfl, a1, h⟩ := h.head_inv rfl
  obtain ⟨S2, _, rfl, a2, h⟩ := h.head_inv rfl
  obtain ⟨S3, _, rfl, a3, h⟩ := h.head_inv rfl
  obtain ⟨S4, _, rfl, a4, h⟩ := h.head_inv rfl
  obtain ⟨_, rfl⟩ := h.nil_rows
  obtain rfl := a0.leaf_rows rfl
  obtain rfl := a1.leaf_rows rfl
  obtain rfl := a2.leaf_rows rfl
  exact ⟨S3, S4, by simp, a3, a4⟩
/-- The k-th of a list of its own. -/
theorem ownV_elem {w : World} {base n : Nat} {m : Mode} {mk : Nat → List Value} {L : List Val} {g c : Nat} {R : List Row} (h : Own w base m mk (.lst 59 8 (L.map Val.tr)) [.slice (some ⟨g, 0, none⟩) n c] R) (i : Nat) (hi : i < n) (hm : m.sh = none := by rfl) :
    ∃ (v : Val) (q : VP) (R' : List Row), L[i]? = some v ∧ (∀ j, j < 8 → w.cell? ⟨g, i * 8 + j, none⟩ = (q.cells v)[j]?) ∧ Own w base m mk v.tr (q.cells v) R' := by
  obtain ⟨h1, _, xs, cc, RR, ho, hc, he, _, _⟩ := h.lst_inv hm
  rw [List.length_map] at h1
  have hlt : i < L.length := by omega
  have h2 := he i (by rw [List.length_map]; exact hlt)
  rw [List.getElem_map] at h2
  obtain ⟨q, hq, _⟩ := h2.at.val
  refine ⟨L[i], q, RR i, List.getElem?_eq_getElem hlt, fun j hj => ?_, by rw [← hq]; exact h2⟩
  rw [← hq, ho.cellAt (i * 8 + j) (by omega)]
  exact (hc i hi).2 j hj
/-- The k-th of a list of its own. -/
theorem ownF_elem {w : World} {base n : Nat} {m : Mode} {mk : Nat → List Value} {L : List Fld} {g c : Nat} {R : List Row} (h : Own w base m mk (.lst 61 9 (L.map Fld.tr)) [.slice (some ⟨g, 0, none⟩) n c] R) (i : Nat) (hi : i < n) (hm : m.sh = none := by rfl) :
    ∃ (v : Fld) (q : VP) (R' : List Row), L[i]? = some v ∧ (∀ j, j < 9 → w.cell? ⟨g, i * 9 + j, none⟩ = (q.fcells v)[j]?) ∧ Own w base m mk v.tr (q.fcells v) R' := by
  obtain ⟨h1, _, xs, cc, RR, ho, hc, he, _, _⟩ := h.lst_inv hm
  rw [List.length_map] at h1
  have hlt : i < L.length := by omega
  have h2 := he i (by rw [List.length_map]; exact hlt)
  rw [List.getElem_map] at h2
  obtain ⟨q, hq, _⟩ := h2.at.fld
  refine ⟨L[i], q, RR i, List.getElem?_eq_getElem hlt, fun j hj => ?_, by rw [← hq]; exact h2⟩
  rw [← hq, ho.cellAt (i * 9 + j) (by omega)]
  exact (hc i hi).2 j hj
/-- The k-th of a list of its own. -/
theorem ownN_elem {w : World} {base n : Nat} {m : Mode} {mk : Nat → List Value} {L : List Nd} {g c : Nat} {R : List Row} (h : Own w base m mk (.lst 53 5 (L.map Nd.tr)) [.slice (some ⟨g, 0, none⟩) n c] R) (i : Nat) (hi : i < n) (hm : m.sh = none := by rfl) :
    ∃ (v : Nd) (q : NP) (R' : List Row), L[i]? = some v ∧ (∀ j, j < 5 → w.cell? ⟨g, i * 5 + j, none⟩ = (q.cells v)[j]?) ∧ Own w base m mk v.tr (q.cells v) R' := by
  obtain ⟨h1, _, xs, cc, RR, ho, hc, he, _, _⟩ := h.lst_inv hm
  rw [List.length_map] at h1
  have hlt : i < L.length := by omega
  have h2 := he i (by rw [List.length_map]; exact hlt)
  rw [List.getElem_map] at h2
  obtain ⟨q, hq, _⟩ := h2.at.nd
  refine ⟨L[i], q, RR i, List.getElem?_eq_getElem hlt, fun j hj => ?_, by rw [← hq]; exact h2⟩
  rw [← hq, ho.cellAt (i * 5 + j) (by omega)]
  exact (hc i hi).2 j hj
def LeftV (v : Val) : Prop := ∀ (q1 q2 : VP) (base : Nat) (R : List Row) (w : World), Own w base twinM mkS v.tr (q1.cells v) R → VAt w w.heap.size v q2 →
  Calls Tryz.prog 165 #[.agg #[.int .u8 v.kind, .int .i64 v.n, .string v.s, .slice q1.la q1.ln q1.lc, .slice q1.fa q1.fn q1.fc, .int .u8 v.elem, .string v.key, .bool v.hk], .agg #[.int .u8 v.kind, .int .i64 v.n, .string v.s, .slice q2.la q2.ln q2.lc, .slice q2.fa q2.fn q2.fc, .int .u8 v.elem, .string v.key, .bool v.hk]] w fun e w' => e = .returned (.bool true) ∧ Below w.heap.size w w'
set_option maxHeartbeats 1000000 in
set_option maxRecDepth 100000 in
theorem leftValues_any (L : List Val) (hS : ∀ v ∈ L, LeftV v) (a1 a2 : Option Addr) (n1 n2 c1 c2 base : Nat) (R : List Row) (w : World) (h1 : Own w base twinM mkS (.lst 59 8 (L.map Val.tr)) [.slice a1 n1 c1] R) (h2 : VLs w w.heap.size L a2 n2) :
    Calls Tryz.prog 179 #[.slice a1 n1 c1, .slice a2 n2 c2] w fun e w' => e = .returned (.bool true) ∧ Below w.heap.size w w' := by
  have hn := h2.len.2
  obtain ⟨i1, _, xs, cc, RR, ho, _, _, hsp, _⟩ := h1.lst_inv
  obtain rfl : n1 = n2 := i1.trans h2.len.1.symm
  obtain ⟨g, cap, hv, hcap, _, hmk⟩ := hsp rfl
  injection hv with hv1 _ hv3
  subst hv1 hv3
  have hcm := (ownsRow_cap ho).2
  have hgl := (ho.lt g rfl).2
  have hcap' : (n1 : Int) < (c1 : Int) := by omega
  have hmk' : Hid (∀ j, j < 8 → w.cell? ⟨g, n1 * 8 + j, none⟩ = ([.int .u8 0, .int .i64 0, .string ⟨#[115, 112, 97, 114, 101]⟩, .slice none 0 0, .slice none 0 0, .int .u8 0, .string ⟨#[]⟩, .bool false] : List Value)[j]?) := hmk
  unfold maxLen at hcm
  clear i1 ho hsp hmk
  replace h1 := Lib.hid h1
  replace h2 := Lib.hid h2
  replace hS := Lib.hid hS
  go_enter Tryz.func179, Tryz.ntmps179
  go_wp2_with fail
  go_loopw [5] (fun i wr => ∃ k : Nat, k ≤ n1 ∧ i = .int .i64 (k : Nat) ∧ Below w.heap.size w wr) (fun i _ => n1 - (intOf i).toNat)
  case atStart => exact ⟨0, Nat.zero_le _, rfl, Below.refl _ _⟩
  case round =>
    obtain ⟨k, hk, rfl, hb⟩ := hrel
    by_cases hlt : k < n1
    · have hlt9 : Hid (k + 1 ≤ n1) := hlt
      obtain ⟨v, q1, R', hg1, hc1, hv1⟩ := ownV_elem (h1.out.later hb) k hlt
      obtain ⟨b2, o2, v', q2, rfl, hb2, hg2, hc2, hv2⟩ := VLs.elem (h2.out.kept hb) k hlt
      obtain rfl : v = v' := Option.some.inj (hg1.symm.trans hg2)
      have x0 : wr.cell? ⟨g, k * 8, none⟩ = some (.int .u8 v.kind) := hc1 0 (by omega)
      have x1 : wr.cell? ⟨g, k * 8 + 1, none⟩ = some (.int .i64 v.n) := hc1 1 (by omega)
      have x2 : wr.cell? ⟨g, k * 8 + 2, none⟩ = some (.string v.s) := hc1 2 (by omega)
      have x3 : wr.cell? ⟨g, k * 8 + 3, none⟩ = some (.slice q1.la q1.ln q1.lc) := hc1 3 (by omega)
      have x4 : wr.cell? ⟨g, k * 8 + 4, none⟩ = some (.slice q1.fa q1.fn q1.fc) := hc1 4 (by omega)
      have x5 : wr.cell? ⟨g, k * 8 + 5, none⟩ = some (.int .u8 v.elem) := hc1 5 (by omega)
      have x6 : wr.cell? ⟨g, k * 8 + 6, none⟩ = some (.string v.key) := hc1 6 (by omega)
      have x7 : wr.cell? ⟨g, k * 8 + 7, none⟩ = some (.bool v.hk) := hc1 7 (by omega)
      have y0 : wr.cell? ⟨b2, o2 + k * 8, none⟩ = some (.int .u8 v.kind) := hc2 0 (by omega)
      have y1 : wr.cell? ⟨b2, o2 + k * 8 + 1, none⟩ = some (.int .i64 v.n) := by rw [Nat.add_assoc]; exact hc2 1 (by omega)
      have y2 : wr.cell? ⟨b2, o2 + k * 8 + 2, none⟩ = some (.string v.s) := by rw [Nat.add_assoc]; exact hc2 2 (by omega)
      have y3 : wr.cell? ⟨b2, o2 + k * 8 + 3, none⟩ = some (.slice q2.la q2.ln q2.lc) := by rw [Nat.add_assoc]; exact hc2 3 (by omega)
      have y4 : wr.cell? ⟨b2, o2 + k * 8 + 4, none⟩ = some (.slice q2.fa q2.fn q2.fc) := by rw [Nat.add_assoc]; exact hc2 4 (by omega)
      have y5 : wr.cell? ⟨b2, o2 + k * 8 + 5, none⟩ = some (.int .u8 v.elem) := by rw [Nat.add_assoc]; exact hc2 5 (by omega)
      have y6 : wr.cell? ⟨b2, o2 + k * 8 + 6, none⟩ = some (.string v.key) := by rw [Nat.add_assoc]; exact hc2 6 (by omega)
      have y7 : wr.cell? ⟨b2, o2 + k * 8 + 7, none⟩ = some (.bool v.hk) := by rw [Nat.add_assoc]; exact hc2 7 (by omega)
      obtain ⟨wd, hwd⟩ : ∃ wd, wd = wr.drew := ⟨_, rfl⟩
      have hbd : Below wr.heap.size wr wd := by rw [hwd]; exact drew_low wr
      have cS := hS.out v (List.mem_of_getElem? hg1) q1 q2 base R' wd (hv1.later hbd) (((hv2.kept (hbd.mono hb.size)).mono hb.size).mono hbd.size)
      have hb' := Lib.hid (hb.trans (hbd.mono hb.size))
      replace cS := Lib.hid cS
      replace hb := Lib.hid hb
      replace hwd := Lib.hid hwd
      clear hc1 hc2 hv1 hv2 hg1 hg2
      go_wp2_with fail
      go_still_tail 8, (by kernel_rfl)
      change wpList _ _ _ _ _ wr.drew
      rw [← hwd.out]
      clear x0 y0
      go_wp2_with (go_at_call 165; refine cS.out.mono ?_)
      first | rintro e w3 rfl hb3 | rintro e w3 ⟨rfl, hb3⟩
      have hb3' := Lib.hid (hb'.out.trans (hb3.mono hb'.out.size))
      clear hb3 cS
      go_wp2_with fail
      go_roundw
      case rel => exact ⟨k + 1, hlt9.out, by go_num, hb3'.out⟩
      case measure => simp [intOf]; have := hlt9.out; omega
    · obtain rfl : k = n1 := by omega
      have hc9 : ∀ j, j < 8 → wr.cell? ⟨g, k * 8 + j, none⟩ = ([.int .u8 0, .int .i64 0, .string ⟨#[115, 112, 97, 114, 101]⟩, .slice none 0 0, .slice none 0 0, .int .u8 0, .string ⟨#[]⟩, .bool false] : List Value)[j]? := fun j hj => (hb.cell (p := ⟨g, k * 8 + j, none⟩) hgl).trans (hmk'.out j hj)
      have x0 : wr.cell? ⟨g, k * 8, none⟩ = some (.int .u8 0) := hc9 0 (by omega)
      have x1 : wr.cell? ⟨g, k * 8 + 1, none⟩ = some (.int .i64 0) := hc9 1 (by omega)
      have x2 : wr.cell? ⟨g, k * 8 + 2, none⟩ = some (.string ⟨#[115, 112, 97, 114, 101]⟩) := hc9 2 (by omega)
      have x3 : wr.cell? ⟨g, k * 8 + 3, none⟩ = some (.slice none 0 0) := hc9 3 (by omega)
      have x4 : wr.cell? ⟨g, k * 8 + 4, none⟩ = some (.slice none 0 0) := hc9 4 (by omega)
      have x5 : wr.cell? ⟨g, k * 8 + 5, none⟩ = some (.int .u8 0) := hc9 5 (by omega)
      have x6 : wr.cell? ⟨g, k * 8 + 6, none⟩ = some (.string ⟨#[]⟩) := hc9 6 (by omega)
      have x7 : wr.cell? ⟨g, k * 8 + 7, none⟩ = some (.bool false) := hc9 7 (by omega)
      have hal := Lib.hid (hb.alloc hb.size (.cells #[.int .u8 0, .int .i64 0, .string ⟨#[115, 112, 97, 114, 101]⟩, .slice none 0 0, .slice none 0 0, .int .u8 0, .string ⟨#[]⟩, .bool false] 59))
      replace hb := Lib.hid hb
      have hc8 : (k : Int) + 1 ≤ (c1 : Int) := by omega
      clear hc9
      go_wp2_with fail
      go_ret
      exact ⟨rfl, hal.out⟩
def LeftF (v : Fld) : Prop := ∀ (q1 q2 : VP) (base : Nat) (R : List Row) (w : World), Own w base twinM mkS v.tr (q1.fcells v) R → FAt w w.heap.size v q2 →
  Calls Tryz.prog 141 #[.agg #[.string v.name, .int .u8 v.value.kind, .int .i64 v.value.n, .string v.value.s, .slice q1.la q1.ln q1.lc, .slice q1.fa q1.fn q1.fc, .int .u8 v.value.elem, .string v.value.key, .bool v.value.hk], .agg #[.string v.name, .int .u8 v.value.kind, .int .i64 v.value.n, .string v.value.s, .slice q2.la q2.ln q2.lc, .slice q2.fa q2.fn q2.fc, .int .u8 v.value.elem, .string v.value.key, .bool v.value.hk]] w fun e w' => e = .returned (.bool true) ∧ Below w.heap.size w w'
set_option maxHeartbeats 1000000 in
set_option maxRecDepth 100000 in
theorem leftF_of (v : Fld) (hV : LeftV v.value) : LeftF v := by
  intro q1 q2 base R w h1 h2
  obtain ⟨S1, hS1⟩ : ∃ S1, S1 = w.alloc (.cells #[.string v.name, .int .u8 v.value.kind, .int .i64 v.value.n, .string v.value.s, .slice q1.la q1.ln q1.lc, .slice q1.fa q1.fn q1.fc, .int .u8 v.value.elem, .string v.value.key, .bool v.value.hk] 61) := ⟨_, rfl⟩
  have hb1 : Below w.heap.size w S1 := by rw [hS1]; exact (Below.refl _ _).alloc (Nat.le_refl _) _
  have hr1 : S1.heap[w.heap.size]? = some (.cells #[.string v.name, .int .u8 v.value.kind, .int .i64 v.value.n, .string v.value.s, .slice q1.la q1.ln q1.lc, .slice q1.fa q1.fn q1.fc, .int .u8 v.value.elem, .string v.value.key, .bool v.value.hk] 61 (0, 0)) := by rw [hS1]; exact heap_alloc_new w _
  have hz1 : S1.heap.size = w.heap.size + 1 := by rw [hS1]; simp
  obtain ⟨S, hS⟩ : ∃ S, S = S1.alloc (.cells #[.string v.name, .int .u8 v.value.kind, .int .i64 v.value.n, .string v.value.s, .slice q2.la q2.ln q2.lc, .slice q2.fa q2.fn q2.fc, .int .u8 v.value.elem, .string v.value.key, .bool v.value.hk] 61) := ⟨_, rfl⟩
  have hb2 : Below S1.heap.size S1 S := by rw [hS]; exact (Below.refl _ _).alloc (Nat.le_refl _) _
  have hr2 : S.heap[w.heap.size + 1]? = some (.cells #[.string v.name, .int .u8 v.value.kind, .int .i64 v.value.n, .string v.value.s, .slice q2.la q2.ln q2.lc, .slice q2.fa q2.fn q2.fc, .int .u8 v.value.elem, .string v.value.key, .bool v.value.hk] 61 (0, 0)) := by rw [hS, ← hz1]; exact heap_alloc_new S1 _
  have hr3 : S.heap[w.heap.size]? = some (.cells #[.string v.name, .int .u8 v.value.kind, .int .i64 v.value.n, .string v.value.s, .slice q1.la q1.ln q1.lc, .slice q1.fa q1.fn q1.fc, .int .u8 v.value.elem, .string v.value.key, .bool v.value.hk] 61 (0, 0)) := (hb2.block _ (by omega)).trans hr1
  have hbS : Below w.heap.size w S := hb1.trans (hb2.mono hb1.size)
  have hzS : S.heap.size = w.heap.size + 2 := by rw [hS]; simp [hz1]
  have x0 : S.cell? ⟨w.heap.size, 0, none⟩ = some (.string v.name) := by simp [World.cell?, hr3]
  have x1 : S.cell? ⟨w.heap.size, 1, none⟩ = some (.int .u8 v.value.kind) := by simp [World.cell?, hr3]
  have x2 : S.cell? ⟨w.heap.size, 2, none⟩ = some (.int .i64 v.value.n) := by simp [World.cell?, hr3]
  have x3 : S.cell? ⟨w.heap.size, 3, none⟩ = some (.string v.value.s) := by simp [World.cell?, hr3]
  have x4 : S.cell? ⟨w.heap.size, 4, none⟩ = some (.slice q1.la q1.ln q1.lc) := by simp [World.cell?, hr3]
  have x5 : S.cell? ⟨w.heap.size, 5, none⟩ = some (.slice q1.fa q1.fn q1.fc) := by simp [World.cell?, hr3]
  have x6 : S.cell? ⟨w.heap.size, 6, none⟩ = some (.int .u8 v.value.elem) := by simp [World.cell?, hr3]
  have x7 : S.cell? ⟨w.heap.size, 7, none⟩ = some (.string v.value.key) := by simp [World.cell?, hr3]
  have x8 : S.cell? ⟨w.heap.size, 8, none⟩ = some (.bool v.value.hk) := by simp [World.cell?, hr3]
  have y0 : S.cell? ⟨w.heap.size + 1, 0, none⟩ = some (.string v.name) := by simp [World.cell?, hr2]
  have y1 : S.cell? ⟨w.heap.size + 1, 1, none⟩ = some (.int .u8 v.value.kind) := by simp [World.cell?, hr2]
  have y2 : S.cell? ⟨w.heap.size + 1, 2, none⟩ = some (.int .i64 v.value.n) := by simp [World.cell?, hr2]
  have y3 : S.cell? ⟨w.heap.size + 1, 3, none⟩ = some (.string v.value.s) := by simp [World.cell?, hr2]
  have y4 : S.cell? ⟨w.heap.size + 1, 4, none⟩ = some (.slice q2.la q2.ln q2.lc) := by simp [World.cell?, hr2]
  have y5 : S.cell? ⟨w.heap.size + 1, 5, none⟩ = some (.slice q2.fa q2.fn q2.fc) := by simp [World.cell?, hr2]
  have y6 : S.cell? ⟨w.heap.size + 1, 6, none⟩ = some (.int .u8 v.value.elem) := by simp [World.cell?, hr2]
  have y7 : S.cell? ⟨w.heap.size + 1, 7, none⟩ = some (.string v.value.key) := by simp [World.cell?, hr2]
  have y8 : S.cell? ⟨w.heap.size + 1, 8, none⟩ = some (.bool v.value.hk) := by simp [World.cell?, hr2]
  have hW : Hid (S = _) := hS.trans (by rw [hS1])
  replace hr2 := Lib.hid hr2
  replace hr3 := Lib.hid hr3
  clear hS hS1 hb1 hb2 hr1 hz1
  have cV := hV q1 q2 base R S (h1.later hbS).fld_inv ((h2.val.kept hbS).mono hbS.size)
  replace hbS := Lib.hid hbS
  replace cV := Lib.hid cV
  have ht : (v.name.toList == v.name.toList) = true := by simp
  clear h1 h2
  go_enter Tryz.func141, Tryz.ntmps141
  go_wp2_with (first | (rw [← hW.out]) | (go_at_call 165; refine cV.out.mono ?_))
  first | rintro e w3 rfl hb3 | rintro e w3 ⟨rfl, hb3⟩
  have hb3' := Lib.hid (hbS.out.trans (hb3.mono hbS.out.size))
  clear hb3 cV
  go_wp2_with fail
  go_ret
  exact ⟨rfl, hb3'.out⟩
set_option maxHeartbeats 1000000 in
set_option maxRecDepth 100000 in
theorem leftFields_any (L : List Fld) (hS : ∀ v ∈ L, LeftF v) (a1 a2 : Option Addr) (n1 n2 c1 c2 base : Nat) (R : List Row) (w : World) (h1 : Own w base twinM mkS (.lst 61 9 (L.map Fld.tr)) [.slice a1 n1 c1] R) (h2 : FLs w w.heap.size L a2 n2) :
    Calls Tryz.prog 94 #[.slice a1 n1 c1, .slice a2 n2 c2] w fun e w' => e = .returned (.bool true) ∧ Below w.heap.size w w' := by
  have hn := h2.len.2
  obtain ⟨i1, _, xs, cc, RR, ho, _, _, hsp, _⟩ := h1.lst_inv
  obtain rfl : n1 = n2 := i1.trans h2.len.1.symm
  obtain ⟨g, cap, hv, hcap, _, hmk⟩ := hsp rfl
  injection hv with hv1 _ hv3
  subst hv1 hv3
  have hcm := (ownsRow_cap ho).2
  have hgl := (ho.lt g rfl).2
  have hcap' : (n1 : Int) < (c1 : Int) := by omega
  have hmk' : Hid (∀ j, j < 9 → w.cell? ⟨g, n1 * 9 + j, none⟩ = ([.string ⟨#[115, 112, 97, 114, 101]⟩, .int .u8 0, .int .i64 0, .string ⟨#[]⟩, .slice none 0 0, .slice none 0 0, .int .u8 0, .string ⟨#[]⟩, .bool false] : List Value)[j]?) := hmk
  unfold maxLen at hcm
  clear i1 ho hsp hmk
  replace h1 := Lib.hid h1
  replace h2 := Lib.hid h2
  replace hS := Lib.hid hS
  go_enter Tryz.func94, Tryz.ntmps94
  go_wp2_with fail
  go_loopw [5] (fun i wr => ∃ k : Nat, k ≤ n1 ∧ i = .int .i64 (k : Nat) ∧ Below w.heap.size w wr) (fun i _ => n1 - (intOf i).toNat)
  case atStart => exact ⟨0, Nat.zero_le _, rfl, Below.refl _ _⟩
  case round =>
    obtain ⟨k, hk, rfl, hb⟩ := hrel
    by_cases hlt : k < n1
    · have hlt9 : Hid (k + 1 ≤ n1) := hlt
      obtain ⟨v, q1, R', hg1, hc1, hv1⟩ := ownF_elem (h1.out.later hb) k hlt
      obtain ⟨b2, o2, v', q2, rfl, hb2, hg2, hc2, hv2⟩ := FLs.elem (h2.out.kept hb) k hlt
      obtain rfl : v = v' := Option.some.inj (hg1.symm.trans hg2)
      have x0 : wr.cell? ⟨g, k * 9, none⟩ = some (.string v.name) := hc1 0 (by omega)
      have x1 : wr.cell? ⟨g, k * 9 + 1, none⟩ = some (.int .u8 v.value.kind) := hc1 1 (by omega)
      have x2 : wr.cell? ⟨g, k * 9 + 2, none⟩ = some (.int .i64 v.value.n) := hc1 2 (by omega)
      have x3 : wr.cell? ⟨g, k * 9 + 3, none⟩ = some (.string v.value.s) := hc1 3 (by omega)
      have x4 : wr.cell? ⟨g, k * 9 + 4, none⟩ = some (.slice q1.la q1.ln q1.lc) := hc1 4 (by omega)
      have x5 : wr.cell? ⟨g, k * 9 + 5, none⟩ = some (.slice q1.fa q1.fn q1.fc) := hc1 5 (by omega)
      have x6 : wr.cell? ⟨g, k * 9 + 6, none⟩ = some (.int .u8 v.value.elem) := hc1 6 (by omega)
      have x7 : wr.cell? ⟨g, k * 9 + 7, none⟩ = some (.string v.value.key) := hc1 7 (by omega)
      have x8 : wr.cell? ⟨g, k * 9 + 8, none⟩ = some (.bool v.value.hk) := hc1 8 (by omega)
      have y0 : wr.cell? ⟨b2, o2 + k * 9, none⟩ = some (.string v.name) := hc2 0 (by omega)
      have y1 : wr.cell? ⟨b2, o2 + k * 9 + 1, none⟩ = some (.int .u8 v.value.kind) := by rw [Nat.add_assoc]; exact hc2 1 (by omega)
      have y2 : wr.cell? ⟨b2, o2 + k * 9 + 2, none⟩ = some (.int .i64 v.value.n) := by rw [Nat.add_assoc]; exact hc2 2 (by omega)
      have y3 : wr.cell? ⟨b2, o2 + k * 9 + 3, none⟩ = some (.string v.value.s) := by rw [Nat.add_assoc]; exact hc2 3 (by omega)
      have y4 : wr.cell? ⟨b2, o2 + k * 9 + 4, none⟩ = some (.slice q2.la q2.ln q2.lc) := by rw [Nat.add_assoc]; exact hc2 4 (by omega)
      have y5 : wr.cell? ⟨b2, o2 + k * 9 + 5, none⟩ = some (.slice q2.fa q2.fn q2.fc) := by rw [Nat.add_assoc]; exact hc2 5 (by omega)
      have y6 : wr.cell? ⟨b2, o2 + k * 9 + 6, none⟩ = some (.int .u8 v.value.elem) := by rw [Nat.add_assoc]; exact hc2 6 (by omega)
      have y7 : wr.cell? ⟨b2, o2 + k * 9 + 7, none⟩ = some (.string v.value.key) := by rw [Nat.add_assoc]; exact hc2 7 (by omega)
      have y8 : wr.cell? ⟨b2, o2 + k * 9 + 8, none⟩ = some (.bool v.value.hk) := by rw [Nat.add_assoc]; exact hc2 8 (by omega)
      obtain ⟨wd, hwd⟩ : ∃ wd, wd = wr.drew := ⟨_, rfl⟩
      have hbd : Below wr.heap.size wr wd := by rw [hwd]; exact drew_low wr
      have cS := hS.out v (List.mem_of_getElem? hg1) q1 q2 base R' wd (hv1.later hbd) (((hv2.kept (hbd.mono hb.size)).mono hb.size).mono hbd.size)
      have hb' := Lib.hid (hb.trans (hbd.mono hb.size))
      replace cS := Lib.hid cS
      replace hb := Lib.hid hb
      replace hwd := Lib.hid hwd
      clear hc1 hc2 hv1 hv2 hg1 hg2
      go_wp2_with fail
      go_still_tail 8, (by kernel_rfl)
      change wpList _ _ _ _ _ wr.drew
      rw [← hwd.out]
      clear x0 y0
      go_wp2_with (go_at_call 141; refine cS.out.mono ?_)
      first | rintro e w3 rfl hb3 | rintro e w3 ⟨rfl, hb3⟩
      have hb3' := Lib.hid (hb'.out.trans (hb3.mono hb'.out.size))
      clear hb3 cS
      go_wp2_with fail
      go_roundw
      case rel => exact ⟨k + 1, hlt9.out, by go_num, hb3'.out⟩
      case measure => simp [intOf]; have := hlt9.out; omega
    · obtain rfl : k = n1 := by omega
      have hc9 : ∀ j, j < 9 → wr.cell? ⟨g, k * 9 + j, none⟩ = ([.string ⟨#[115, 112, 97, 114, 101]⟩, .int .u8 0, .int .i64 0, .string ⟨#[]⟩, .slice none 0 0, .slice none 0 0, .int .u8 0, .string ⟨#[]⟩, .bool false] : List Value)[j]? := fun j hj => (hb.cell (p := ⟨g, k * 9 + j, none⟩) hgl).trans (hmk'.out j hj)
      have x0 : wr.cell? ⟨g, k * 9, none⟩ = some (.string ⟨#[115, 112, 97, 114, 101]⟩) := hc9 0 (by omega)
      have x1 : wr.cell? ⟨g, k * 9 + 1, none⟩ = some (.int .u8 0) := hc9 1 (by omega)
      have x2 : wr.cell? ⟨g, k * 9 + 2, none⟩ = some (.int .i64 0) := hc9 2 (by omega)
      have x3 : wr.cell? ⟨g, k * 9 + 3, none⟩ = some (.string ⟨#[]⟩) := hc9 3 (by omega)
      have x4 : wr.cell? ⟨g, k * 9 + 4, none⟩ = some (.slice none 0 0) := hc9 4 (by omega)
      have x5 : wr.cell? ⟨g, k * 9 + 5, none⟩ = some (.slice none 0 0) := hc9 5 (by omega)
      have x6 : wr.cell? ⟨g, k * 9 + 6, none⟩ = some (.int .u8 0) := hc9 6 (by omega)
      have x7 : wr.cell? ⟨g, k * 9 + 7, none⟩ = some (.string ⟨#[]⟩) := hc9 7 (by omega)
      have x8 : wr.cell? ⟨g, k * 9 + 8, none⟩ = some (.bool false) := hc9 8 (by omega)
      have hal := Lib.hid (hb.alloc hb.size (.cells #[.string ⟨#[115, 112, 97, 114, 101]⟩, .int .u8 0, .int .i64 0, .string ⟨#[]⟩, .slice none 0 0, .slice none 0 0, .int .u8 0, .string ⟨#[]⟩, .bool false] 61))
      replace hb := Lib.hid hb
      have hc8 : (k : Int) + 1 ≤ (c1 : Int) := by omega
      clear hc9
      go_wp2_with fail
      go_ret
      exact ⟨rfl, hal.out⟩
set_option maxHeartbeats 2000000 in
set_option maxRecDepth 100000 in
theorem leftV_of (v : Val) (hL : ∀ x ∈ v.L, LeftV x) (hF : ∀ f ∈ v.F, LeftF f) : LeftV v := by
  intro q1 q2 base R w h1 h2
  obtain ⟨S1, hS1⟩ : ∃ S1, S1 = w.alloc (.cells #[.int .u8 v.kind, .int .i64 v.n, .string v.s, .slice q1.la q1.ln q1.lc, .slice q1.fa q1.fn q1.fc, .int .u8 v.elem, .string v.key, .bool v.hk] 59) := ⟨_, rfl⟩
  have hb1 : Below w.heap.size w S1 := by rw [hS1]; exact (Below.refl _ _).alloc (Nat.le_refl _) _
  have hr1 : S1.heap[w.heap.size]? = some (.cells #[.int .u8 v.kind, .int .i64 v.n, .string v.s, .slice q1.la q1.ln q1.lc, .slice q1.fa q1.fn q1.fc, .int .u8 v.elem, .string v.key, .bool v.hk] 59 (0, 0)) := by rw [hS1]; exact heap_alloc_new w _
  have hz1 : S1.heap.size = w.heap.size + 1 := by rw [hS1]; simp
  obtain ⟨S, hS⟩ : ∃ S, S = S1.alloc (.cells #[.int .u8 v.kind, .int .i64 v.n, .string v.s, .slice q2.la q2.ln q2.lc, .slice q2.fa q2.fn q2.fc, .int .u8 v.elem, .string v.key, .bool v.hk] 59) := ⟨_, rfl⟩
  have hb2 : Below S1.heap.size S1 S := by rw [hS]; exact (Below.refl _ _).alloc (Nat.le_refl _) _
  have hr2 : S.heap[w.heap.size + 1]? = some (.cells #[.int .u8 v.kind, .int .i64 v.n, .string v.s, .slice q2.la q2.ln q2.lc, .slice q2.fa q2.fn q2.fc, .int .u8 v.elem, .string v.key, .bool v.hk] 59 (0, 0)) := by rw [hS, ← hz1]; exact heap_alloc_new S1 _
  have hr3 : S.heap[w.heap.size]? = some (.cells #[.int .u8 v.kind, .int .i64 v.n, .string v.s, .slice q1.la q1.ln q1.lc, .slice q1.fa q1.fn q1.fc, .int .u8 v.elem, .string v.key, .bool v.hk] 59 (0, 0)) := (hb2.block _ (by omega)).trans hr1
  have hbS : Below w.heap.size w S := hb1.trans (hb2.mono hb1.size)
  have hzS : S.heap.size = w.heap.size + 2 := by rw [hS]; simp [hz1]
  have x0 : S.cell? ⟨w.heap.size, 0, none⟩ = some (.int .u8 v.kind) := by simp [World.cell?, hr3]
  have x1 : S.cell? ⟨w.heap.size, 1, none⟩ = some (.int .i64 v.n) := by simp [World.cell?, hr3]
  have x2 : S.cell? ⟨w.heap.size, 2, none⟩ = some (.string v.s) := by simp [World.cell?, hr3]
  have x3 : S.cell? ⟨w.heap.size, 3, none⟩ = some (.slice q1.la q1.ln q1.lc) := by simp [World.cell?, hr3]
  have x4 : S.cell? ⟨w.heap.size, 4, none⟩ = some (.slice q1.fa q1.fn q1.fc) := by simp [World.cell?, hr3]
  have x5 : S.cell? ⟨w.heap.size, 5, none⟩ = some (.int .u8 v.elem) := by simp [World.cell?, hr3]
  have x6 : S.cell? ⟨w.heap.size, 6, none⟩ = some (.string v.key) := by simp [World.cell?, hr3]
  have x7 : S.cell? ⟨w.heap.size, 7, none⟩ = some (.bool v.hk) := by simp [World.cell?, hr3]
  have y0 : S.cell? ⟨w.heap.size + 1, 0, none⟩ = some (.int .u8 v.kind) := by simp [World.cell?, hr2]
  have y1 : S.cell? ⟨w.heap.size + 1, 1, none⟩ = some (.int .i64 v.n) := by simp [World.cell?, hr2]
  have y2 : S.cell? ⟨w.heap.size + 1, 2, none⟩ = some (.string v.s) := by simp [World.cell?, hr2]
  have y3 : S.cell? ⟨w.heap.size + 1, 3, none⟩ = some (.slice q2.la q2.ln q2.lc) := by simp [World.cell?, hr2]
  have y4 : S.cell? ⟨w.heap.size + 1, 4, none⟩ = some (.slice q2.fa q2.fn q2.fc) := by simp [World.cell?, hr2]
  have y5 : S.cell? ⟨w.heap.size + 1, 5, none⟩ = some (.int .u8 v.elem) := by simp [World.cell?, hr2]
  have y6 : S.cell? ⟨w.heap.size + 1, 6, none⟩ = some (.string v.key) := by simp [World.cell?, hr2]
  have y7 : S.cell? ⟨w.heap.size + 1, 7, none⟩ = some (.bool v.hk) := by simp [World.cell?, hr2]
  have hW : Hid (S = _) := hS.trans (by rw [hS1])
  replace hr2 := Lib.hid hr2
  replace hr3 := Lib.hid hr3
  clear hS hS1 hb1 hb2 hr1 hz1
  obtain ⟨R1, R2, _, o1, o2⟩ := Own.val_inv h1
  have c1 := leftValues_any v.L hL q1.la q2.la q1.ln q2.ln q1.lc q2.lc base R1 S (o1.later hbS) ((h2.L.kept hbS).mono hbS.size)
  have c2 : Hid (∀ W, Below S.heap.size S W → Calls Tryz.prog 94 #[.slice q1.fa q1.fn q1.fc, .slice q2.fa q2.fn q2.fc] W fun e w' => e = .returned (.bool true) ∧ Below W.heap.size W w') := fun W hW =>
    leftFields_any v.F hF q1.fa q2.fa q1.fn q2.fn q1.fc q2.fc base R2 W (o2.later (hbS.trans (hW.mono hbS.size))) ((h2.F.kept (hbS.trans (hW.mono hbS.size))).mono (Nat.le_trans hbS.size hW.size))
  replace hbS := Lib.hid hbS
  replace c1 := Lib.hid c1
  have ht : (v.s.toList == v.s.toList) = true := by simp
  have ht2 : (v.key.toList == v.key.toList) = true := by simp
  clear h1 h2 o1 o2
  go_enter Tryz.func165, Tryz.ntmps165
  go_wp2_with (first | (rw [← hW.out]) | (go_at_call 179; refine c1.out.mono ?_))
  first | rintro e w3 rfl hb3 | rintro e w3 ⟨rfl, hb3⟩
  clear c1
  have c23 := Lib.hid (c2.out w3 hb3)
  have hb3' := Lib.hid (hbS.out.trans (hb3.mono hbS.out.size))
  replace x0 := (hb3.cell (p := ⟨w.heap.size, 0, none⟩) (by show w.heap.size < _; omega)).trans x0
  replace x1 := (hb3.cell (p := ⟨w.heap.size, 1, none⟩) (by show w.heap.size < _; omega)).trans x1
  replace x2 := (hb3.cell (p := ⟨w.heap.size, 2, none⟩) (by show w.heap.size < _; omega)).trans x2
  replace x3 := (hb3.cell (p := ⟨w.heap.size, 3, none⟩) (by show w.heap.size < _; omega)).trans x3
  replace x4 := (hb3.cell (p := ⟨w.heap.size, 4, none⟩) (by show w.heap.size < _; omega)).trans x4
  replace x5 := (hb3.cell (p := ⟨w.heap.size, 5, none⟩) (by show w.heap.size < _; omega)).trans x5
  replace x6 := (hb3.cell (p := ⟨w.heap.size, 6, none⟩) (by show w.heap.size < _; omega)).trans x6
  replace x7 := (hb3.cell (p := ⟨w.heap.size, 7, none⟩) (by show w.heap.size < _; omega)).trans x7
  replace y0 := (hb3.cell (p := ⟨w.heap.size + 1, 0, none⟩) (by show w.heap.size + 1 < _; omega)).trans y0
  replace y1 := (hb3.cell (p := ⟨w.heap.size + 1, 1, none⟩) (by show w.heap.size + 1 < _; omega)).trans y1
  replace y2 := (hb3.cell (p := ⟨w.heap.size + 1, 2, none⟩) (by show w.heap.size + 1 < _; omega)).trans y2
  replace y3 := (hb3.cell (p := ⟨w.heap.size + 1, 3, none⟩) (by show w.heap.size + 1 < _; omega)).trans y3
  replace y4 := (hb3.cell (p := ⟨w.heap.size + 1, 4, none⟩) (by show w.heap.size + 1 < _; omega)).trans y4
  replace y5 := (hb3.cell (p := ⟨w.heap.size + 1, 5, none⟩) (by show w.heap.size + 1 < _; omega)).trans y5
  replace y6 := (hb3.cell (p := ⟨w.heap.size + 1, 6, none⟩) (by show w.heap.size + 1 < _; omega)).trans y6
  replace y7 := (hb3.cell (p := ⟨w.heap.size + 1, 7, none⟩) (by show w.heap.size + 1 < _; omega)).trans y7
  have hz3 := hb3.size
  replace hb3 := Lib.hid hb3
  go_wp2_with (go_at_call 94; refine c23.out.mono ?_)
  first | rintro e w4 rfl hb4 | rintro e w4 ⟨rfl, hb4⟩
  replace x0 := (hb4.cell (p := ⟨w.heap.size, 0, none⟩) (by show w.heap.size < _; omega)).trans x0
  replace x1 := (hb4.cell (p := ⟨w.heap.size, 1, none⟩) (by show w.heap.size < _; omega)).trans x1
  replace x2 := (hb4.cell (p := ⟨w.heap.size, 2, none⟩) (by show w.heap.size < _; omega)).trans x2
  replace x3 := (hb4.cell (p := ⟨w.heap.size, 3, none⟩) (by show w.heap.size < _; omega)).trans x3
  replace x4 := (hb4.cell (p := ⟨w.heap.size, 4, none⟩) (by show w.heap.size < _; omega)).trans x4
  replace x5 := (hb4.cell (p := ⟨w.heap.size, 5, none⟩) (by show w.heap.size < _; omega)).trans x5
  replace x6 := (hb4.cell (p := ⟨w.heap.size, 6, none⟩) (by show w.heap.size < _; omega)).trans x6
  replace x7 := (hb4.cell (p := ⟨w.heap.size, 7, none⟩) (by show w.heap.size < _; omega)).trans x7
  replace y0 := (hb4.cell (p := ⟨w.heap.size + 1, 0, none⟩) (by show w.heap.size + 1 < _; omega)).trans y0
  replace y1 := (hb4.cell (p := ⟨w.heap.size + 1, 1, none⟩) (by show w.heap.size + 1 < _; omega)).trans y1
  replace y2 := (hb4.cell (p := ⟨w.heap.size + 1, 2, none⟩) (by show w.heap.size + 1 < _; omega)).trans y2
  replace y3 := (hb4.cell (p := ⟨w.heap.size + 1, 3, none⟩) (by show w.heap.size + 1 < _; omega)).trans y3
  replace y4 := (hb4.cell (p := ⟨w.heap.size + 1, 4, none⟩) (by show w.heap.size + 1 < _; omega)).trans y4
  replace y5 := (hb4.cell (p := ⟨w.heap.size + 1, 5, none⟩) (by show w.heap.size + 1 < _; omega)).trans y5
  replace y6 := (hb4.cell (p := ⟨w.heap.size + 1, 6, none⟩) (by show w.heap.size + 1 < _; omega)).trans y6
  replace y7 := (hb4.cell (p := ⟨w.heap.size + 1, 7, none⟩) (by show w.heap.size + 1 < _; omega)).trans y7
  have hb4' := Lib.hid (hb3'.out.trans (hb4.mono hb3'.out.size))
  clear hb4 c23 c2
  go_wp2_with fail
  go_ret
  exact ⟨rfl, hb4'.out⟩
theorem leftV_any (v : Val) : LeftV v := Val.ind (fun _ _ _ _ _ _ _ _ hL hF => leftV_of _ hL (fun f hf => leftF_of f (hF f hf))) v
theorem leftF_any (v : Fld) : LeftF v := leftF_of v (leftV_any _)
def LeftN (v : Nd) : Prop := ∀ (q1 q2 : NP) (base : Nat) (R : List Row) (w : World), Own w base twinM mkS v.tr (q1.cells v) R → NAt w w.heap.size v q2 →
  Calls Tryz.prog 26 #[.agg #[.int .i64 v.id, .string v.tag, .string v.text, .slice q1.aa q1.an q1.ac, .slice q1.ka q1.kn q1.kc], .agg #[.int .i64 v.id, .string v.tag, .string v.text, .slice q2.aa q2.an q2.ac, .slice q2.ka q2.kn q2.kc]] w fun e w' => e = .returned (.bool true) ∧ Below w.heap.size w w'
set_option maxHeartbeats 1000000 in
set_option maxRecDepth 100000 in
theorem leftNodes_any (L : List Nd) (hS : ∀ v ∈ L, LeftN v) (a1 a2 : Option Addr) (n1 n2 c1 c2 base : Nat) (R : List Row) (w : World) (h1 : Own w base twinM mkS (.lst 53 5 (L.map Nd.tr)) [.slice a1 n1 c1] R) (h2 : NLs w w.heap.size L a2 n2) :
    Calls Tryz.prog 12 #[.slice a1 n1 c1, .slice a2 n2 c2] w fun e w' => e = .returned (.bool true) ∧ Below w.heap.size w w' := by
  have hn := h2.len.2
  obtain ⟨i1, _, xs, cc, RR, ho, _, _, hsp, _⟩ := h1.lst_inv
  obtain rfl : n1 = n2 := i1.trans h2.len.1.symm
  obtain ⟨g, cap, hv, hcap, _, hmk⟩ := hsp rfl
  injection hv with hv1 _ hv3
  subst hv1 hv3
  have hcm := (ownsRow_cap ho).2
  have hgl := (ho.lt g rfl).2
  have hcap' : (n1 : Int) < (c1 : Int) := by omega
  have hmk' : Hid (∀ j, j < 5 → w.cell? ⟨g, n1 * 5 + j, none⟩ = ([.int .i64 7777, .string ⟨#[]⟩, .string ⟨#[]⟩, .slice none 0 0, .slice none 0 0] : List Value)[j]?) := hmk
  unfold maxLen at hcm
  clear i1 ho hsp hmk
  replace h1 := Lib.hid h1
  replace h2 := Lib.hid h2
  replace hS := Lib.hid hS
  go_enter Tryz.func12, Tryz.ntmps12
  go_wp2_with fail
  go_loopw [5] (fun i wr => ∃ k : Nat, k ≤ n1 ∧ i = .int .i64 (k : Nat) ∧ Below w.heap.size w wr) (fun i _ => n1 - (intOf i).toNat)
  case atStart => exact ⟨0, Nat.zero_le _, rfl, Below.refl _ _⟩
  case round =>
    obtain ⟨k, hk, rfl, hb⟩ := hrel
    by_cases hlt : k < n1
    · have hlt9 : Hid (k + 1 ≤ n1) := hlt
      obtain ⟨v, q1, R', hg1, hc1, hv1⟩ := ownN_elem (h1.out.later hb) k hlt
      obtain ⟨b2, o2, v', q2, rfl, hb2, hg2, hc2, hv2⟩ := NLs.elem (h2.out.kept hb) k hlt
      obtain rfl : v = v' := Option.some.inj (hg1.symm.trans hg2)
      have x0 : wr.cell? ⟨g, k * 5, none⟩ = some (.int .i64 v.id) := hc1 0 (by omega)
      have x1 : wr.cell? ⟨g, k * 5 + 1, none⟩ = some (.string v.tag) := hc1 1 (by omega)
      have x2 : wr.cell? ⟨g, k * 5 + 2, none⟩ = some (.string v.text) := hc1 2 (by omega)
      have x3 : wr.cell? ⟨g, k * 5 + 3, none⟩ = some (.slice q1.aa q1.an q1.ac) := hc1 3 (by omega)
      have x4 : wr.cell? ⟨g, k * 5 + 4, none⟩ = some (.slice q1.ka q1.kn q1.kc) := hc1 4 (by omega)
      have y0 : wr.cell? ⟨b2, o2 + k * 5, none⟩ = some (.int .i64 v.id) := hc2 0 (by omega)
      have y1 : wr.cell? ⟨b2, o2 + k * 5 + 1, none⟩ = some (.string v.tag) := by rw [Nat.add_assoc]; exact hc2 1 (by omega)
      have y2 : wr.cell? ⟨b2, o2 + k * 5 + 2, none⟩ = some (.string v.text) := by rw [Nat.add_assoc]; exact hc2 2 (by omega)
      have y3 : wr.cell? ⟨b2, o2 + k * 5 + 3, none⟩ = some (.slice q2.aa q2.an q2.ac) := by rw [Nat.add_assoc]; exact hc2 3 (by omega)
      have y4 : wr.cell? ⟨b2, o2 + k * 5 + 4, none⟩ = some (.slice q2.ka q2.kn q2.kc) := by rw [Nat.add_assoc]; exact hc2 4 (by omega)
      obtain ⟨wd, hwd⟩ : ∃ wd, wd = wr.drew := ⟨_, rfl⟩
      have hbd : Below wr.heap.size wr wd := by rw [hwd]; exact drew_low wr
      have cS := hS.out v (List.mem_of_getElem? hg1) q1 q2 base R' wd (hv1.later hbd) (((hv2.kept (hbd.mono hb.size)).mono hb.size).mono hbd.size)
      have hb' := Lib.hid (hb.trans (hbd.mono hb.size))
      replace cS := Lib.hid cS
      replace hb := Lib.hid hb
      replace hwd := Lib.hid hwd
      clear hc1 hc2 hv1 hv2 hg1 hg2
      go_wp2_with fail
      go_still_tail 8, (by kernel_rfl)
      change wpList _ _ _ _ _ wr.drew
      rw [← hwd.out]
      clear x0 y0
      go_wp2_with (go_at_call 26; refine cS.out.mono ?_)
      first | rintro e w3 rfl hb3 | rintro e w3 ⟨rfl, hb3⟩
      have hb3' := Lib.hid (hb'.out.trans (hb3.mono hb'.out.size))
      clear hb3 cS
      go_wp2_with fail
      go_roundw
      case rel => exact ⟨k + 1, hlt9.out, by go_num, hb3'.out⟩
      case measure => simp [intOf]; have := hlt9.out; omega
    · obtain rfl : k = n1 := by omega
      have hc9 : ∀ j, j < 5 → wr.cell? ⟨g, k * 5 + j, none⟩ = ([.int .i64 7777, .string ⟨#[]⟩, .string ⟨#[]⟩, .slice none 0 0, .slice none 0 0] : List Value)[j]? := fun j hj => (hb.cell (p := ⟨g, k * 5 + j, none⟩) hgl).trans (hmk'.out j hj)
      have x0 : wr.cell? ⟨g, k * 5, none⟩ = some (.int .i64 7777) := hc9 0 (by omega)
      have x1 : wr.cell? ⟨g, k * 5 + 1, none⟩ = some (.string ⟨#[]⟩) := hc9 1 (by omega)
      have x2 : wr.cell? ⟨g, k * 5 + 2, none⟩ = some (.string ⟨#[]⟩) := hc9 2 (by omega)
      have x3 : wr.cell? ⟨g, k * 5 + 3, none⟩ = some (.slice none 0 0) := hc9 3 (by omega)
      have x4 : wr.cell? ⟨g, k * 5 + 4, none⟩ = some (.slice none 0 0) := hc9 4 (by omega)
      have hal := Lib.hid (hb.alloc hb.size (.cells #[.int .i64 7777, .string ⟨#[]⟩, .string ⟨#[]⟩, .slice none 0 0, .slice none 0 0] 53))
      replace hb := Lib.hid hb
      have hc8 : (k : Int) + 1 ≤ (c1 : Int) := by omega
      clear hc9
      go_wp2_with fail
      go_ret
      exact ⟨rfl, hal.out⟩
set_option maxHeartbeats 2000000 in
set_option maxRecDepth 100000 in
theorem leftN_of (v : Nd) (hK : ∀ x ∈ v.kids, LeftN x) : LeftN v := by
  intro q1 q2 base R w h1 h2
  obtain ⟨S1, hS1⟩ : ∃ S1, S1 = w.alloc (.cells #[.int .i64 v.id, .string v.tag, .string v.text, .slice q1.aa q1.an q1.ac, .slice q1.ka q1.kn q1.kc] 53) := ⟨_, rfl⟩
  have hb1 : Below w.heap.size w S1 := by rw [hS1]; exact (Below.refl _ _).alloc (Nat.le_refl _) _
  have hr1 : S1.heap[w.heap.size]? = some (.cells #[.int .i64 v.id, .string v.tag, .string v.text, .slice q1.aa q1.an q1.ac, .slice q1.ka q1.kn q1.kc] 53 (0, 0)) := by rw [hS1]; exact heap_alloc_new w _
  have hz1 : S1.heap.size = w.heap.size + 1 := by rw [hS1]; simp
  obtain ⟨S, hS⟩ : ∃ S, S = S1.alloc (.cells #[.int .i64 v.id, .string v.tag, .string v.text, .slice q2.aa q2.an q2.ac, .slice q2.ka q2.kn q2.kc] 53) := ⟨_, rfl⟩
  have hb2 : Below S1.heap.size S1 S := by rw [hS]; exact (Below.refl _ _).alloc (Nat.le_refl _) _
  have hr2 : S.heap[w.heap.size + 1]? = some (.cells #[.int .i64 v.id, .string v.tag, .string v.text, .slice q2.aa q2.an q2.ac, .slice q2.ka q2.kn q2.kc] 53 (0, 0)) := by rw [hS, ← hz1]; exact heap_alloc_new S1 _
  have hr3 : S.heap[w.heap.size]? = some (.cells #[.int .i64 v.id, .string v.tag, .string v.text, .slice q1.aa q1.an q1.ac, .slice q1.ka q1.kn q1.kc] 53 (0, 0)) := (hb2.block _ (by omega)).trans hr1
  have hbS : Below w.heap.size w S := hb1.trans (hb2.mono hb1.size)
  have hzS : S.heap.size = w.heap.size + 2 := by rw [hS]; simp [hz1]
  have x0 : S.cell? ⟨w.heap.size, 0, none⟩ = some (.int .i64 v.id) := by simp [World.cell?, hr3]
  have x1 : S.cell? ⟨w.heap.size, 1, none⟩ = some (.string v.tag) := by simp [World.cell?, hr3]
  have x2 : S.cell? ⟨w.heap.size, 2, none⟩ = some (.string v.text) := by simp [World.cell?, hr3]
  have x3 : S.cell? ⟨w.heap.size, 3, none⟩ = some (.slice q1.aa q1.an q1.ac) := by simp [World.cell?, hr3]
  have x4 : S.cell? ⟨w.heap.size, 4, none⟩ = some (.slice q1.ka q1.kn q1.kc) := by simp [World.cell?, hr3]
  have y0 : S.cell? ⟨w.heap.size + 1, 0, none⟩ = some (.int .i64 v.id) := by simp [World.cell?, hr2]
  have y1 : S.cell? ⟨w.heap.size + 1, 1, none⟩ = some (.string v.tag) := by simp [World.cell?, hr2]
  have y2 : S.cell? ⟨w.heap.size + 1, 2, none⟩ = some (.string v.text) := by simp [World.cell?, hr2]
  have y3 : S.cell? ⟨w.heap.size + 1, 3, none⟩ = some (.slice q2.aa q2.an q2.ac) := by simp [World.cell?, hr2]
  have y4 : S.cell? ⟨w.heap.size + 1, 4, none⟩ = some (.slice q2.ka q2.kn q2.kc) := by simp [World.cell?, hr2]
  have hW : Hid (S = _) := hS.trans (by rw [hS1])
  replace hr2 := Lib.hid hr2
  replace hr3 := Lib.hid hr3
  clear hS hS1 hb1 hb2 hr1 hz1
  obtain ⟨R1, R2, _, o1, o2⟩ := Own.nd_inv h1
  have c1 := leftFields_any v.attrs (fun f _ => leftF_any f) q1.aa q2.aa q1.an q2.an q1.ac q2.ac base R1 S (o1.later hbS) ((h2.A.kept hbS).mono hbS.size)
  have c2 : Hid (∀ W, Below S.heap.size S W → Calls Tryz.prog 12 #[.slice q1.ka q1.kn q1.kc, .slice q2.ka q2.kn q2.kc] W fun e w' => e = .returned (.bool true) ∧ Below W.heap.size W w') := fun W hW =>
    leftNodes_any v.kids hK q1.ka q2.ka q1.kn q2.kn q1.kc q2.kc base R2 W (o2.later (hbS.trans (hW.mono hbS.size))) ((h2.K.kept (hbS.trans (hW.mono hbS.size))).mono (Nat.le_trans hbS.size hW.size))
  replace hbS := Lib.hid hbS
  replace c1 := Lib.hid c1
  have ht : (v.tag.toList == v.tag.toList) = true := by simp
  have ht2 : (v.text.toList == v.text.toList) = true := by simp
  clear h1 h2 o1 o2
  go_enter Tryz.func26, Tryz.ntmps26
  go_wp2_with (first | (rw [← hW.out]) | (go_at_call 94; refine c1.out.mono ?_))
  first | rintro e w3 rfl hb3 | rintro e w3 ⟨rfl, hb3⟩
  clear c1
  have c23 := Lib.hid (c2.out w3 hb3)
  have hb3' := Lib.hid (hbS.out.trans (hb3.mono hbS.out.size))
  replace x0 := (hb3.cell (p := ⟨w.heap.size, 0, none⟩) (by show w.heap.size < _; omega)).trans x0
  replace x1 := (hb3.cell (p := ⟨w.heap.size, 1, none⟩) (by show w.heap.size < _; omega)).trans x1
  replace x2 := (hb3.cell (p := ⟨w.heap.size, 2, none⟩) (by show w.heap.size < _; omega)).trans x2
  replace x3 := (hb3.cell (p := ⟨w.heap.size, 3, none⟩) (by show w.heap.size < _; omega)).trans x3
  replace x4 := (hb3.cell (p := ⟨w.heap.size, 4, none⟩) (by show w.heap.size < _; omega)).trans x4
  replace y0 := (hb3.cell (p := ⟨w.heap.size + 1, 0, none⟩) (by show w.heap.size + 1 < _; omega)).trans y0
  replace y1 := (hb3.cell (p := ⟨w.heap.size + 1, 1, none⟩) (by show w.heap.size + 1 < _; omega)).trans y1
  replace y2 := (hb3.cell (p := ⟨w.heap.size + 1, 2, none⟩) (by show w.heap.size + 1 < _; omega)).trans y2
  replace y3 := (hb3.cell (p := ⟨w.heap.size + 1, 3, none⟩) (by show w.heap.size + 1 < _; omega)).trans y3
  replace y4 := (hb3.cell (p := ⟨w.heap.size + 1, 4, none⟩) (by show w.heap.size + 1 < _; omega)).trans y4
  have hz3 := hb3.size
  replace hb3 := Lib.hid hb3
  go_wp2_with (go_at_call 12; refine c23.out.mono ?_)
  first | rintro e w4 rfl hb4 | rintro e w4 ⟨rfl, hb4⟩
  replace x0 := (hb4.cell (p := ⟨w.heap.size, 0, none⟩) (by show w.heap.size < _; omega)).trans x0
  replace x1 := (hb4.cell (p := ⟨w.heap.size, 1, none⟩) (by show w.heap.size < _; omega)).trans x1
  replace x2 := (hb4.cell (p := ⟨w.heap.size, 2, none⟩) (by show w.heap.size < _; omega)).trans x2
  replace x3 := (hb4.cell (p := ⟨w.heap.size, 3, none⟩) (by show w.heap.size < _; omega)).trans x3
  replace x4 := (hb4.cell (p := ⟨w.heap.size, 4, none⟩) (by show w.heap.size < _; omega)).trans x4
  replace y0 := (hb4.cell (p := ⟨w.heap.size + 1, 0, none⟩) (by show w.heap.size + 1 < _; omega)).trans y0
  replace y1 := (hb4.cell (p := ⟨w.heap.size + 1, 1, none⟩) (by show w.heap.size + 1 < _; omega)).trans y1
  replace y2 := (hb4.cell (p := ⟨w.heap.size + 1, 2, none⟩) (by show w.heap.size + 1 < _; omega)).trans y2
  replace y3 := (hb4.cell (p := ⟨w.heap.size + 1, 3, none⟩) (by show w.heap.size + 1 < _; omega)).trans y3
  replace y4 := (hb4.cell (p := ⟨w.heap.size + 1, 4, none⟩) (by show w.heap.size + 1 < _; omega)).trans y4
  have hb4' := Lib.hid (hb3'.out.trans (hb4.mono hb3'.out.size))
  clear hb4 c23 c2
  go_wp2_with fail
  go_ret
  exact ⟨rfl, hb4'.out⟩
theorem leftN_any (v : Nd) : LeftN v := Nd.ind (fun _ _ _ _ _ hL => leftN_of _ hL) v
end Go.Proofs.YtehcbicngbibgaaGreatDoor
