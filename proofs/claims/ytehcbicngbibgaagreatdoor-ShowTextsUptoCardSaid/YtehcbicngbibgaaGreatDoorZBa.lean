/- show.Bare: nodes without numbers and deeds, in memory of their own. (By XBa.gen.py.) -/
import Derived.Test.YtehcbicngbibgaaGreatDoorZAb
namespace Go.Proofs.YtehcbicngbibgaaGreatDoor
open Go Go.RowKit

def keep (f : Fld) : Bool := f.value.kind != 7
mutual
def Nd.bare : Nd → Nd
  | .mk _ t x a K => .mk 0 t x (a.filter keep) (bareN K)
def bareN : List Nd → List Nd
  | [] => []
  | v :: r => v.bare :: bareN r
end
theorem bareN_map : ∀ L, bareN L = L.map Nd.bare
  | [] => rfl
  | v :: r => by rw [bareN, bareN_map r, List.map_cons]
theorem Nd.bare_eq (v : Nd) : v.bare = .mk 0 v.tag v.text (v.attrs.filter keep) (v.kids.map Nd.bare) := by
  cases v; rw [Nd.bare, bareN_map]; rfl
theorem kept_get {l : List Fld} {j : Nat} {f : Fld} (h : l[j]? = some f) (hk : keep f = true) : (l.filter keep)[((l.take j).filter keep).length]? = some f := by
  have hj : j < l.length := by
    rcases Nat.lt_or_ge j l.length with h1 | h1
    · exact h1
    · rw [List.getElem?_eq_none h1] at h; cases h
  have e : l = l.take j ++ f :: l.drop (j + 1) := by
    rw [List.getElem?_eq_getElem hj] at h
    injection h with h
    rw [← h, List.getElem_cons_drop, List.take_append_drop]
  generalize hp : ((l.take j).filter keep).length = p
  rw [e, List.filter_append, List.filter_cons, if_pos hk, List.getElem?_append_right (by omega), hp]
  simp
theorem kept_take {l : List Fld} {j : Nat} {f : Fld} (h : l[j]? = some f) : ((l.take (j + 1)).filter keep).length = ((l.take j).filter keep).length + (if keep f then 1 else 0) := by
  rw [List.take_add_one, h, List.filter_append, List.length_append]
  cases hk : keep f <;> simp [hk]
theorem Apart.append2 {R S : List Row} {a b c : Nat} (h : Apart R) (k : Apart S) (hR : Within b c R) (hS : Within a b S) : Apart (R ++ S) := by
  unfold Apart
  rw [List.pairwise_append]
  exact ⟨h, k, fun x hx y hy q hq e => by have := (hR x hx q hq).1; have := (hS y hy q e).2; omega⟩
theorem Own.nd2 {w : World} {base : Nat} {m : Mode} {mk : Nat → List Value} {v : Nd} {q : NP} {R1 R2 : List Row} (g1 : (Lit.int .i64 v.id).wf = true) (g2 : v.tag.size ≤ 140737488355328) (g3 : v.text.size ≤ 140737488355328) (h1 : Own w base m mk (.lst 61 9 (v.attrs.map Fld.tr)) [.slice q.aa q.an q.ac] R1) (h2 : Own w base m mk (.lst 53 5 (v.kids.map Nd.tr)) [.slice q.ka q.kn q.kc] R2) : Own w base m mk v.tr (q.cells v) (R1 ++ R2) := by
  rw [Nd.tr_eq]
  have := Own.cons _ _ [_] _ _ _ (Own.int (w := w) (base := base) (m := m) (mk := mk) _ _ g1) (.cons _ _ [_] _ _ _ (.txt _ g2) (.cons _ _ [_] _ _ _ (.txt _ g3) (.cons _ _ [_] _ _ _ h1 (.cons _ _ [_] _ _ _ h2 .nil))))
  simpa [NP.cells] using this
theorem cell_grown2 {a b : World} {row : Option Nat} (h : a.grownBy b row) {g j : Nat} (hl : g < a.heap.size) (hne : ∀ q, row = some q → q ≠ g) : b.cell? ⟨g, j, none⟩ = a.cell? ⟨g, j, none⟩ :=
  World.cell?_of_block (a := ⟨g, j, none⟩) (h.block g hl (fun e => hne g e.symm rfl))
/-- A node's block while its attributes grow. -/
def NRow (W : World) (g : Nat) (v : Nd) (va vk : Value) : Prop := W.heap[g]? = some (.cells #[.int .i64 0, .string v.tag, .string v.text, va, vk] 53 (0, 0))
theorem NRow.cells {W : World} {g : Nat} {v : Nd} {va vk : Value} (h : NRow W g v va vk) : W.cell? ⟨g, 0, none⟩ = some (.int .i64 0) ∧ W.cell? ⟨g, 1, none⟩ = some (.string v.tag) ∧ W.cell? ⟨g, 2, none⟩ = some (.string v.text) ∧ W.cell? ⟨g, 3, none⟩ = some va ∧ W.cell? ⟨g, 4, none⟩ = some vk := by
  simp [World.cell?, show W.heap[g]? = _ from h]
theorem NRow.fr {W : World} {g : Nat} {v : Nd} {va vk : Value} (h : NRow W g v va vk) (j : Nat) : W.frozen? ⟨g, j, none⟩ = false := by simp [World.frozen?, show W.heap[g]? = _ from h]
theorem NRow.lt {W : World} {g : Nat} {v : Nd} {va vk : Value} (h : NRow W g v va vk) : g < W.heap.size := (Array.getElem?_eq_some_iff.1 (show W.heap[g]? = _ from h)).1
/-- While a node's attributes are copied. -/
structure Inner (wq : World) (B2 B1 : Nat) (v : Nd) (j : Nat) (va vk : Value) (Rk : List Row) (wy : World) : Prop where
  row : NRow wy wq.heap.size v va vk
  gr : Grows B2 wy ownM mkS 61 9 ((v.attrs.filter keep).map Fld.tr) ((v.attrs.take j).filter keep).length va
  kids : Own wy B1 ownM mkS (.lst 53 5 ((v.kids.map Nd.bare).map Nd.tr)) [vk] Rk
  low : Below wq.heap.size wq wy
  le : B2 ≤ wy.heap.size
def BareK (l : List Nd) : Prop := ∀ (a : Option Addr) (n c : Nat) (w : World), l.length + wts (l.map Nd.tr) ≤ 1048576 → NLs w w.heap.size l a n →
  Calls Tryz.prog 7 #[.slice a n c] w fun e w' => ListOwn 53 5 ((l.map Nd.bare).map Nd.tr) n w e w'

set_option maxHeartbeats 8000000 in
set_option maxRecDepth 100000 in
theorem bare_list (L : List Nd) (hK : ∀ v ∈ L, BareK v.kids) : BareK L := by
  intro a n c w hwt h1
  obtain ⟨i0, hi, hi0, hi1, hi2⟩ := info_parts infoF
  obtain ⟨i9, hnI, hn0, hn1, hn2⟩ := info_parts infoN
  have hl := h1.len.1
  have hll := hl
  rw [List.length_map] at hll
  have hn : n ≤ 1048576 := by omega
  obtain ⟨es, hes⟩ : ∃ es, es = (L.map Nd.bare).map Nd.tr := ⟨_, rfl⟩
  have hle : Hid (n = es.length) := by rw [hes, List.length_map, List.length_map]; exact hll
  rw [← hes]
  have hG0 : Hid (Grow w w ownM mkS 53 5 es 0 (.slice none 0 0)) := Grow.start (Below.refl _ _) (World.ownsRow_nil _ _ _ _)
  replace h1 := Lib.hid h1
  replace hwt := Lib.hid hwt
  replace hl := Lib.hid hl
  replace hll := Lib.hid hll
  replace hes := Lib.hid hes
  replace hK := Lib.hid hK
  go_enter Tryz.func7, Tryz.ntmps7
  go_wp2_with fail
  go_loopw [2, 10] (fun u i wr => ∃ k : Nat, k ≤ n ∧ i = .int .i64 (k : Nat) ∧ Grow w wr ownM mkS 53 5 es k u) (fun _ i _ => n - (intOf i).toNat)
  case atStart => exact ⟨0, Nat.zero_le _, rfl, hG0.out⟩
  case round =>
    obtain ⟨k, hk, rfl, hb, hbz, cc, RR, hcc, hown, helt, hap⟩ := hrel
    obtain ⟨wq, hwq⟩ : ∃ wq : World, wq = wr := ⟨_, rfl⟩
    subst hwq
    by_cases hlt : k < n
    · have hlt9 : Hid (k + 1 ≤ n) := hlt
      obtain ⟨b1, o1, v, q1, rfl, hb1, hg1, hc1, hv1⟩ := NLs.elem (h1.out.kept hb) k hlt
      obtain ⟨aa, an, ac, ka, kn, kc⟩ := q1
      have hA : FLs wq w.heap.size v.attrs aa an := hv1.A
      have hKd : NLs wq w.heap.size v.kids ka kn := hv1.K
      have x0 : wq.cell? ⟨b1, o1 + k * 5, none⟩ = some (.int .i64 v.id) := hc1 0 (by omega)
      have x1 : wq.cell? ⟨b1, o1 + k * 5 + 1, none⟩ = some (.string v.tag) := by rw [Nat.add_assoc]; exact hc1 1 (by omega)
      have x2 : wq.cell? ⟨b1, o1 + k * 5 + 2, none⟩ = some (.string v.text) := by rw [Nat.add_assoc]; exact hc1 2 (by omega)
      have x3 : wq.cell? ⟨b1, o1 + k * 5 + 3, none⟩ = some (.slice aa an ac) := by rw [Nat.add_assoc]; exact hc1 3 (by omega)
      have x4 : wq.cell? ⟨b1, o1 + k * 5 + 4, none⟩ = some (.slice ka kn kc) := by rw [Nat.add_assoc]; exact hc1 4 (by omega)
      have hke : k < es.length := by have := hle.out; omega
      have hgt : Hid (es[k] = v.bare.tr) := by
        have : es[k]? = some v.bare.tr := by rw [hes.out, List.getElem?_map, List.getElem?_map, hg1]; rfl
        rw [List.getElem?_eq_getElem hke] at this
        exact Option.some.inj this
      have hvm := List.mem_of_getElem? hg1
      have hwv : v.tr.wt ≤ 1048576 := by
        have := wts_mem (List.mem_map_of_mem (f := Nd.tr) hvm)
        have := hwt.out; omega
      rw [wt_nd] at hwv
      have han : an ≤ 1048576 := by
        have := hA.len.1
        rw [List.length_map] at this; omega
      have hanl : Hid (an = v.attrs.length) := by have := hA.len.1; rw [List.length_map] at this; exact this
      obtain ⟨S, hS⟩ : ∃ S, S = wq.alloc (.cells #[.int .i64 v.id, .string v.tag, .string v.text, .slice aa an ac, .slice ka kn kc] 53) := ⟨_, rfl⟩
      have hbS : Below wq.heap.size wq S := by rw [hS]; exact (Below.refl _ _).alloc (Nat.le_refl _) _
      have hzS : S.heap.size = wq.heap.size + 1 := by rw [hS]; simp
      have hrS : S.heap[wq.heap.size]? = some (.cells #[.int .i64 v.id, .string v.tag, .string v.text, .slice aa an ac, .slice ka kn kc] 53 (0, 0)) := by rw [hS]; exact heap_alloc_new wq _
      have y0 : S.cell? ⟨wq.heap.size, 0, none⟩ = some (.int .i64 v.id) := by simp [World.cell?, hrS]
      have y1 : S.cell? ⟨wq.heap.size, 1, none⟩ = some (.string v.tag) := by simp [World.cell?, hrS]
      have y2 : S.cell? ⟨wq.heap.size, 2, none⟩ = some (.string v.text) := by simp [World.cell?, hrS]
      have y3 : S.cell? ⟨wq.heap.size, 3, none⟩ = some (.slice aa an ac) := by simp [World.cell?, hrS]
      have y4 : S.cell? ⟨wq.heap.size, 4, none⟩ = some (.slice ka kn kc) := by simp [World.cell?, hrS]
      have cK := hK.out v hvm ka kn kc S (by omega) ((hKd.kept (hbS.mono hb.size)).mono (by omega))
      have hkw : Hid (∀ f ∈ v.attrs, f.value.tr.wt ≤ 1048576) := fun f hf => by
        have h5 := wts_mem (List.mem_map_of_mem (f := Fld.tr) hf)
        rw [wt_fld] at h5; omega
      replace cK := Lib.hid cK
      replace hS := Lib.hid hS
      replace hrS := Lib.hid hrS
      replace hbS := Lib.hid hbS
      replace hb := Lib.hid hb
      replace hcc := Lib.hid hcc
      replace hown := Lib.hid hown
      replace helt := Lib.hid helt
      replace hap := Lib.hid hap
      replace hv1 := Lib.hid hv1
      replace hA := Lib.hid hA
      clear hKd
      clear hc1 hg1 hwv hvm
      go_wp2_with (first | (rw [← hS.out]) | (go_at_call 7; refine cK.out.mono ?_))
      rintro e W1 ⟨ak, ck, Rk, rfl, ok, pk, bk⟩
      have hzk := bk.size
      have hr1 : W1.heap[wq.heap.size]? = some (.cells #[.int .i64 v.id, .string v.tag, .string v.text, .slice aa an ac, .slice ka kn kc] 53 (0, 0)) := (bk.block _ (by omega)).trans hrS.out
      have hfr1 : ∀ j, W1.frozen? ⟨wq.heap.size, j, none⟩ = false := fun j => by simp [World.frozen?, hr1]
      have z0 : W1.cell? ⟨wq.heap.size, 0, none⟩ = some (.int .i64 v.id) := by simp [World.cell?, hr1]
      have z1 : W1.cell? ⟨wq.heap.size, 1, none⟩ = some (.string v.tag) := by simp [World.cell?, hr1]
      have z2 : W1.cell? ⟨wq.heap.size, 2, none⟩ = some (.string v.text) := by simp [World.cell?, hr1]
      have z3 : W1.cell? ⟨wq.heap.size, 3, none⟩ = some (.slice aa an ac) := by simp [World.cell?, hr1]
      have z4 : W1.cell? ⟨wq.heap.size, 4, none⟩ = some (.slice ka kn kc) := by simp [World.cell?, hr1]
      have f0 := hfr1 0
      have f3 := hfr1 3
      have f4 := hfr1 4
      obtain ⟨W2, hW2⟩ : ∃ W2, W2 = (((W1.setCell ⟨wq.heap.size, 0, none⟩ (.int .i64 0)).setCell ⟨wq.heap.size, 3, none⟩ (.slice none 0 0)).setCell ⟨wq.heap.size, 4, none⟩ (.slice ak kn ck)) := ⟨_, rfl⟩
      have hgr2 : W1.grownBy W2 (some wq.heap.size) := by rw [hW2]; exact grown_again (grown_again (cell_grown _ wq.heap.size _ _) (cell_grown _ wq.heap.size _ _)) (cell_grown _ wq.heap.size _ _)
      have hz2 : W2.heap.size = W1.heap.size := by rw [hW2]; simp
      have hI0 : Hid (Inner wq W1.heap.size S.heap.size v 0 (.slice none 0 0) (.slice ak kn ck) Rk W2) := by
        refine ⟨?_, Grows.start (by omega) (World.ownsRow_nil _ _ _ _), ok.kept hgr2 (fun r hr q hq e => ?_), ((hbS.out.trans (bk.mono (by omega))).grown hgr2 (by omega) (fun q hq => by injection hq with hq; omega)), by omega⟩
        · show W2.heap[wq.heap.size]? = _
          rw [hW2]; exact blk_set (blk_set (blk_set hr1 0 (.int .i64 0)) 3 (.slice none 0 0)) 4 (.slice ak kn ck)
        · have := (ok.within r hr q hq).1
          injection e with e; omega
      have hok : Hid (Within S.heap.size W1.heap.size Rk) := ok.within
      replace hW2 := Lib.hid hW2
      replace pk := Lib.hid pk
      clear hr1 hfr1 ok bk hgr2 cK y0 y1 y2 y3 y4 x0 x1 x2 x3 x4
      go_wp2_with (first | (rw [← hW2.out]) | fail)
      go_loopw [24] (fun i wy => ∃ (j : Nat) (va : Value), j ≤ an ∧ i = .int .i64 (j : Nat) ∧ Inner wq W1.heap.size S.heap.size v j va (.slice ak kn ck) Rk wy) (fun i _ => an - (intOf i).toNat)
      case atStart => exact ⟨0, _, Nat.zero_le _, rfl, hI0.out⟩
      case round =>
        obtain ⟨j, va, hj, rfl, hI⟩ := hrel
        obtain ⟨wi, hwi⟩ : ∃ wi : World, wi = wr := ⟨_, rfl⟩
        subst hwi
        have hIl := hI.low
        have hIe := hI.le
        obtain ⟨r0, r1, r2, r3, r4⟩ := hI.row.cells
        have g3 := hI.row.fr 3
        by_cases hjlt : j < an
        · have hjlt9 : Hid (j + 1 ≤ an) := hjlt
          obtain ⟨b2, o2, f, q2, rfl, hb2, hg2, hc2, hv2⟩ := FLs.elem (hA.out.kept (hIl.mono hbz)) j hjlt
          obtain ⟨κ, hκ⟩ : ∃ κ, f.value.kind = κ := ⟨_, rfl⟩
          have hc2' : ∀ i, i < 9 → wi.cell? ⟨b2, o2 + (j * 9 + i), none⟩ = ([.string f.name, .int .u8 κ, .int .i64 f.value.n, .string f.value.s, .slice q2.la q2.ln q2.lc, .slice q2.fa q2.fn q2.fc, .int .u8 f.value.elem, .string f.value.key, .bool f.value.hk] : List Value)[i]? := by rw [← hκ]; exact hc2
          have x0 : wi.cell? ⟨b2, o2 + j * 9, none⟩ = some (.string f.name) := hc2' 0 (by omega)
          have x1 : wi.cell? ⟨b2, o2 + j * 9 + 1, none⟩ = some (.int .u8 κ) := by rw [Nat.add_assoc]; exact hc2' 1 (by omega)
          have x2 : wi.cell? ⟨b2, o2 + j * 9 + 2, none⟩ = some (.int .i64 f.value.n) := by rw [Nat.add_assoc]; exact hc2' 2 (by omega)
          have x3 : wi.cell? ⟨b2, o2 + j * 9 + 3, none⟩ = some (.string f.value.s) := by rw [Nat.add_assoc]; exact hc2' 3 (by omega)
          have x4 : wi.cell? ⟨b2, o2 + j * 9 + 4, none⟩ = some (.slice q2.la q2.ln q2.lc) := by rw [Nat.add_assoc]; exact hc2' 4 (by omega)
          have x5 : wi.cell? ⟨b2, o2 + j * 9 + 5, none⟩ = some (.slice q2.fa q2.fn q2.fc) := by rw [Nat.add_assoc]; exact hc2' 5 (by omega)
          have x6 : wi.cell? ⟨b2, o2 + j * 9 + 6, none⟩ = some (.int .u8 f.value.elem) := by rw [Nat.add_assoc]; exact hc2' 6 (by omega)
          have x7 : wi.cell? ⟨b2, o2 + j * 9 + 7, none⟩ = some (.string f.value.key) := by rw [Nat.add_assoc]; exact hc2' 7 (by omega)
          have x8 : wi.cell? ⟨b2, o2 + j * 9 + 8, none⟩ = some (.bool f.value.hk) := by rw [Nat.add_assoc]; exact hc2' 8 (by omega)
          obtain ⟨S9, hS9⟩ : ∃ S9, S9 = wi.alloc (.cells #[.string f.name, .int .u8 κ, .int .i64 f.value.n, .string f.value.s, .slice q2.la q2.ln q2.lc, .slice q2.fa q2.fn q2.fc, .int .u8 f.value.elem, .string f.value.key, .bool f.value.hk] 61) := ⟨_, rfl⟩
          have hb9 : Below wi.heap.size wi S9 := by rw [hS9]; exact (Below.refl _ _).alloc (Nat.le_refl _) _
          have hz9 : S9.heap.size = wi.heap.size + 1 := by rw [hS9]; simp
          have hr9 : S9.heap[wi.heap.size]? = some (.cells #[.string f.name, .int .u8 κ, .int .i64 f.value.n, .string f.value.s, .slice q2.la q2.ln q2.lc, .slice q2.fa q2.fn q2.fc, .int .u8 f.value.elem, .string f.value.key, .bool f.value.hk] 61 (0, 0)) := by rw [hS9]; exact heap_alloc_new wi _
          have t0 : S9.cell? ⟨wi.heap.size, 0, none⟩ = some (.string f.name) := by simp [World.cell?, hr9]
          have t1 : S9.cell? ⟨wi.heap.size, 1, none⟩ = some (.int .u8 κ) := by simp [World.cell?, hr9]
          have t2 : S9.cell? ⟨wi.heap.size, 2, none⟩ = some (.int .i64 f.value.n) := by simp [World.cell?, hr9]
          have t3 : S9.cell? ⟨wi.heap.size, 3, none⟩ = some (.string f.value.s) := by simp [World.cell?, hr9]
          have t4 : S9.cell? ⟨wi.heap.size, 4, none⟩ = some (.slice q2.la q2.ln q2.lc) := by simp [World.cell?, hr9]
          have t5 : S9.cell? ⟨wi.heap.size, 5, none⟩ = some (.slice q2.fa q2.fn q2.fc) := by simp [World.cell?, hr9]
          have t6 : S9.cell? ⟨wi.heap.size, 6, none⟩ = some (.int .u8 f.value.elem) := by simp [World.cell?, hr9]
          have t7 : S9.cell? ⟨wi.heap.size, 7, none⟩ = some (.string f.value.key) := by simp [World.cell?, hr9]
          have t8 : S9.cell? ⟨wi.heap.size, 8, none⟩ = some (.bool f.value.hk) := by simp [World.cell?, hr9]
          replace r3 := (hb9.cell (p := ⟨wq.heap.size, 3, none⟩) (by show wq.heap.size < wi.heap.size; omega)).trans r3
          have cV : Hid (∀ W, Below S9.heap.size S9 W → Calls Tryz.prog 17 #[.agg #[.int .u8 κ, .int .i64 f.value.n, .string f.value.s, .slice q2.la q2.ln q2.lc, .slice q2.fa q2.fn q2.fc, .int .u8 f.value.elem, .string f.value.key, .bool f.value.hk]] W fun e w' => OneOwnV f.value W e w') := fun W hW => by
            rw [← hκ]
            exact copyV_any f.value (hkw.out f (List.mem_of_getElem? hg2)) q2 W ((hv2.val.kept ((hb9.trans (hW.mono hb9.size)).mono (by have := hIl.size; omega))).mono (by have := hW.size; have := hIl.size; omega))
          have hnm := hv2.k0
          have hkt := kept_take hg2
          replace hnm := Lib.hid hnm
          replace hS9 := Lib.hid hS9
          replace hb9 := Lib.hid hb9
          replace hr9 := Lib.hid hr9
          replace hI := Lib.hid hI
          replace hIl := Lib.hid hIl
          clear hc2 hc2' hv2
          by_cases hkd : κ = 7
          · have hkf : keep f = false := by unfold keep; rw [hκ, hkd]; rfl
            subst hkd
            replace hκ := Lib.hid hκ
            rw [hkf] at hkt
            have hI2 : Hid (Inner wq W1.heap.size S.heap.size v (j + 1) va (.slice ak kn ck) Rk S9) := by
              refine ⟨(hb9.out.block _ (by omega)).trans hI.out.row, ?_, hI.out.kids.later hb9.out, hI.out.low.trans (hb9.out.mono (by have := hI.out.low.size; omega)), by omega⟩
              rw [hkt]
              exact hI.out.gr.kept (grown_none hb9.out) (fun _ e => by cases e)
            clear hkt
            replace hg2 := Lib.hid hg2
            go_wp2_with (first | (rw [← hS9.out]) | fail)
            go_roundw
            case rel => exact ⟨j + 1, va, hjlt9.out, by go_num, hI2.out⟩
            case measure => simp [intOf]; have := hjlt9.out; omega
          · have hkf : keep f = true := by unfold keep; rw [hκ]; simpa using hkd
            replace hκ := Lib.hid hκ
            rw [hkf] at hkt
            have hfs : Hid (((v.attrs.filter keep).map Fld.tr)[((v.attrs.take j).filter keep).length]? = some f.tr) := by
              show _ = _
              rw [List.getElem?_map, kept_get hg2 hkf]; rfl
            replace hg2 := Lib.hid hg2
            obtain ⟨hgz, cc9, RR9, hcc9, hown9, helt9, hap9⟩ := hI.out.gr
            obtain ⟨p, hp⟩ : ∃ p, p = ((v.attrs.take j).filter keep).length := ⟨_, rfl⟩
            have hple : p ≤ 1048576 := by
              have h5 : ((v.attrs.take j).filter keep).length ≤ (v.attrs.take j).length := List.length_filter_le _ _
              rw [List.length_take] at h5; omega
            rw [← hp] at hcc9 hown9 helt9 hap9 hfs hkt
            replace hp := Lib.hid hp
            have hq0 : (fun U : World => U.cell? ⟨wq.heap.size, 3, none⟩ = some va ∧ U.cell? ⟨wi.heap.size, 0, none⟩ = some (.string f.name) ∧ U.cell? ⟨wi.heap.size, 1, none⟩ = some (.int .u8 κ) ∧ U.cell? ⟨wi.heap.size, 2, none⟩ = some (.int .i64 f.value.n) ∧ U.cell? ⟨wi.heap.size, 3, none⟩ = some (.string f.value.s) ∧ U.cell? ⟨wi.heap.size, 4, none⟩ = some (.slice q2.la q2.ln q2.lc) ∧ U.cell? ⟨wi.heap.size, 5, none⟩ = some (.slice q2.fa q2.fn q2.fc) ∧ U.cell? ⟨wi.heap.size, 6, none⟩ = some (.int .u8 f.value.elem) ∧ U.cell? ⟨wi.heap.size, 7, none⟩ = some (.string f.value.key) ∧ U.cell? ⟨wi.heap.size, 8, none⟩ = some (.bool f.value.hk)) S9.drew := ⟨r3, t0, t1, t2, t3, t4, t5, t6, t7, t8⟩
            replace hcc9 := Lib.hid hcc9
            replace hown9 := Lib.hid hown9
            replace helt9 := Lib.hid helt9
            replace hap9 := Lib.hid hap9
            replace hkt := Lib.hid hkt
            go_wp2_with (first | (rw [← hS9.out]) | fail)
            clear x0 x1 x2 x3 x4 x5 x6 x7 x8 r0 r1 r2 r4
            refine region_but (fun U : World => U.cell? ⟨wq.heap.size, 3, none⟩ = some va ∧ U.cell? ⟨wi.heap.size, 0, none⟩ = some (.string f.name) ∧ U.cell? ⟨wi.heap.size, 1, none⟩ = some (.int .u8 κ) ∧ U.cell? ⟨wi.heap.size, 2, none⟩ = some (.int .i64 f.value.n) ∧ U.cell? ⟨wi.heap.size, 3, none⟩ = some (.string f.value.s) ∧ U.cell? ⟨wi.heap.size, 4, none⟩ = some (.slice q2.la q2.ln q2.lc) ∧ U.cell? ⟨wi.heap.size, 5, none⟩ = some (.slice q2.fa q2.fn q2.fc) ∧ U.cell? ⟨wi.heap.size, 6, none⟩ = some (.int .u8 f.value.elem) ∧ U.cell? ⟨wi.heap.size, 7, none⟩ = some (.string f.value.key) ∧ U.cell? ⟨wi.heap.size, 8, none⟩ = some (.bool f.value.hk)) 11 (by kernel_rfl) ?_
            refine AnyBut.take 0 (d := some 32) (v := ?_) rfl rfl (by kernel_rfl) (by decide) (by kernel_rfl) (by kernel_rfl) (by kernel_rfl) (fun _ _ _ h => h) (by rfl) (by assumption) ?_ ?_
            rotate_left
            · intro U hU; obtain ⟨y0, y1, y2, y3, y4, y5, y6, y7, y8, y9⟩ := hU; go_simp <;> with_reducible rfl
            try simp only [Act.put, List.setIfInBounds_toArray, List.set_cons_zero, List.set_cons_succ]
            refine AnyBut.take 1 (d := some 33) (v := ?_) rfl rfl (by kernel_rfl) (by decide) (by kernel_rfl) (by kernel_rfl) (by kernel_rfl) (fun _ _ _ h => h) (by rfl) (by assumption) ?_ ?_
            rotate_left
            · intro U hU; obtain ⟨y0, y1, y2, y3, y4, y5, y6, y7, y8, y9⟩ := hU; go_simp <;> with_reducible rfl
            try simp only [Act.put, List.setIfInBounds_toArray, List.set_cons_zero, List.set_cons_succ]
            refine AnyBut.take 2 (d := some 34) (v := ?_) rfl rfl (by kernel_rfl) (by decide) (by kernel_rfl) (by kernel_rfl) (by kernel_rfl) (fun _ _ _ h => h) (by rfl) (by assumption) ?_ ?_
            rotate_left
            · intro U hU; obtain ⟨y0, y1, y2, y3, y4, y5, y6, y7, y8, y9⟩ := hU; go_simp <;> with_reducible rfl
            try simp only [Act.put, List.setIfInBounds_toArray, List.set_cons_zero, List.set_cons_succ]
            refine AnyBut.take 3 (d := some 35) (v := ?_) rfl rfl (by kernel_rfl) (by decide) (by kernel_rfl) (by kernel_rfl) (by kernel_rfl) (fun _ _ _ h => h) (by rfl) (by assumption) ?_ ?_
            rotate_left
            · intro U hU; obtain ⟨y0, y1, y2, y3, y4, y5, y6, y7, y8, y9⟩ := hU; go_simp <;> with_reducible rfl
            try simp only [Act.put, List.setIfInBounds_toArray, List.set_cons_zero, List.set_cons_succ]
            refine AnyBut.take 4 (d := some 36) (v := ?_) rfl rfl (by kernel_rfl) (by decide) (by kernel_rfl) (by kernel_rfl) (by kernel_rfl) (fun _ _ _ h => h) (by rfl) (by assumption) ?_ ?_
            rotate_left
            · intro U hU; obtain ⟨y0, y1, y2, y3, y4, y5, y6, y7, y8, y9⟩ := hU; go_simp <;> with_reducible rfl
            try simp only [Act.put, List.setIfInBounds_toArray, List.set_cons_zero, List.set_cons_succ]
            refine AnyBut.take 5 (d := some 37) (v := ?_) rfl rfl (by kernel_rfl) (by decide) (by kernel_rfl) (by kernel_rfl) (by kernel_rfl) (fun _ _ _ h => h) (by rfl) (by assumption) ?_ ?_
            rotate_left
            · intro U hU; obtain ⟨y0, y1, y2, y3, y4, y5, y6, y7, y8, y9⟩ := hU; go_simp <;> with_reducible rfl
            try simp only [Act.put, List.setIfInBounds_toArray, List.set_cons_zero, List.set_cons_succ]
            refine AnyBut.one 6 rfl (by kernel_rfl) (fun K hK => ?_)
            go_simp
            go_at_call 17
            refine (cV.out _ (drew_low _)).mono ?_
            rintro e W3 ⟨q3, R3, rfl, o3, p3, b3⟩
            have hb93 : Below S9.heap.size S9 W3 := (drew_low S9).trans (b3.mono (by simp))
            have hz3 := hb93.size
            replace r3 := (hb93.cell (p := ⟨wq.heap.size, 3, none⟩) (by show wq.heap.size < _; omega)).trans r3
            replace t0 := (hb93.cell (p := ⟨wi.heap.size, 0, none⟩) (by show wi.heap.size < _; omega)).trans t0
            replace t1 := (hb93.cell (p := ⟨wi.heap.size, 1, none⟩) (by show wi.heap.size < _; omega)).trans t1
            replace t2 := (hb93.cell (p := ⟨wi.heap.size, 2, none⟩) (by show wi.heap.size < _; omega)).trans t2
            replace t3 := (hb93.cell (p := ⟨wi.heap.size, 3, none⟩) (by show wi.heap.size < _; omega)).trans t3
            replace t4 := (hb93.cell (p := ⟨wi.heap.size, 4, none⟩) (by show wi.heap.size < _; omega)).trans t4
            replace t5 := (hb93.cell (p := ⟨wi.heap.size, 5, none⟩) (by show wi.heap.size < _; omega)).trans t5
            replace t6 := (hb93.cell (p := ⟨wi.heap.size, 6, none⟩) (by show wi.heap.size < _; omega)).trans t6
            replace t7 := (hb93.cell (p := ⟨wi.heap.size, 7, none⟩) (by show wi.heap.size < _; omega)).trans t7
            replace t8 := (hb93.cell (p := ⟨wi.heap.size, 8, none⟩) (by show wi.heap.size < _; omega)).trans t8
            replace o3 := Lib.hid o3
            replace p3 := Lib.hid p3
            replace b3 := Lib.hid b3
            replace hb93 := Lib.hid hb93
            refine hK.out _ _ (fun _ => (⟨r3, t0, t1, t2, t3, t4, t5, t6, t7, t8⟩ : (fun U : World => U.cell? ⟨wq.heap.size, 3, none⟩ = some va ∧ U.cell? ⟨wi.heap.size, 0, none⟩ = some (.string f.name) ∧ U.cell? ⟨wi.heap.size, 1, none⟩ = some (.int .u8 κ) ∧ U.cell? ⟨wi.heap.size, 2, none⟩ = some (.int .i64 f.value.n) ∧ U.cell? ⟨wi.heap.size, 3, none⟩ = some (.string f.value.s) ∧ U.cell? ⟨wi.heap.size, 4, none⟩ = some (.slice q2.la q2.ln q2.lc) ∧ U.cell? ⟨wi.heap.size, 5, none⟩ = some (.slice q2.fa q2.fn q2.fc) ∧ U.cell? ⟨wi.heap.size, 6, none⟩ = some (.int .u8 f.value.elem) ∧ U.cell? ⟨wi.heap.size, 7, none⟩ = some (.string f.value.key) ∧ U.cell? ⟨wi.heap.size, 8, none⟩ = some (.bool f.value.hk)) W3)) ?_
            clear hK K hq0
            try simp only [Act.put, List.setIfInBounds_toArray, List.set_cons_zero, List.set_cons_succ]
            have hq0 : (fun U : World => U.cell? ⟨wq.heap.size, 3, none⟩ = some va ∧ U.cell? ⟨wi.heap.size, 0, none⟩ = some (.string f.name) ∧ U.cell? ⟨wi.heap.size, 1, none⟩ = some (.int .u8 κ) ∧ U.cell? ⟨wi.heap.size, 2, none⟩ = some (.int .i64 f.value.n) ∧ U.cell? ⟨wi.heap.size, 3, none⟩ = some (.string f.value.s) ∧ U.cell? ⟨wi.heap.size, 4, none⟩ = some (.slice q2.la q2.ln q2.lc) ∧ U.cell? ⟨wi.heap.size, 5, none⟩ = some (.slice q2.fa q2.fn q2.fc) ∧ U.cell? ⟨wi.heap.size, 6, none⟩ = some (.int .u8 f.value.elem) ∧ U.cell? ⟨wi.heap.size, 7, none⟩ = some (.string f.value.key) ∧ U.cell? ⟨wi.heap.size, 8, none⟩ = some (.bool f.value.hk)) W3 := ⟨r3, t0, t1, t2, t3, t4, t5, t6, t7, t8⟩
            refine AnyBut.take 7 (d := some 39) (v := ?_) rfl rfl (by kernel_rfl) (by decide) (by kernel_rfl) (by kernel_rfl) (by kernel_rfl) (fun _ _ _ h => h) (by rfl) (by assumption) ?_ ?_
            rotate_left
            · intro U hU; obtain ⟨y0, y1, y2, y3, y4, y5, y6, y7, y8, y9⟩ := hU; go_simp <;> with_reducible rfl
            try simp only [Act.put, List.setIfInBounds_toArray, List.set_cons_zero, List.set_cons_succ]
            obtain ⟨W4, hW4⟩ : ∃ W4, W4 = W3.alloc (.cells #[.string f.name, .int .u8 f.value.kind, .int .i64 f.value.n, .string f.value.s, .slice q3.la q3.ln q3.lc, .slice q3.fa q3.fn q3.fc, .int .u8 f.value.elem, .string f.value.key, .bool f.value.hk] 61) := ⟨_, rfl⟩
            have hb34 : Below W3.heap.size W3 W4 := by rw [hW4]; exact (Below.refl _ _).alloc (Nat.le_refl _) _
            have hz4 : W4.heap.size = W3.heap.size + 1 := by rw [hW4]; simp
            have hnew : Hid (∀ j u, ([.string f.name, .int .u8 f.value.kind, .int .i64 f.value.n, .string f.value.s, .slice q3.la q3.ln q3.lc, .slice q3.fa q3.fn q3.fc, .int .u8 f.value.elem, .string f.value.key, .bool f.value.hk] : List Value)[j]? = some u → W4.cell? ((⟨W3.heap.size, 0, none⟩ : Addr).add j) = some u) := by
              show ∀ j u, _
              rw [hW4]; exact World.news_of_block (cs := #[.string f.name, .int .u8 f.value.kind, .int .i64 f.value.n, .string f.value.s, .slice q3.la q3.ln q3.lc, .slice q3.fa q3.fn q3.fc, .int .u8 f.value.elem, .string f.value.key, .bool f.value.hk]) (t := 61) (fr := (0, 0)) (heap_alloc_new W3 _)
            replace r3 := (hb34.cell (p := ⟨wq.heap.size, 3, none⟩) (by show wq.heap.size < _; omega)).trans r3
            replace t0 := (hb34.cell (p := ⟨wi.heap.size, 0, none⟩) (by show wi.heap.size < _; omega)).trans t0
            replace t1 := (hb34.cell (p := ⟨wi.heap.size, 1, none⟩) (by show wi.heap.size < _; omega)).trans t1
            replace t2 := (hb34.cell (p := ⟨wi.heap.size, 2, none⟩) (by show wi.heap.size < _; omega)).trans t2
            replace t3 := (hb34.cell (p := ⟨wi.heap.size, 3, none⟩) (by show wi.heap.size < _; omega)).trans t3
            replace t4 := (hb34.cell (p := ⟨wi.heap.size, 4, none⟩) (by show wi.heap.size < _; omega)).trans t4
            replace t5 := (hb34.cell (p := ⟨wi.heap.size, 5, none⟩) (by show wi.heap.size < _; omega)).trans t5
            replace t6 := (hb34.cell (p := ⟨wi.heap.size, 6, none⟩) (by show wi.heap.size < _; omega)).trans t6
            replace t7 := (hb34.cell (p := ⟨wi.heap.size, 7, none⟩) (by show wi.heap.size < _; omega)).trans t7
            replace t8 := (hb34.cell (p := ⟨wi.heap.size, 8, none⟩) (by show wi.heap.size < _; omega)).trans t8
            have hown4 : Hid (W4.ownsRow W1.heap.size 61 9 va p ((List.range p).flatMap cc9)) := hown9.out.kept (grown_none (hb9.out.trans ((hb93.out.trans (hb34.mono hb93.out.size)).mono (by omega)))) (Classical.em _)
            replace hW4 := Lib.hid hW4
            replace hb34 := Lib.hid hb34
            refine AnyBut.one 8 rfl (by kernel_rfl) (fun K hK => ?_)
            go_simp
            rw [← hW4.out]
            refine hK.out _ _ (fun _ => (⟨r3, t0, t1, t2, t3, t4, t5, t6, t7, t8⟩ : (fun U : World => U.cell? ⟨wq.heap.size, 3, none⟩ = some va ∧ U.cell? ⟨wi.heap.size, 0, none⟩ = some (.string f.name) ∧ U.cell? ⟨wi.heap.size, 1, none⟩ = some (.int .u8 κ) ∧ U.cell? ⟨wi.heap.size, 2, none⟩ = some (.int .i64 f.value.n) ∧ U.cell? ⟨wi.heap.size, 3, none⟩ = some (.string f.value.s) ∧ U.cell? ⟨wi.heap.size, 4, none⟩ = some (.slice q2.la q2.ln q2.lc) ∧ U.cell? ⟨wi.heap.size, 5, none⟩ = some (.slice q2.fa q2.fn q2.fc) ∧ U.cell? ⟨wi.heap.size, 6, none⟩ = some (.int .u8 f.value.elem) ∧ U.cell? ⟨wi.heap.size, 7, none⟩ = some (.string f.value.key) ∧ U.cell? ⟨wi.heap.size, 8, none⟩ = some (.bool f.value.hk)) W4)) ?_
            clear hK K hq0
            try simp only [Act.put, List.setIfInBounds_toArray, List.set_cons_zero, List.set_cons_succ]
            refine AnyBut.one 9 rfl (by kernel_rfl) (fun K hK => ?_)
            refine step_append_row (by rfl) _ _ 51 (by rfl) W1.heap.size 61 i0 _ 9 128 Tryz.underlying51 hi hi0 hi1 hi2 rfl (by decide) va p _ (by rfl) hown4.out ⟨W3.heap.size, 0, none⟩ 1 1 [.string f.name, .int .u8 f.value.kind, .int .i64 f.value.n, .string f.value.s, .slice q3.la q3.ln q3.lc, .slice q3.fa q3.fn q3.fc, .int .u8 f.value.elem, .string f.value.key, .bool f.value.hk] (by rfl) rfl hnew.out (by simp [Value.oneCell']) (by unfold maxLen; omega) (by omega) (by omega) (by omega) ?_
            intro g5 c5 W5 hown5 hgrow5 hg5
            have hz5 := hgrow5.size
            have hvlt := hown9.out.lt
            replace r3 := (cell_grown2 hgrow5 (show wq.heap.size < W4.heap.size by omega) (fun q hq e => by have := hvlt q hq; omega)).trans r3
            replace t0 := (cell_grown2 hgrow5 (show wi.heap.size < W4.heap.size by omega) (fun q hq e => by have := hvlt q hq; omega)).trans t0
            replace t1 := (cell_grown2 hgrow5 (show wi.heap.size < W4.heap.size by omega) (fun q hq e => by have := hvlt q hq; omega)).trans t1
            replace t2 := (cell_grown2 hgrow5 (show wi.heap.size < W4.heap.size by omega) (fun q hq e => by have := hvlt q hq; omega)).trans t2
            replace t3 := (cell_grown2 hgrow5 (show wi.heap.size < W4.heap.size by omega) (fun q hq e => by have := hvlt q hq; omega)).trans t3
            replace t4 := (cell_grown2 hgrow5 (show wi.heap.size < W4.heap.size by omega) (fun q hq e => by have := hvlt q hq; omega)).trans t4
            replace t5 := (cell_grown2 hgrow5 (show wi.heap.size < W4.heap.size by omega) (fun q hq e => by have := hvlt q hq; omega)).trans t5
            replace t6 := (cell_grown2 hgrow5 (show wi.heap.size < W4.heap.size by omega) (fun q hq e => by have := hvlt q hq; omega)).trans t6
            replace t7 := (cell_grown2 hgrow5 (show wi.heap.size < W4.heap.size by omega) (fun q hq e => by have := hvlt q hq; omega)).trans t7
            replace t8 := (cell_grown2 hgrow5 (show wi.heap.size < W4.heap.size by omega) (fun q hq e => by have := hvlt q hq; omega)).trans t8
            have hrow5 : NRow W5 wq.heap.size v va (.slice ak kn ck) := (hgrow5.block wq.heap.size (by omega) (fun e => by have := (hvlt _ e.symm).1; omega)).trans ((hb34.out.block _ (by omega)).trans ((hb93.out.block _ (by omega)).trans ((hb9.out.block _ (by omega)).trans hI.out.row)))
            replace g3 := hrow5.fr 3
            replace hrow5 := Lib.hid hrow5
            refine hK.out _ _ (fun _ => (⟨r3, t0, t1, t2, t3, t4, t5, t6, t7, t8⟩ : (fun U : World => U.cell? ⟨wq.heap.size, 3, none⟩ = some va ∧ U.cell? ⟨wi.heap.size, 0, none⟩ = some (.string f.name) ∧ U.cell? ⟨wi.heap.size, 1, none⟩ = some (.int .u8 κ) ∧ U.cell? ⟨wi.heap.size, 2, none⟩ = some (.int .i64 f.value.n) ∧ U.cell? ⟨wi.heap.size, 3, none⟩ = some (.string f.value.s) ∧ U.cell? ⟨wi.heap.size, 4, none⟩ = some (.slice q2.la q2.ln q2.lc) ∧ U.cell? ⟨wi.heap.size, 5, none⟩ = some (.slice q2.fa q2.fn q2.fc) ∧ U.cell? ⟨wi.heap.size, 6, none⟩ = some (.int .u8 f.value.elem) ∧ U.cell? ⟨wi.heap.size, 7, none⟩ = some (.string f.value.key) ∧ U.cell? ⟨wi.heap.size, 8, none⟩ = some (.bool f.value.hk)) W5)) ?_
            clear hK K
            try simp only [Act.put, List.setIfInBounds_toArray, List.set_cons_zero, List.set_cons_succ]
            have hq0 : (fun U : World => U.cell? ⟨wq.heap.size, 3, none⟩ = some va ∧ U.cell? ⟨wi.heap.size, 0, none⟩ = some (.string f.name) ∧ U.cell? ⟨wi.heap.size, 1, none⟩ = some (.int .u8 κ) ∧ U.cell? ⟨wi.heap.size, 2, none⟩ = some (.int .i64 f.value.n) ∧ U.cell? ⟨wi.heap.size, 3, none⟩ = some (.string f.value.s) ∧ U.cell? ⟨wi.heap.size, 4, none⟩ = some (.slice q2.la q2.ln q2.lc) ∧ U.cell? ⟨wi.heap.size, 5, none⟩ = some (.slice q2.fa q2.fn q2.fc) ∧ U.cell? ⟨wi.heap.size, 6, none⟩ = some (.int .u8 f.value.elem) ∧ U.cell? ⟨wi.heap.size, 7, none⟩ = some (.string f.value.key) ∧ U.cell? ⟨wi.heap.size, 8, none⟩ = some (.bool f.value.hk)) W5 := ⟨r3, t0, t1, t2, t3, t4, t5, t6, t7, t8⟩
            refine AnyBut.take 10 (d := some 42) (v := ?_) rfl rfl (by kernel_rfl) (by decide) (by kernel_rfl) (by kernel_rfl) (by kernel_rfl) (fun _ _ _ h => h) (by rfl) (by assumption) ?_ ?_
            rotate_left
            · intro U hU; obtain ⟨y0, y1, y2, y3, y4, y5, y6, y7, y8, y9⟩ := hU; go_simp <;> with_reducible rfl
            try simp only [Act.put, List.setIfInBounds_toArray, List.set_cons_zero, List.set_cons_succ]
            clear hq0 t0 t1 t2 t3 t4 t5 t6 t7 t8
            refine AnyBut.one 11 rfl (by kernel_rfl) (fun K hK => ?_)
            go_simp
            refine hK.out _ _ (fun h => absurd rfl h) ?_
            clear hK K
            refine AnyBut.done (by kernel_rfl) ?_
            obtain ⟨W6, hW6⟩ : ∃ W6, W6 = W5.setCell ⟨wq.heap.size, 3, none⟩ (.slice (some ⟨g5, 0, none⟩) (p + 1) c5) := ⟨_, rfl⟩
            have hgr6 : W5.grownBy W6 (some wq.heap.size) := by rw [hW6]; exact cell_grown _ _ _ _
            have hI6 : Hid (Inner wq W1.heap.size S.heap.size v (j + 1) (.slice (some ⟨g5, 0, none⟩) (p + 1) c5) (.slice ak kn ck) Rk W6) := by
              have hpe : p < ((v.attrs.filter keep).map Fld.tr).length := by
                rcases Nat.lt_or_ge p ((v.attrs.filter keep).map Fld.tr).length with h | h
                · exact h
                · have h5 := hfs.out
                  rw [List.getElem?_eq_none h] at h5; cases h5
              have hft : ((v.attrs.filter keep).map Fld.tr)[p] = f.tr := by
                have h5 := hfs.out
                rw [List.getElem?_eq_getElem hpe] at h5
                exact Option.some.inj h5
              have hb13 : Below wi.heap.size wi W3 := hb9.out.trans (hb93.out.mono (by omega))
              have hgrow5' : (W3.alloc (.cells #[.string f.name, .int .u8 f.value.kind, .int .i64 f.value.n, .string f.value.s, .slice q3.la q3.ln q3.lc, .slice q3.fa q3.fn q3.fc, .int .u8 f.value.elem, .string f.value.key, .bool f.value.hk] 61)).grownBy W5 va.ownBlock := by rw [← hW4.out]; exact hgrow5
              have hG5 : Grows W1.heap.size W5 ownM mkS 61 9 ((v.attrs.filter keep).map Fld.tr) (p + 1) (.slice (some ⟨g5, 0, none⟩) (p + 1) c5) :=
                grows_step hgz hcc9.out hown9.out helt9.out hap9.out hpe hb13 (by rw [hft]; exact Own.fld hnm.out (o3.out.base (show wi.heap.size ≤ S9.drew.heap.size by show _ ≤ S9.heap.size; omega))) p3.out rfl _ hgrow5'
                  (hg5.imp (fun e => e.symm) (fun e => by rw [e, hz4]; rfl)) hown5
              refine ⟨?_, ?_, ?_, ?_, by have := hgr6.size; omega⟩
              · show W6.heap[wq.heap.size]? = _
                rw [hW6]; exact blk_set hrow5.out 3 _
              · rw [hkt.out]
                exact hG5.kept hgr6 (fun q hq => by injection hq with hq; omega)
              · refine ((((hI.out.kids.later hb9.out).later hb93.out).later hb34.out).kept hgrow5 (fun r hr q hq e => ?_)).kept hgr6 (fun r hr q hq e => ?_)
                · have := (hok.out r hr q hq).2
                  have := (hvlt q e).1; omega
                · have := (hok.out r hr q hq).1
                  injection e with e; omega
              · exact (((((hI.out.low.trans (hb9.out.mono (by omega))).trans (hb93.out.mono (by omega))).trans (hb34.out.mono (by omega)))).grown hgrow5 (by omega) (fun q hq => by have := (hvlt q hq).1; omega)).grown hgr6 (by omega) (fun q hq => by injection hq with hq; omega)
            rw [← hW6]
            replace hW6 := Lib.hid hW6
            clear hown5 hgrow5 hg5 hgr6 hown4 hrow5 r3 g3 hvlt
            go_wp2_with fail
            go_roundw
            case rel => exact ⟨j + 1, _, hjlt9.out, by go_num, hI6.out⟩
            case measure => simp [intOf]; have := hjlt9.out; omega
        · obtain rfl : j = an := by omega
          have htk : v.attrs.take j = v.attrs := List.take_of_length_le (by have := hanl.out; omega)
          obtain ⟨hgz, cc9, RR9, hcc9, hown9, _, _⟩ := hI.gr
          obtain ⟨va0, vc0, hva⟩ := shape_of hown9
          have hG9 := hI.gr
          rw [htk] at hG9 hva hown9
          have hflen : (v.attrs.filter keep).length ≤ 1048576 := by
            have := List.length_filter_le keep v.attrs
            have := hanl.out; omega
          obtain ⟨Ra, oA, pA⟩ := Grows.done (by rw [List.length_map]; exact hG9) rfl (by rw [List.length_map]; omega)
          subst hva
          generalize hfl : (v.attrs.filter keep).length = fl at *
          have hON : Hid (Own wi wq.heap.size ownM mkS v.bare.tr [.int .i64 0, .string v.tag, .string v.text, .slice va0 fl vc0, .slice ak kn ck] (Ra ++ Rk)) := by
            have h5 := Own.nd2 (v := v.bare) (q := ⟨va0, fl, vc0, ak, kn, ck⟩) (R1 := Ra) (R2 := Rk) (by rw [Nd.bare_eq]; rfl) (by rw [Nd.bare_eq]; exact hv1.out.k2) (by rw [Nd.bare_eq]; exact hv1.out.k3) (by rw [Nd.bare_eq]; exact oA.base (show wq.heap.size ≤ W1.heap.size by omega)) (by rw [Nd.bare_eq]; exact hI.kids.base (show wq.heap.size ≤ S.heap.size by omega))
            have h6 : (⟨va0, fl, vc0, ak, kn, ck⟩ : NP).cells v.bare = [.int .i64 0, .string v.tag, .string v.text, .slice va0 fl vc0, .slice ak kn ck] := by rw [Nd.bare_eq]; rfl
            rw [h6] at h5
            exact h5
          have hAp : Hid (Apart (Ra ++ Rk)) := Apart.append2 pA pk.out oA.within hok.out
          have hown1 : Hid (wi.ownsRow w.heap.size 53 5 u2 k ((List.range k).flatMap cc)) := hown.out.kept (grown_none hIl) (Classical.em _)
          replace hI := Lib.hid hI
          replace hIl := Lib.hid hIl
          replace hfl := Lib.hid hfl
          clear hown9 hG9 oA pA htk hcc9
          go_wp2_with (at_builtin; refine wpList_append_own_at _ rfl _ _ 22 rfl w.heap.size 53 i9 _ 5 88 Tryz.underlying22 hnI hn0 hn1 hn2 rfl (by decide) _ _ _ rfl (hown1.out.alloc _) ⟨wi.heap.size, 0, none⟩ 1 1 [.int .i64 0, .string v.tag, .string v.text, .slice va0 fl vc0, .slice ak kn ck] rfl rfl (World.news_of_block (cs := #[.int .i64 0, .string v.tag, .string v.text, .slice va0 fl vc0, .slice ak kn ck]) (t := 53) (fr := (0, 0)) (heap_alloc_new wi _)) (by simp [Value.oneCell']) (by unfold maxLen; omega) (by omega) (by simp; omega) ?_)
          intro v' W8 hown8 hgrow8 _ hloc8
          have hG : Hid (Grow w W8 ownM mkS 53 5 es (k + 1) v') := grow_step hb.out hcc.out hown.out helt.out hap.out hke hIl.out (by rw [hgt.out]; exact hON.out) hAp.out rfl _ hgrow8 hloc8 hown8
          clear hown8 hgrow8 hloc8 hown1
          go_wp2_with fail
          go_roundw
          case rel => exact ⟨k + 1, hlt9.out, by go_num, hG.out⟩
          case measure => simp [intOf]; have := hlt9.out; omega
    · obtain rfl : k = n := by omega
      obtain ⟨a0, c0, hu⟩ := shape_of hown
      have hGd : Grows w.heap.size wq ownM mkS 53 5 es k u2 := ⟨hbz, cc, RR, hcc, hown, helt, hap⟩
      subst hu
      have hfin : Hid (ListOwn 53 5 es k w (.returned (.slice a0 k c0)) wq) := by
        obtain ⟨R, oR, pR⟩ := Grows.done (by rw [← hle.out]; exact hGd) rfl (by have := hle.out; omega)
        exact ⟨a0, c0, R, rfl, oR, pR, hb⟩
      replace hb := Lib.hid hb
      clear hown helt hap hcc hGd
      go_wp2_with fail
      go_ret
      exact hfin.out
theorem bare_any (v : Nd) : BareK v.kids := Nd.ind (P := fun v => BareK v.kids) (fun _ _ _ _ K hK => bare_list K hK) v
theorem bareL_any (L : List Nd) : BareK L := bare_list L (fun v _ => bare_any v)
end Go.Proofs.YtehcbicngbibgaaGreatDoor
