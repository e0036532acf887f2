/- The reference's Bare: its nodes are new, its attributes' values are the input's. (By XBr.gen.py.) -/
import Derived.Test.YtehcbicngbibgaaGreatDoorZBa
namespace Go.Proofs.YtehcbicngbibgaaGreatDoor
open Go Go.RowKit

def ListMix (lo E K : Nat) (es : List T) (n : Nat) (w : World) (e : Ending) (w' : World) : Prop := ∃ (a : Option Addr) (c : Nat) (R : List Row), e = .returned (.slice a n c) ∧ Own w' w.heap.size (mixM lo) mkS (.lst E K es) [.slice a n c] R ∧ Apart R ∧ Below w.heap.size w w'
structure Inner2 (wq : World) (lo : Nat) (v : Nd) (j : Nat) (va vk : Value) (wy : World) : Prop where
  row : NRow wy wq.heap.size v va vk
  gr : Grows (wq.heap.size + 1) wy (mixM lo) mkS 61 9 ((v.attrs.filter keep).map Fld.tr) ((v.attrs.take j).filter keep).length va
  low : Below wq.heap.size wq wy
  le : wq.heap.size + 1 ≤ wy.heap.size
def RefK (l : List Nd) : Prop := ∀ (lo : Nat) (a : Option Addr) (n c : Nat) (w : World), lo ≤ w.heap.size → l.length + wts (l.map Nd.tr) ≤ 1048576 → NLs w lo l a n →
  Calls Tryz.prog 8 #[.slice a n c] w fun e w' => ListMix lo 53 5 ((l.map Nd.bare).map Nd.tr) n w e w'
theorem FAt.at {w : World} {B : Nat} {f : Fld} {q : VP} (h : FAt w B f q) : At w B f.tr (q.fcells f) := by
  rw [Fld.tr_eq]
  have := At.cons _ _ [_] _ (.txt _ h.k0) (.cons _ _ _ _ h.val.at .nil)
  simpa [VP.fcells] using this

set_option maxHeartbeats 8000000 in
set_option maxRecDepth 100000 in
theorem ref_list (L : List Nd) (hK : ∀ v ∈ L, RefK v.kids) : RefK L := by
  intro lo a n c w hlo hwt h1
  obtain ⟨i0, hi, hi0, hi1, hi2⟩ := info_parts infoF
  obtain ⟨i9, hnI, hn0, hn1, hn2⟩ := info_parts infoN
  have hl := h1.len.1
  have hll := hl
  rw [List.length_map] at hll
  have hn : n ≤ 1048576 := by omega
  obtain ⟨es, hes⟩ : ∃ es, es = (L.map Nd.bare).map Nd.tr := ⟨_, rfl⟩
  have hle : Hid (n = es.length) := by rw [hes, List.length_map, List.length_map]; exact hll
  rw [← hes]
  have hG0 : Hid (Grow w w (mixM lo) mkS 53 5 es 0 (.slice none 0 0)) := Grow.start (Below.refl _ _) (World.ownsRow_nil _ _ _ _)
  replace h1 := Lib.hid h1
  replace hwt := Lib.hid hwt
  replace hl := Lib.hid hl
  replace hll := Lib.hid hll
  replace hes := Lib.hid hes
  replace hK := Lib.hid hK
  go_enter Tryz.func8, Tryz.ntmps8
  go_wp2_with fail
  go_loopw [3, 4] (fun u i wr => ∃ k : Nat, k ≤ n ∧ i = .int .i64 (k : Nat) ∧ Grow w wr (mixM lo) mkS 53 5 es k u) (fun _ i _ => n - (intOf i).toNat)
  case atStart => exact ⟨0, Nat.zero_le _, rfl, hG0.out⟩
  case round =>
    obtain ⟨k, hk, rfl, hb, hbz, cc, RR, hcc, hown, helt, hap⟩ := hrel
    obtain ⟨wq, hwq⟩ : ∃ wq : World, wq = wr := ⟨_, rfl⟩
    subst hwq
    by_cases hlt : k < n
    · have hlt9 : Hid (k + 1 ≤ n) := hlt
      obtain ⟨b1, o1, v, q1, rfl, hb1, hg1, hc1, hv1⟩ := NLs.elem (h1.out.kept (hb.mono hlo)) k hlt
      obtain ⟨aa, an, ac, ka, kn, kc⟩ := q1
      have hA : FLs wq lo v.attrs aa an := hv1.A
      have hKd : NLs wq lo v.kids ka kn := hv1.K
      have n0 : wq.cell? ⟨b1, o1 + k * 5, none⟩ = some (.int .i64 v.id) := hc1 0 (by omega)
      have n1 : wq.cell? ⟨b1, o1 + k * 5 + 1, none⟩ = some (.string v.tag) := by rw [Nat.add_assoc]; exact hc1 1 (by omega)
      have n2 : wq.cell? ⟨b1, o1 + k * 5 + 2, none⟩ = some (.string v.text) := by rw [Nat.add_assoc]; exact hc1 2 (by omega)
      have n3 : wq.cell? ⟨b1, o1 + k * 5 + 3, none⟩ = some (.slice aa an ac) := by rw [Nat.add_assoc]; exact hc1 3 (by omega)
      have n4 : wq.cell? ⟨b1, o1 + k * 5 + 4, none⟩ = some (.slice ka kn kc) := by rw [Nat.add_assoc]; exact hc1 4 (by omega)
      have hke : k < es.length := by have := hle.out; omega
      have hgt : Hid (es[k] = v.bare.tr) := by
        have : es[k]? = some v.bare.tr := by rw [hes.out, List.getElem?_map, List.getElem?_map, hg1]; rfl
        rw [List.getElem?_eq_getElem hke] at this
        exact Option.some.inj this
      have hvm := List.mem_of_getElem? hg1
      have hwv : v.tr.wt ≤ 1048576 := by
        have := wts_mem (List.mem_map_of_mem (f := Nd.tr) hvm)
        have := hwt.out; omega
      rw [wt_nd] at hwv
      have han : an ≤ 1048576 := by
        have := hA.len.1
        rw [List.length_map] at this; omega
      have hanl : Hid (an = v.attrs.length) := by have := hA.len.1; rw [List.length_map] at this; exact this
      obtain ⟨S, hS⟩ : ∃ S, S = wq.alloc (.cells #[.int .i64 v.id, .string v.tag, .string v.text, .slice aa an ac, .slice ka kn kc] 53) := ⟨_, rfl⟩
      have hbS : Below wq.heap.size wq S := by rw [hS]; exact (Below.refl _ _).alloc (Nat.le_refl _) _
      have hzS : S.heap.size = wq.heap.size + 1 := by rw [hS]; simp
      have hrS : S.heap[wq.heap.size]? = some (.cells #[.int .i64 v.id, .string v.tag, .string v.text, .slice aa an ac, .slice ka kn kc] 53 (0, 0)) := by rw [hS]; exact heap_alloc_new wq _
      have y0 : S.cell? ⟨wq.heap.size, 0, none⟩ = some (.int .i64 v.id) := by simp [World.cell?, hrS]
      have y1 : S.cell? ⟨wq.heap.size, 1, none⟩ = some (.string v.tag) := by simp [World.cell?, hrS]
      have y2 : S.cell? ⟨wq.heap.size, 2, none⟩ = some (.string v.text) := by simp [World.cell?, hrS]
      have y3 : S.cell? ⟨wq.heap.size, 3, none⟩ = some (.slice aa an ac) := by simp [World.cell?, hrS]
      have y4 : S.cell? ⟨wq.heap.size, 4, none⟩ = some (.slice ka kn kc) := by simp [World.cell?, hrS]
      have hfrS : ∀ j, S.frozen? ⟨wq.heap.size, j, none⟩ = false := fun j => by simp [World.frozen?, hrS]
      have f0 := hfrS 0
      have f3 := hfrS 3
      have cK : Hid (∀ W, Below wq.heap.size wq W → Calls Tryz.prog 8 #[.slice ka kn kc] W fun e w' => ListMix lo 53 5 ((v.kids.map Nd.bare).map Nd.tr) kn W e w') := fun W hW =>
        hK.out v hvm lo ka kn kc W (by have := hW.size; omega) (by omega) (hKd.kept (hW.mono (by omega)))
      obtain ⟨W2, hW2⟩ : ∃ W2, W2 = ((S.setCell ⟨wq.heap.size, 0, none⟩ (.int .i64 0)).setCell ⟨wq.heap.size, 3, none⟩ (.slice none 0 0)) := ⟨_, rfl⟩
      have hgr2 : S.grownBy W2 (some wq.heap.size) := by rw [hW2]; exact grown_again (cell_grown _ wq.heap.size _ _) (cell_grown _ wq.heap.size _ _)
      have hz2 : W2.heap.size = S.heap.size := by rw [hW2]; simp
      have hI0 : Hid (Inner2 wq lo v 0 (.slice none 0 0) (.slice ka kn kc) W2) := by
        refine ⟨?_, Grows.start (by omega) (World.ownsRow_nil _ _ _ _), hbS.grown hgr2 (by omega) (fun q hq => by injection hq with hq; omega), by omega⟩
        show W2.heap[wq.heap.size]? = _
        rw [hW2]; exact blk_set (blk_set hrS 0 (.int .i64 0)) 3 (.slice none 0 0)
      replace hS := Lib.hid hS
      replace hW2 := Lib.hid hW2
      replace hbS := Lib.hid hbS
      replace hb := Lib.hid hb
      replace hcc := Lib.hid hcc
      replace hown := Lib.hid hown
      replace helt := Lib.hid helt
      replace hap := Lib.hid hap
      replace hv1 := Lib.hid hv1
      replace hA := Lib.hid hA
      clear hc1 hg1 hwv hvm hrS hfrS hgr2 hKd
      go_wp2_with (first | (rw [← hS.out]) | fail)
      rw [← hW2.out]
      clear y0 y1 y2 y3 y4 f0 f3
      go_wp2_with fail
      go_loopw [6] (fun i wy => ∃ (j : Nat) (va : Value), j ≤ an ∧ i = .int .i64 (j : Nat) ∧ Inner2 wq lo v j va (.slice ka kn kc) wy) (fun i _ => an - (intOf i).toNat)
      case atStart => exact ⟨0, _, Nat.zero_le _, rfl, hI0.out⟩
      case round =>
        obtain ⟨j, va, hj, rfl, hI⟩ := hrel
        obtain ⟨wi, hwi⟩ : ∃ wi : World, wi = wr := ⟨_, rfl⟩
        subst hwi
        have hIl := hI.low
        have hIe := hI.le
        have hIz := hIl.size
        obtain ⟨r0, r1, r2, r3, r4⟩ := hI.row.cells
        have g3 := hI.row.fr 3
        have g4 := hI.row.fr 4
        have hb1q : b1 < wq.heap.size := by omega
        have m3 := (hIl.cell (p := ⟨b1, o1 + k * 5 + 3, none⟩) hb1q).trans n3
        have m4 := (hIl.cell (p := ⟨b1, o1 + k * 5 + 4, none⟩) hb1q).trans n4
        by_cases hjlt : j < an
        · have hjlt9 : Hid (j + 1 ≤ an) := hjlt
          obtain ⟨b2, o2, f, q2, rfl, hb2, hg2, hc2, hv2⟩ := FLs.elem (hA.out.kept (hIl.mono (by omega))) j hjlt
          obtain ⟨κ, hκ⟩ : ∃ κ, f.value.kind = κ := ⟨_, rfl⟩
          have hc2' : ∀ i, i < 9 → wi.cell? ⟨b2, o2 + (j * 9 + i), none⟩ = ([.string f.name, .int .u8 κ, .int .i64 f.value.n, .string f.value.s, .slice q2.la q2.ln q2.lc, .slice q2.fa q2.fn q2.fc, .int .u8 f.value.elem, .string f.value.key, .bool f.value.hk] : List Value)[i]? := by rw [← hκ]; exact hc2
          have x0 : wi.cell? ⟨b2, o2 + j * 9, none⟩ = some (.string f.name) := hc2' 0 (by omega)
          have x1 : wi.cell? ⟨b2, o2 + j * 9 + 1, none⟩ = some (.int .u8 κ) := by rw [Nat.add_assoc]; exact hc2' 1 (by omega)
          have x2 : wi.cell? ⟨b2, o2 + j * 9 + 2, none⟩ = some (.int .i64 f.value.n) := by rw [Nat.add_assoc]; exact hc2' 2 (by omega)
          have x3 : wi.cell? ⟨b2, o2 + j * 9 + 3, none⟩ = some (.string f.value.s) := by rw [Nat.add_assoc]; exact hc2' 3 (by omega)
          have x4 : wi.cell? ⟨b2, o2 + j * 9 + 4, none⟩ = some (.slice q2.la q2.ln q2.lc) := by rw [Nat.add_assoc]; exact hc2' 4 (by omega)
          have x5 : wi.cell? ⟨b2, o2 + j * 9 + 5, none⟩ = some (.slice q2.fa q2.fn q2.fc) := by rw [Nat.add_assoc]; exact hc2' 5 (by omega)
          have x6 : wi.cell? ⟨b2, o2 + j * 9 + 6, none⟩ = some (.int .u8 f.value.elem) := by rw [Nat.add_assoc]; exact hc2' 6 (by omega)
          have x7 : wi.cell? ⟨b2, o2 + j * 9 + 7, none⟩ = some (.string f.value.key) := by rw [Nat.add_assoc]; exact hc2' 7 (by omega)
          have x8 : wi.cell? ⟨b2, o2 + j * 9 + 8, none⟩ = some (.bool f.value.hk) := by rw [Nat.add_assoc]; exact hc2' 8 (by omega)
          have hAt : Hid (At wi lo f.tr [.string f.name, .int .u8 κ, .int .i64 f.value.n, .string f.value.s, .slice q2.la q2.ln q2.lc, .slice q2.fa q2.fn q2.fc, .int .u8 f.value.elem, .string f.value.key, .bool f.value.hk]) := by
            have h5 := hv2.at
            unfold VP.fcells VP.cells at h5
            rw [hκ] at h5; exact h5
          have hkt := kept_take hg2
          clear hc2 hc2' hv2
          by_cases hkd : κ = 7
          · have hkf : keep f = false := by unfold keep; rw [hκ, hkd]; rfl
            subst hkd
            replace hκ := Lib.hid hκ
            rw [hkf] at hkt
            have hI2 : Hid (Inner2 wq lo v (j + 1) va (.slice ka kn kc) wi) := ⟨hI.row, by rw [hkt]; exact hI.gr, hI.low, hI.le⟩
            replace hI := Lib.hid hI
            replace hg2 := Lib.hid hg2
            clear hkt
            go_wp2_with fail
            go_roundw
            case rel => exact ⟨j + 1, va, hjlt9.out, by go_num, hI2.out⟩
            case measure => simp [intOf]; have := hjlt9.out; omega
          · have hkf : keep f = true := by unfold keep; rw [hκ]; simpa using hkd
            replace hκ := Lib.hid hκ
            rw [hkf] at hkt
            have hfs : Hid (((v.attrs.filter keep).map Fld.tr)[((v.attrs.take j).filter keep).length]? = some f.tr) := by
              show _ = _
              rw [List.getElem?_map, kept_get hg2 hkf]; rfl
            replace hg2 := Lib.hid hg2
            obtain ⟨hgz, cc9, RR9, hcc9, hown9, helt9, hap9⟩ := hI.gr
            obtain ⟨p, hp⟩ : ∃ p, p = ((v.attrs.take j).filter keep).length := ⟨_, rfl⟩
            have hple : p ≤ 1048576 := by
              have h5 : ((v.attrs.take j).filter keep).length ≤ (v.attrs.take j).length := List.length_filter_le _ _
              rw [List.length_take] at h5; omega
            rw [← hp] at hcc9 hown9 helt9 hap9 hfs hkt
            replace hp := Lib.hid hp
            have hq0 : (fun U : World => U.cell? ⟨wq.heap.size, 3, none⟩ = some va ∧ U.cell? ⟨b1, o1 + k * 5 + 3, none⟩ = some (.slice (some ⟨b2, o2, none⟩) an ac) ∧ U.cell? ⟨b2, o2 + j * 9, none⟩ = some (.string f.name) ∧ U.cell? ⟨b2, o2 + j * 9 + 1, none⟩ = some (.int .u8 κ) ∧ U.cell? ⟨b2, o2 + j * 9 + 2, none⟩ = some (.int .i64 f.value.n) ∧ U.cell? ⟨b2, o2 + j * 9 + 3, none⟩ = some (.string f.value.s) ∧ U.cell? ⟨b2, o2 + j * 9 + 4, none⟩ = some (.slice q2.la q2.ln q2.lc) ∧ U.cell? ⟨b2, o2 + j * 9 + 5, none⟩ = some (.slice q2.fa q2.fn q2.fc) ∧ U.cell? ⟨b2, o2 + j * 9 + 6, none⟩ = some (.int .u8 f.value.elem) ∧ U.cell? ⟨b2, o2 + j * 9 + 7, none⟩ = some (.string f.value.key) ∧ U.cell? ⟨b2, o2 + j * 9 + 8, none⟩ = some (.bool f.value.hk)) wi.drew := ⟨r3, m3, x0, x1, x2, x3, x4, x5, x6, x7, x8⟩
            have hvlt := Lib.hid hown9.lt
            replace hcc9 := Lib.hid hcc9
            replace hown9 := Lib.hid hown9
            replace helt9 := Lib.hid helt9
            replace hap9 := Lib.hid hap9
            replace hkt := Lib.hid hkt
            replace hI := Lib.hid hI
            replace hIl := Lib.hid hIl
            go_wp2_with fail
            refine region_but (fun U : World => U.cell? ⟨wq.heap.size, 3, none⟩ = some va ∧ U.cell? ⟨b1, o1 + k * 5 + 3, none⟩ = some (.slice (some ⟨b2, o2, none⟩) an ac) ∧ U.cell? ⟨b2, o2 + j * 9, none⟩ = some (.string f.name) ∧ U.cell? ⟨b2, o2 + j * 9 + 1, none⟩ = some (.int .u8 κ) ∧ U.cell? ⟨b2, o2 + j * 9 + 2, none⟩ = some (.int .i64 f.value.n) ∧ U.cell? ⟨b2, o2 + j * 9 + 3, none⟩ = some (.string f.value.s) ∧ U.cell? ⟨b2, o2 + j * 9 + 4, none⟩ = some (.slice q2.la q2.ln q2.lc) ∧ U.cell? ⟨b2, o2 + j * 9 + 5, none⟩ = some (.slice q2.fa q2.fn q2.fc) ∧ U.cell? ⟨b2, o2 + j * 9 + 6, none⟩ = some (.int .u8 f.value.elem) ∧ U.cell? ⟨b2, o2 + j * 9 + 7, none⟩ = some (.string f.value.key) ∧ U.cell? ⟨b2, o2 + j * 9 + 8, none⟩ = some (.bool f.value.hk)) 13 (by kernel_rfl) ?_
            clear r0 r1 r2 r4 m4
            refine AnyBut.take 0 (d := some 40) (v := ?_) rfl rfl (by kernel_rfl) (by decide) (by kernel_rfl) (by kernel_rfl) (by kernel_rfl) (fun _ _ _ h => h) (by rfl) (by assumption) ?_ ?_
            rotate_left
            · intro U hU; obtain ⟨y0, y1, y2, y3, y4, y5, y6, y7, y8, y9, y10⟩ := hU; go_simp <;> with_reducible rfl
            try simp only [Act.put, List.setIfInBounds_toArray, List.set_cons_zero, List.set_cons_succ]
            refine AnyBut.take 1 (d := some 41) (v := ?_) rfl rfl (by kernel_rfl) (by decide) (by kernel_rfl) (by kernel_rfl) (by kernel_rfl) (fun _ _ _ h => h) (by rfl) (by assumption) ?_ ?_
            rotate_left
            · intro U hU; obtain ⟨y0, y1, y2, y3, y4, y5, y6, y7, y8, y9, y10⟩ := hU; go_simp <;> with_reducible rfl
            try simp only [Act.put, List.setIfInBounds_toArray, List.set_cons_zero, List.set_cons_succ]
            refine AnyBut.take 2 (d := some 42) (v := ?_) rfl rfl (by kernel_rfl) (by decide) (by kernel_rfl) (by kernel_rfl) (by kernel_rfl) (fun _ _ _ h => h) (by rfl) (by assumption) ?_ ?_
            rotate_left
            · intro U hU; obtain ⟨y0, y1, y2, y3, y4, y5, y6, y7, y8, y9, y10⟩ := hU; go_simp <;> with_reducible rfl
            try simp only [Act.put, List.setIfInBounds_toArray, List.set_cons_zero, List.set_cons_succ]
            refine AnyBut.take 3 (d := some 43) (v := ?_) rfl rfl (by kernel_rfl) (by decide) (by kernel_rfl) (by kernel_rfl) (by kernel_rfl) (fun _ _ _ h => h) (by rfl) (by assumption) ?_ ?_
            rotate_left
            · intro U hU; obtain ⟨y0, y1, y2, y3, y4, y5, y6, y7, y8, y9, y10⟩ := hU; go_simp <;> with_reducible rfl
            try simp only [Act.put, List.setIfInBounds_toArray, List.set_cons_zero, List.set_cons_succ]
            refine AnyBut.take 4 (d := some 44) (v := ?_) rfl rfl (by kernel_rfl) (by decide) (by kernel_rfl) (by kernel_rfl) (by kernel_rfl) (fun _ _ _ h => h) (by rfl) (by assumption) ?_ ?_
            rotate_left
            · intro U hU; obtain ⟨y0, y1, y2, y3, y4, y5, y6, y7, y8, y9, y10⟩ := hU; go_simp <;> with_reducible rfl
            try simp only [Act.put, List.setIfInBounds_toArray, List.set_cons_zero, List.set_cons_succ]
            refine AnyBut.take 5 (d := some 45) (v := ?_) rfl rfl (by kernel_rfl) (by decide) (by kernel_rfl) (by kernel_rfl) (by kernel_rfl) (fun _ _ _ h => h) (by rfl) (by assumption) ?_ ?_
            rotate_left
            · intro U hU; obtain ⟨y0, y1, y2, y3, y4, y5, y6, y7, y8, y9, y10⟩ := hU; go_simp <;> with_reducible rfl
            try simp only [Act.put, List.setIfInBounds_toArray, List.set_cons_zero, List.set_cons_succ]
            refine AnyBut.take 6 (d := some 46) (v := ?_) rfl rfl (by kernel_rfl) (by decide) (by kernel_rfl) (by kernel_rfl) (by kernel_rfl) (fun _ _ _ h => h) (by rfl) (by assumption) ?_ ?_
            rotate_left
            · intro U hU; obtain ⟨y0, y1, y2, y3, y4, y5, y6, y7, y8, y9, y10⟩ := hU; go_simp <;> with_reducible rfl
            try simp only [Act.put, List.setIfInBounds_toArray, List.set_cons_zero, List.set_cons_succ]
            refine AnyBut.take 7 (d := some 47) (v := ?_) rfl rfl (by kernel_rfl) (by decide) (by kernel_rfl) (by kernel_rfl) (by kernel_rfl) (fun _ _ _ h => h) (by rfl) (by assumption) ?_ ?_
            rotate_left
            · intro U hU; obtain ⟨y0, y1, y2, y3, y4, y5, y6, y7, y8, y9, y10⟩ := hU; go_simp <;> with_reducible rfl
            try simp only [Act.put, List.setIfInBounds_toArray, List.set_cons_zero, List.set_cons_succ]
            refine AnyBut.take 8 (d := some 48) (v := ?_) rfl rfl (by kernel_rfl) (by decide) (by kernel_rfl) (by kernel_rfl) (by kernel_rfl) (fun _ _ _ h => h) (by rfl) (by assumption) ?_ ?_
            rotate_left
            · intro U hU; obtain ⟨y0, y1, y2, y3, y4, y5, y6, y7, y8, y9, y10⟩ := hU; go_simp <;> with_reducible rfl
            try simp only [Act.put, List.setIfInBounds_toArray, List.set_cons_zero, List.set_cons_succ]
            refine AnyBut.take 9 (d := some 49) (v := ?_) rfl rfl (by kernel_rfl) (by decide) (by kernel_rfl) (by kernel_rfl) (by kernel_rfl) (fun _ _ _ h => h) (by rfl) (by assumption) ?_ ?_
            rotate_left
            · intro U hU; obtain ⟨y0, y1, y2, y3, y4, y5, y6, y7, y8, y9, y10⟩ := hU; go_simp <;> with_reducible rfl
            try simp only [Act.put, List.setIfInBounds_toArray, List.set_cons_zero, List.set_cons_succ]
            obtain ⟨W4, hW4⟩ : ∃ W4, W4 = (wi.alloc (.cells #[.string f.name, .int .u8 κ, .int .i64 f.value.n, .string f.value.s, .slice q2.la q2.ln q2.lc, .slice q2.fa q2.fn q2.fc, .int .u8 f.value.elem, .string f.value.key, .bool f.value.hk] 61)).drew := ⟨_, rfl⟩
            have hb34 : Below wi.heap.size wi W4 := by rw [hW4]; exact ((Below.refl _ _).alloc (Nat.le_refl _) _).drew
            have hz4 : W4.heap.size = wi.heap.size + 1 := by rw [hW4]; simp
            have hnew : Hid (∀ j u, ([.string f.name, .int .u8 κ, .int .i64 f.value.n, .string f.value.s, .slice q2.la q2.ln q2.lc, .slice q2.fa q2.fn q2.fc, .int .u8 f.value.elem, .string f.value.key, .bool f.value.hk] : List Value)[j]? = some u → W4.cell? ((⟨wi.heap.size, 0, none⟩ : Addr).add j) = some u) := by
              show ∀ j u, _
              rw [hW4]; exact World.news_of_block (cs := #[.string f.name, .int .u8 κ, .int .i64 f.value.n, .string f.value.s, .slice q2.la q2.ln q2.lc, .slice q2.fa q2.fn q2.fc, .int .u8 f.value.elem, .string f.value.key, .bool f.value.hk]) (t := 61) (fr := (0, 0)) (heap_alloc_new wi _)
            replace r3 := (hb34.cell (p := ⟨wq.heap.size, 3, none⟩) (by show wq.heap.size < _; omega)).trans r3
            replace m3 := (hb34.cell (p := ⟨b1, o1 + k * 5 + 3, none⟩) (by show b1 < _; omega)).trans m3
            replace x0 := (hb34.cell (p := ⟨b2, o2 + j * 9, none⟩) (by show b2 < _; omega)).trans x0
            replace x1 := (hb34.cell (p := ⟨b2, o2 + j * 9 + 1, none⟩) (by show b2 < _; omega)).trans x1
            replace x2 := (hb34.cell (p := ⟨b2, o2 + j * 9 + 2, none⟩) (by show b2 < _; omega)).trans x2
            replace x3 := (hb34.cell (p := ⟨b2, o2 + j * 9 + 3, none⟩) (by show b2 < _; omega)).trans x3
            replace x4 := (hb34.cell (p := ⟨b2, o2 + j * 9 + 4, none⟩) (by show b2 < _; omega)).trans x4
            replace x5 := (hb34.cell (p := ⟨b2, o2 + j * 9 + 5, none⟩) (by show b2 < _; omega)).trans x5
            replace x6 := (hb34.cell (p := ⟨b2, o2 + j * 9 + 6, none⟩) (by show b2 < _; omega)).trans x6
            replace x7 := (hb34.cell (p := ⟨b2, o2 + j * 9 + 7, none⟩) (by show b2 < _; omega)).trans x7
            replace x8 := (hb34.cell (p := ⟨b2, o2 + j * 9 + 8, none⟩) (by show b2 < _; omega)).trans x8
            have hown4 : Hid (W4.ownsRow (wq.heap.size + 1) 61 9 va p ((List.range p).flatMap cc9)) := hown9.out.kept (grown_none hb34) (Classical.em _)
            replace hW4 := Lib.hid hW4
            replace hb34 := Lib.hid hb34
            refine AnyBut.one 10 rfl (by kernel_rfl) (fun K hK => ?_)
            go_simp
            rw [← hW4.out]
            refine hK.out _ _ (fun _ => (⟨r3, m3, x0, x1, x2, x3, x4, x5, x6, x7, x8⟩ : (fun U : World => U.cell? ⟨wq.heap.size, 3, none⟩ = some va ∧ U.cell? ⟨b1, o1 + k * 5 + 3, none⟩ = some (.slice (some ⟨b2, o2, none⟩) an ac) ∧ U.cell? ⟨b2, o2 + j * 9, none⟩ = some (.string f.name) ∧ U.cell? ⟨b2, o2 + j * 9 + 1, none⟩ = some (.int .u8 κ) ∧ U.cell? ⟨b2, o2 + j * 9 + 2, none⟩ = some (.int .i64 f.value.n) ∧ U.cell? ⟨b2, o2 + j * 9 + 3, none⟩ = some (.string f.value.s) ∧ U.cell? ⟨b2, o2 + j * 9 + 4, none⟩ = some (.slice q2.la q2.ln q2.lc) ∧ U.cell? ⟨b2, o2 + j * 9 + 5, none⟩ = some (.slice q2.fa q2.fn q2.fc) ∧ U.cell? ⟨b2, o2 + j * 9 + 6, none⟩ = some (.int .u8 f.value.elem) ∧ U.cell? ⟨b2, o2 + j * 9 + 7, none⟩ = some (.string f.value.key) ∧ U.cell? ⟨b2, o2 + j * 9 + 8, none⟩ = some (.bool f.value.hk)) W4)) ?_
            clear hK K hq0
            try simp only [Act.put, List.setIfInBounds_toArray, List.set_cons_zero, List.set_cons_succ]
            refine AnyBut.one 11 rfl (by kernel_rfl) (fun K hK => ?_)
            refine step_append_row (by rfl) _ _ 51 (by rfl) (wq.heap.size + 1) 61 i0 _ 9 128 Tryz.underlying51 hi hi0 hi1 hi2 rfl (by decide) va p _ (by rfl) hown4.out ⟨wi.heap.size, 0, none⟩ 1 1 [.string f.name, .int .u8 κ, .int .i64 f.value.n, .string f.value.s, .slice q2.la q2.ln q2.lc, .slice q2.fa q2.fn q2.fc, .int .u8 f.value.elem, .string f.value.key, .bool f.value.hk] (by rfl) rfl hnew.out (by simp [Value.oneCell']) (by unfold maxLen; omega) (by omega) (by omega) (by omega) ?_
            intro g5 c5 W5 hown5 hgrow5 hg5
            have hz5 := hgrow5.size
            replace r3 := (cell_grown2 hgrow5 (show wq.heap.size < W4.heap.size by omega) (fun q hq e => by have := hvlt.out q hq; omega)).trans r3
            replace m3 := (cell_grown2 hgrow5 (show b1 < W4.heap.size by omega) (fun q hq e => by have := hvlt.out q hq; omega)).trans m3
            replace x0 := (cell_grown2 hgrow5 (show b2 < W4.heap.size by omega) (fun q hq e => by have := hvlt.out q hq; omega)).trans x0
            replace x1 := (cell_grown2 hgrow5 (show b2 < W4.heap.size by omega) (fun q hq e => by have := hvlt.out q hq; omega)).trans x1
            replace x2 := (cell_grown2 hgrow5 (show b2 < W4.heap.size by omega) (fun q hq e => by have := hvlt.out q hq; omega)).trans x2
            replace x3 := (cell_grown2 hgrow5 (show b2 < W4.heap.size by omega) (fun q hq e => by have := hvlt.out q hq; omega)).trans x3
            replace x4 := (cell_grown2 hgrow5 (show b2 < W4.heap.size by omega) (fun q hq e => by have := hvlt.out q hq; omega)).trans x4
            replace x5 := (cell_grown2 hgrow5 (show b2 < W4.heap.size by omega) (fun q hq e => by have := hvlt.out q hq; omega)).trans x5
            replace x6 := (cell_grown2 hgrow5 (show b2 < W4.heap.size by omega) (fun q hq e => by have := hvlt.out q hq; omega)).trans x6
            replace x7 := (cell_grown2 hgrow5 (show b2 < W4.heap.size by omega) (fun q hq e => by have := hvlt.out q hq; omega)).trans x7
            replace x8 := (cell_grown2 hgrow5 (show b2 < W4.heap.size by omega) (fun q hq e => by have := hvlt.out q hq; omega)).trans x8
            have hrow5 : NRow W5 wq.heap.size v va (.slice ka kn kc) := (hgrow5.block wq.heap.size (by omega) (fun e => by have := (hvlt.out _ e.symm).1; omega)).trans ((hb34.out.block _ (by omega)).trans hI.out.row)
            replace g3 := hrow5.fr 3
            replace hrow5 := Lib.hid hrow5
            refine hK.out _ _ (fun _ => (⟨r3, m3, x0, x1, x2, x3, x4, x5, x6, x7, x8⟩ : (fun U : World => U.cell? ⟨wq.heap.size, 3, none⟩ = some va ∧ U.cell? ⟨b1, o1 + k * 5 + 3, none⟩ = some (.slice (some ⟨b2, o2, none⟩) an ac) ∧ U.cell? ⟨b2, o2 + j * 9, none⟩ = some (.string f.name) ∧ U.cell? ⟨b2, o2 + j * 9 + 1, none⟩ = some (.int .u8 κ) ∧ U.cell? ⟨b2, o2 + j * 9 + 2, none⟩ = some (.int .i64 f.value.n) ∧ U.cell? ⟨b2, o2 + j * 9 + 3, none⟩ = some (.string f.value.s) ∧ U.cell? ⟨b2, o2 + j * 9 + 4, none⟩ = some (.slice q2.la q2.ln q2.lc) ∧ U.cell? ⟨b2, o2 + j * 9 + 5, none⟩ = some (.slice q2.fa q2.fn q2.fc) ∧ U.cell? ⟨b2, o2 + j * 9 + 6, none⟩ = some (.int .u8 f.value.elem) ∧ U.cell? ⟨b2, o2 + j * 9 + 7, none⟩ = some (.string f.value.key) ∧ U.cell? ⟨b2, o2 + j * 9 + 8, none⟩ = some (.bool f.value.hk)) W5)) ?_
            clear hK K
            try simp only [Act.put, List.setIfInBounds_toArray, List.set_cons_zero, List.set_cons_succ]
            have hq0 : (fun U : World => U.cell? ⟨wq.heap.size, 3, none⟩ = some va ∧ U.cell? ⟨b1, o1 + k * 5 + 3, none⟩ = some (.slice (some ⟨b2, o2, none⟩) an ac) ∧ U.cell? ⟨b2, o2 + j * 9, none⟩ = some (.string f.name) ∧ U.cell? ⟨b2, o2 + j * 9 + 1, none⟩ = some (.int .u8 κ) ∧ U.cell? ⟨b2, o2 + j * 9 + 2, none⟩ = some (.int .i64 f.value.n) ∧ U.cell? ⟨b2, o2 + j * 9 + 3, none⟩ = some (.string f.value.s) ∧ U.cell? ⟨b2, o2 + j * 9 + 4, none⟩ = some (.slice q2.la q2.ln q2.lc) ∧ U.cell? ⟨b2, o2 + j * 9 + 5, none⟩ = some (.slice q2.fa q2.fn q2.fc) ∧ U.cell? ⟨b2, o2 + j * 9 + 6, none⟩ = some (.int .u8 f.value.elem) ∧ U.cell? ⟨b2, o2 + j * 9 + 7, none⟩ = some (.string f.value.key) ∧ U.cell? ⟨b2, o2 + j * 9 + 8, none⟩ = some (.bool f.value.hk)) W5 := ⟨r3, m3, x0, x1, x2, x3, x4, x5, x6, x7, x8⟩
            refine AnyBut.take 12 (d := some 52) (v := ?_) rfl rfl (by kernel_rfl) (by decide) (by kernel_rfl) (by kernel_rfl) (by kernel_rfl) (fun _ _ _ h => h) (by rfl) (by assumption) ?_ ?_
            rotate_left
            · intro U hU; obtain ⟨y0, y1, y2, y3, y4, y5, y6, y7, y8, y9, y10⟩ := hU; go_simp <;> with_reducible rfl
            try simp only [Act.put, List.setIfInBounds_toArray, List.set_cons_zero, List.set_cons_succ]
            clear hq0 m3 x0 x1 x2 x3 x4 x5 x6 x7 x8
            refine AnyBut.one 13 rfl (by kernel_rfl) (fun K hK => ?_)
            go_simp
            refine hK.out _ _ (fun h => absurd rfl h) ?_
            clear hK K
            refine AnyBut.done (by kernel_rfl) ?_
            obtain ⟨W6, hW6⟩ : ∃ W6, W6 = W5.setCell ⟨wq.heap.size, 3, none⟩ (.slice (some ⟨g5, 0, none⟩) (p + 1) c5) := ⟨_, rfl⟩
            have hgr6 : W5.grownBy W6 (some wq.heap.size) := by rw [hW6]; exact cell_grown _ _ _ _
            have hI6 : Hid (Inner2 wq lo v (j + 1) (.slice (some ⟨g5, 0, none⟩) (p + 1) c5) (.slice ka kn kc) W6) := by
              have hpe : p < ((v.attrs.filter keep).map Fld.tr).length := by
                rcases Nat.lt_or_ge p ((v.attrs.filter keep).map Fld.tr).length with h | h
                · exact h
                · have h5 := hfs.out
                  rw [List.getElem?_eq_none h] at h5; cases h5
              have hft : ((v.attrs.filter keep).map Fld.tr)[p] = f.tr := by
                have h5 := hfs.out
                rw [List.getElem?_eq_getElem hpe] at h5
                exact Option.some.inj h5
              have hgrow5' : (wi.drew.alloc (.cells #[.string f.name, .int .u8 κ, .int .i64 f.value.n, .string f.value.s, .slice q2.la q2.ln q2.lc, .slice q2.fa q2.fn q2.fc, .int .u8 f.value.elem, .string f.value.key, .bool f.value.hk] 61)).grownBy W5 va.ownBlock := by
                have h5 := hgrow5
                rw [hW4.out] at h5; exact h5
              have hG5 : Grows (wq.heap.size + 1) W5 (mixM lo) mkS 61 9 ((v.attrs.filter keep).map Fld.tr) (p + 1) (.slice (some ⟨g5, 0, none⟩) (p + 1) c5) :=
                grows_step (w1 := wi.drew) hgz hcc9.out hown9.out helt9.out hap9.out hpe (drew_low wi) (by rw [hft]; exact .old _ _ lo (by show lo ≤ wi.heap.size; omega) rfl (hAt.out.kept (drew_low wi |>.mono (by omega)))) Apart.nil rfl _ hgrow5'
                  (hg5.imp (fun e => e.symm) (fun e => by rw [e, hz4]; rfl)) hown5 (fun l h => by injection h with h; omega)
              refine ⟨?_, ?_, ?_, by have := hgr6.size; omega⟩
              · show W6.heap[wq.heap.size]? = _
                rw [hW6]; exact blk_set hrow5.out 3 _
              · rw [hkt.out]
                exact hG5.kept hgr6 (fun q hq => by injection hq with hq; omega) (fun l h q hq => by injection h with h; injection hq with hq; omega)
              · exact ((hIl.out.trans (hb34.out.mono (by omega))).grown hgrow5 (by omega) (fun q hq => by have := (hvlt.out q hq).1; omega)).grown hgr6 (by omega) (fun q hq => by injection hq with hq; omega)
            rw [← hW6]
            replace hW6 := Lib.hid hW6
            clear hown5 hgrow5 hg5 hgr6 hown4 hrow5 r3 g3 g4
            go_wp2_with fail
            go_roundw
            case rel => exact ⟨j + 1, _, hjlt9.out, by go_num, hI6.out⟩
            case measure => simp [intOf]; have := hjlt9.out; omega
        · obtain rfl : j = an := by omega
          have htk : v.attrs.take j = v.attrs := List.take_of_length_le (by have := hanl.out; omega)
          obtain ⟨hgz, cc9, RR9, hcc9, hown9, _, _⟩ := hI.gr
          obtain ⟨va0, vc0, hva⟩ := shape_of hown9
          have hG9 := hI.gr
          rw [htk] at hG9 hva hown9
          have hflen : (v.attrs.filter keep).length ≤ 1048576 := by
            have := List.length_filter_le keep v.attrs
            have := hanl.out; omega
          obtain ⟨Ra, oA, pA⟩ := Grows.done (by rw [List.length_map]; exact hG9) rfl (by rw [List.length_map]; omega)
          subst hva
          generalize hfl : (v.attrs.filter keep).length = fl at *
          have cK2 := Lib.hid (cK.out wi hIl)
          replace hI := Lib.hid hI
          replace hIl := Lib.hid hIl
          replace hfl := Lib.hid hfl
          replace oA := Lib.hid oA
          replace pA := Lib.hid pA
          clear hown9 hG9 htk hcc9
          go_wp2_with (go_at_call 8; refine cK2.out.mono ?_)
          rintro e W7 ⟨ak, ck, Rk, rfl, ok, pk, bk⟩
          have hz7 := bk.size
          have hr7 : NRow W7 wq.heap.size v (.slice va0 fl vc0) (.slice ka kn kc) := (bk.block _ (by omega)).trans hI.out.row
          obtain ⟨s0, s1, s2, s3, s4⟩ := hr7.cells
          replace g4 := hr7.fr 4
          obtain ⟨W8, hW8⟩ : ∃ W8, W8 = W7.setCell ⟨wq.heap.size, 4, none⟩ (.slice ak kn ck) := ⟨_, rfl⟩
          have hgr8 : W7.grownBy W8 (some wq.heap.size) := by rw [hW8]; exact cell_grown _ _ _ _
          have hz8 := hgr8.size
          have hr8 : NRow W8 wq.heap.size v (.slice va0 fl vc0) (.slice ak kn ck) := by
            show W8.heap[wq.heap.size]? = _
            rw [hW8]; exact blk_set hr7 4 _
          have hb8 : Hid (Below wq.heap.size wq W8) := (hIl.out.trans (bk.mono (by omega))).grown hgr8 (by omega) (fun q hq => by injection hq with hq; omega)
          have hON : Hid (Own W8 wq.heap.size (mixM lo) mkS v.bare.tr [.int .i64 0, .string v.tag, .string v.text, .slice va0 fl vc0, .slice ak kn ck] (Ra ++ Rk)) := by
            have e1 := ((oA.out.later bk).kept hgr8 (fun r hr q hq e => by have := (oA.out.within r hr q hq).1; injection e with e; omega) (fun l h q hq => by injection h with h; injection hq with hq; omega)).base (show wq.heap.size ≤ wq.heap.size + 1 by omega)
            have e2 := (ok.kept hgr8 (fun r hr q hq e => by have := (ok.within r hr q hq).1; injection e with e; omega) (fun l h q hq => by injection h with h; injection hq with hq; omega)).base (show wq.heap.size ≤ wi.heap.size by omega)
            have h5 := Own.nd2 (v := v.bare) (q := ⟨va0, fl, vc0, ak, kn, ck⟩) (R1 := Ra) (R2 := Rk) (by rw [Nd.bare_eq]; rfl) (by rw [Nd.bare_eq]; exact hv1.out.k2) (by rw [Nd.bare_eq]; exact hv1.out.k3) (by rw [Nd.bare_eq]; exact e1) (by rw [Nd.bare_eq]; exact e2)
            have h6 : (⟨va0, fl, vc0, ak, kn, ck⟩ : NP).cells v.bare = [.int .i64 0, .string v.tag, .string v.text, .slice va0 fl vc0, .slice ak kn ck] := by rw [Nd.bare_eq]; rfl
            rw [h6] at h5
            exact h5
          have hAp : Hid (Apart (Ra ++ Rk)) := pA.out.append pk oA.out.within ok.within
          have hown1 : Hid (W8.ownsRow w.heap.size 53 5 u3 k ((List.range k).flatMap cc)) := hown.out.kept (grown_none hb8.out) (Classical.em _)
          obtain ⟨t0, t1, t2, t3, t4⟩ := hr8.cells
          replace hr7 := Lib.hid hr7
          replace hr8 := Lib.hid hr8
          replace hW8 := Lib.hid hW8
          clear ok pk bk hgr8 cK2 r0 r1 r2 r3 r4 g3 m3 m4 n0 n1 n2 n3 n4
          go_wp2_with (first | (rw [← hW8.out]) | (at_builtin; refine wpList_append_own_at _ rfl _ _ 22 rfl w.heap.size 53 i9 _ 5 88 Tryz.underlying22 hnI hn0 hn1 hn2 rfl (by decide) _ _ _ rfl (hown1.out.alloc _) ⟨W8.heap.size, 0, none⟩ 1 1 [.int .i64 0, .string v.tag, .string v.text, .slice va0 fl vc0, .slice ak kn ck] rfl rfl (World.news_of_block (cs := #[.int .i64 0, .string v.tag, .string v.text, .slice va0 fl vc0, .slice ak kn ck]) (t := 53) (fr := (0, 0)) (heap_alloc_new W8 _)) (by simp [Value.oneCell']) (by unfold maxLen; omega) (by omega) (by simp; omega) ?_))
          intro v' W9 hown8 hgrow8 _ hloc8
          have hG : Hid (Grow w W9 (mixM lo) mkS 53 5 es (k + 1) v') := grow_step hb.out hcc.out hown.out helt.out hap.out hke hb8.out (by rw [hgt.out]; exact hON.out) hAp.out rfl _ hgrow8 hloc8 hown8 (fun l h => by injection h with h; omega)
          clear hown8 hgrow8 hloc8 hown1
          go_wp2_with fail
          go_roundw
          case rel => exact ⟨k + 1, hlt9.out, by go_num, hG.out⟩
          case measure => simp [intOf]; have := hlt9.out; omega
    · obtain rfl : k = n := by omega
      obtain ⟨a0, c0, hu⟩ := shape_of hown
      have hGd : Grows w.heap.size wq (mixM lo) mkS 53 5 es k u3 := ⟨hbz, cc, RR, hcc, hown, helt, hap⟩
      subst hu
      have hfin : Hid (ListMix lo 53 5 es k w (.returned (.slice a0 k c0)) wq) := by
        obtain ⟨R, oR, pR⟩ := Grows.done (by rw [← hle.out]; exact hGd) rfl (by have := hle.out; omega)
        exact ⟨a0, c0, R, rfl, oR, pR, hb⟩
      replace hb := Lib.hid hb
      clear hown helt hap hcc hGd
      go_wp2_with fail
      go_ret
      exact hfin.out
theorem ref_any (v : Nd) : RefK v.kids := Nd.ind (P := fun v => RefK v.kids) (fun _ _ _ _ K hK => ref_list K hK) v
theorem refL_any (L : List Nd) : RefK L := ref_list L (fun v _ => ref_any v)
end Go.Proofs.YtehcbicngbibgaaGreatDoor
