/- A list of nodes, as a row reads it. -/
import Derived.Test.YtehcbicngbibgaaGreatDoorRows
import Derived.Test.YtehcbicngbibgaaGreatDoorZSw
import Derived.ProofKit
import Derived.Deep.Slices
namespace Go.Proofs.YtehcbicngbibgaaGreatDoor
open Go Go.RowKit Go.ChangeShapes Go.WideShapes Go.ChangeAt Go.Maps

section
variable {H : Type} {enc : TypeId × Value → H} {W : World} {base : Nat} {sp : Nat → Bool} {held : Bool}
theorem one_cell_slice {t e : TypeId} (ht : Tryz.prog.underlying t = some (.slice e)) {fuel : Nat} {c : Value} {x : DataW H × List MemPlace} (h : DataW.trod enc Tryz.prog W base sp held fuel t [c] = some x) : ∃ a n cap, c = .slice a n cap := by
  rcases DataW.trod_slice ht h with ⟨hc, _⟩ | ⟨a, len, cap, _, _, _, _, hc, _⟩
  · simp at hc; exact ⟨_, _, _, hc⟩
  · simp at hc; exact ⟨_, _, _, hc⟩
theorem one_cell_int {t : TypeId} {k : IntKind} (ht : Tryz.prog.underlying t = some (.int k)) {fuel : Nat} {c : Value} {x : DataW H × List MemPlace} (h : DataW.trod enc Tryz.prog W base sp held fuel t [c] = some x) : ∃ n, c = .int k n ∧ (Lit.int k n).wf = true := by
  obtain ⟨n, hc, _, hw⟩ := DataW.trod_int ht h
  simp at hc; exact ⟨n, hc, hw⟩
theorem one_cell_string {fuel : Nat} {c : Value} {x : DataW H × List MemPlace} (h : DataW.trod enc Tryz.prog W base sp held fuel 9 [c] = some x) : ∃ s : ByteArray, c = .string s ∧ Rows.uptoBulk x.1 = s.size + 1 := by
  obtain ⟨s, hc, hx, _⟩ := DataW.trod_string Tryz.underlying9 h
  simp at hc
  refine ⟨s, hc, ?_⟩
  rw [hx, size_list]
  rfl
theorem one_cell_bool {fuel : Nat} {c : Value} {x : DataW H × List MemPlace} (h : DataW.trod enc Tryz.prog W base sp held fuel 4 [c] = some x) : ∃ b, c = .bool b := by
  obtain ⟨b, hc, _⟩ := DataW.trod_bool Tryz.underlying4 h
  simp at hc; exact ⟨b, hc⟩
theorem at_some {α : Type} {xs : List α} {n i : Nat} (h : xs.length = n) (hi : i < n) : ∃ y, xs[i]? = some y := ⟨xs[i]'(by omega), List.getElem?_eq_getElem (by omega)⟩
theorem bulk_pos (d : DataW H) : 1 ≤ Rows.uptoBulk d := by
  cases d with
  | lit l => cases l <;> simp [Rows.uptoBulk]
  | _ => simp [Rows.uptoBulk]
theorem bulkAll_append (l r : List (DataW H)) : Rows.uptoBulkAll (l ++ r) = Rows.uptoBulkAll l + Rows.uptoBulkAll r := by
  induction l with
  | nil => simp [Rows.uptoBulkAll]
  | cons d l ih => simp only [List.cons_append, Rows.uptoBulkAll, ih]; omega
theorem bulkAll_mem {d : DataW H} {l : List (DataW H)} (h : d ∈ l) : Rows.uptoBulk d ≤ Rows.uptoBulkAll l := by
  induction l with
  | nil => cases h
  | cons x l ih =>
    simp only [Rows.uptoBulkAll]
    rcases List.mem_cons.1 h with rfl | h
    · omega
    · have := ih h; omega
theorem bulkAll_len (l : List (DataW H)) : l.length ≤ Rows.uptoBulkAll l := by
  induction l with
  | nil => simp
  | cons x l ih => simp only [Rows.uptoBulkAll, List.length_cons]; have := bulk_pos x; omega
theorem bulkAll_range_succ (D : Nat → DataW H) (n : Nat) : Rows.uptoBulkAll ((List.range (n + 1)).map D) = Rows.uptoBulkAll ((List.range n).map D) + Rows.uptoBulk (D n) := by
  rw [List.range_succ, List.map_append, bulkAll_append]; simp [Rows.uptoBulkAll]

set_option maxRecDepth 100000 in
/-- A slice's elements, each a row of K cells. -/
theorem open_row {t e : TypeId} {K B : Nat} (ht : Tryz.prog.underlying t = some (.slice e)) (hK : Tryz.prog.cellsOf e = K) (hK0 : 0 < K) {fuel : Nat} {cs : List Value} {d : DataW H} {ps : List MemPlace}
    (h : DataW.trod enc Tryz.prog W 0 (fun _ => true) true fuel t cs = some (d, ps)) (hlt : ∀ p ∈ ps, p.block < B) :
    ∃ (ao : Option Addr) (b o len cap n : Nat) (D : Nat → DataW H) (Pl : Nat → List MemPlace) (cc : Nat → List Value), n < fuel ∧ cs = [.slice ao len cap] ∧ (0 < len → ao = some ⟨b, o, none⟩ ∧ b < B) ∧
      Rows.uptoBulkAll ((List.range len).map D) + 1 ≤ Rows.uptoBulk d ∧
      ∀ i, i < len → (cc i).length = K ∧ (∀ j, j < K → W.cell? ⟨b, o + (i * K + j), none⟩ = (cc i)[j]?) ∧ DataW.trod enc Tryz.prog W 0 (fun _ => true) true n e (cc i) = some (D i, Pl i) ∧ ∀ p ∈ Pl i, p.block < B := by
  rcases DataW.trod_slice ht h with ⟨rfl, hx⟩ | ⟨a, len, cap, elems, rest, n, rfl, rfl, hx, _, _, _, hlen, hel, _, _⟩
  · injection hx with hx _
    subst hx
    cases fuel with
    | zero => simp [DataW.trod] at h
    | succ n => exact ⟨none, 0, 0, 0, 0, n, fun _ => .nil, fun _ => [], fun _ => [], by omega, rfl, fun h => by omega, by simp [Rows.uptoBulkAll, Rows.uptoBulk], fun i hi => by omega⟩
  · injection hx with hx hp
    subst hx hp
    have hD : elems.map (·.1) = (List.range len).map fun i => (elems.getD i (.nil, [])).1 := by
      rw [← hlen]
      refine List.ext_getElem (by simp) (fun i h1 h2 => ?_)
      simp at h1
      simp [List.getD, h1]
    have hbk : Rows.uptoBulkAll ((List.range len).map fun i => (elems.getD i (.nil, [])).1) + 1 ≤ Rows.uptoBulk (DataW.slice (elems.map (·.1)) (rest.map (·.1))) := by
      rw [← hD]; simp only [Rows.uptoBulk]; omega
    have hall : ∀ i, i < len → ∃ cc : List Value, W.cells? 0 (a.add (i * K)) K = some cc ∧ DataW.trod enc Tryz.prog W 0 (fun _ => true) true n e cc = some ((elems.getD i (.nil, [])).1, (elems.getD i (.nil, [])).2) := by
      intro i hi
      have := hel i hi
      rw [hK, List.getElem?_eq_getElem (by omega)] at this
      obtain ⟨cc, h1, h2⟩ := Option.bind_eq_some_iff.1 this
      refine ⟨cc, h1, ?_⟩
      rw [h2]
      simp [List.getD, List.getElem?_eq_getElem (show i < elems.length by omega)]
    obtain ⟨cc, hcc⟩ := Go.Deep.choose_lt hall
    have hpl : ∀ i, i < len → ∀ p ∈ (elems.getD i (.nil, [])).2, p.block < B := by
      intro i hi p hp
      refine hlt p (List.mem_append_right _ (List.mem_flatMap.2 ⟨elems[i]'(by omega), List.mem_append_left _ (List.getElem_mem _), ?_⟩))
      simpa [List.getD, List.getElem?_eq_getElem (show i < elems.length by omega)] using hp
    by_cases h0 : len = 0
    · subst h0
      exact ⟨some a, 0, 0, 0, cap, n, fun i => (elems.getD i (.nil, [])).1, fun _ => [], cc, by omega, rfl, fun h => by omega, hbk, fun i hi => by omega⟩
    · obtain ⟨b, off, spot⟩ := a
      have hcell : ∀ i, i < len → (cc i).length = K ∧ ∀ j, j < K → W.cell? ((⟨b, off, spot⟩ : Addr).add (i * K + j)) = (cc i)[j]? := by
        intro i hi
        obtain ⟨_, hl, hc⟩ := World.cells?_some (hcc i hi).1
        refine ⟨hl, fun j hj => ?_⟩
        rw [← Go.Deep.add_add]; exact hc j hj
      have hspot : spot = none := by
        have h9 := (hcell 0 (by omega)).2 0 hK0
        have h8 : ((⟨b, off, spot⟩ : Addr).add (0 * K + 0)) = ⟨b, off, spot⟩ := by simp [Addr.add]
        rw [h8] at h9
        obtain ⟨y, hy⟩ := at_some (hcell 0 (by omega)).1 (i := 0) hK0
        exact World.cell?_spot (h9.trans hy)
      subst hspot
      have hbW : b < B := hlt (.cell b off) (List.mem_append_left _ (MemPlace.mem_row.2 ⟨0, by rw [hK]; exact Nat.mul_pos (by omega) hK0, by simp⟩))
      refine ⟨some ⟨b, off, none⟩, b, off, len, cap, n, fun i => (elems.getD i (.nil, [])).1, fun i => (elems.getD i (.nil, [])).2, cc, by omega, rfl, fun _ => ⟨rfl, hbW⟩, hbk, fun i hi => ⟨(hcell i hi).1, fun j hj => ?_, (hcc i hi).2, hpl i hi⟩⟩
      rw [← (hcell i hi).2 j hj]
      congr 1
      unfold Addr.add
      split
      · rename_i h0; rw [h0]; rfl
      · rfl
theorem k2 : Tryz.prog.cellsOf 3 = 1 := by kernel_rfl
theorem k3 : Tryz.prog.cellsOf 9 = 1 := by kernel_rfl
theorem k4 : Tryz.prog.cellsOf 59 = 8 := by kernel_rfl
theorem k5 : Tryz.prog.cellsOf 55 = 1 := by kernel_rfl
theorem k6 : Tryz.prog.cellsOf 2 = 1 := by kernel_rfl
theorem k7 : Tryz.prog.cellsOf 56 = 1 := by kernel_rfl
theorem k8 : Tryz.prog.cellsOf 51 = 1 := by kernel_rfl
theorem k9 : Tryz.prog.cellsOf 57 = 1 := by kernel_rfl
theorem k10 : Tryz.prog.cellsOf 4 = 1 := by kernel_rfl
theorem k12 : Tryz.prog.cellsOf 61 = 9 := by kernel_rfl
theorem k13 : Tryz.prog.cellsOf 53 = 5 := by kernel_rfl
theorem k14 : Tryz.prog.cellsOf 22 = 1 := by kernel_rfl
instance : Inhabited Val := ⟨.mk 0 0 ByteArray.empty [] [] 0 ByteArray.empty false⟩
instance : Inhabited VP := ⟨⟨none, 0, 0, none, 0, 0⟩⟩
instance : Inhabited NP := ⟨⟨none, 0, 0, none, 0, 0⟩⟩
instance : Inhabited Nd := ⟨.mk 0 ByteArray.empty ByteArray.empty [] []⟩
instance : Inhabited Fld := ⟨.mk ByteArray.empty default⟩
theorem agg_mem {xs : List (DataW H × List MemPlace)} {i : Nat} {y : DataW H × List MemPlace} (h : xs[i]? = some y) : Rows.uptoBulk y.1 + 1 ≤ Rows.uptoBulk (DataW.agg (xs.map (·.1))) := by
  simp only [Rows.uptoBulk]
  have := bulkAll_mem (List.mem_map_of_mem (f := (·.1)) (List.mem_of_getElem? h))
  omega
theorem agg_place {xs : List (DataW H × List MemPlace)} {i B : Nat} {y : DataW H × List MemPlace} (h : xs[i]? = some y) (hp : ∀ p ∈ xs.flatMap (·.2), p.block < B) : ∀ p ∈ y.2, p.block < B :=
  fun p hy => hp p (List.mem_flatMap.2 ⟨y, List.mem_of_getElem? h, hy⟩)

theorem wts_range (f : Nat → T) (D : Nat → DataW H) (n : Nat) (h : ∀ i, i < n → (f i).wt + 1 ≤ Rows.uptoBulk (D i)) : wts ((List.range n).map f) + n ≤ Rows.uptoBulkAll ((List.range n).map D) := by
  induction n with
  | zero => simp [wts]
  | succ n ih =>
    have h1 := ih (fun i hi => h i (by omega))
    have h2 := h n (by omega)
    rw [bulkAll_range_succ, List.range_succ, List.map_append, wts_append]
    simp only [List.map_cons, List.map_nil, wts]
    omega
/-- A list out of what each place holds. -/
theorem list_at {B K len b o : Nat} {ao : Option Addr} {cc : Nat → List Value} (t : Nat → T) (hn : len ≤ 1152921504606846976) (hao : 0 < len → ao = some ⟨b, o, none⟩ ∧ b < B) (hc : ∀ i, i < len → (cc i).length = K ∧ ∀ j, j < K → W.cell? ⟨b, o + (i * K + j), none⟩ = (cc i)[j]?) (he : ∀ i, i < len → At W B (t i) (cc i)) : LAt W B K ((List.range len).map t) ao len :=
  ⟨by simp, hn, b, o, cc, hao, hc, fun i hi => by
    rw [List.getElem_map, List.getElem_range]
    exact he i (by simpa using hi)⟩
set_option maxRecDepth 100000 in
/-- A value, whatever lies in it. -/
theorem read_value (B : Nat) : ∀ (fuel : Nat) (cs : List Value) (d : DataW H) (ps : List MemPlace), DataW.trod enc Tryz.prog W 0 (fun _ => true) true fuel 59 cs = some (d, ps) → (∀ p ∈ ps, p.block < B) → Rows.uptoBulk d ≤ 1048576 →
    ∃ x : Val × VP, cs = x.2.cells x.1 ∧ VAt W B x.1 x.2 ∧ x.1.tr.wt + 1 ≤ Rows.uptoBulk d := by
  intro fuel
  induction fuel using Nat.strongRecOn with
  | _ fuel ih =>
  intro cs d ps h hlt hbk
  obtain ⟨xs, n, rfl, hx, hl, hlen, hf⟩ := DataW.trod_struct Tryz.underlying59 h
  injection hx with hx1 hx2
  subst hx1 hx2
  rw [k4] at hl
  have hl8 : xs.length = 8 := hlen
  match cs, hl with
  | [c0, c1, c2, c3, c4, c5, c6, c7], _ =>
    obtain ⟨y0, e0⟩ := at_some hl8 (i := 0) (by omega)
    obtain ⟨y1, e1⟩ := at_some hl8 (i := 1) (by omega)
    obtain ⟨y2, e2⟩ := at_some hl8 (i := 2) (by omega)
    obtain ⟨y3, e3⟩ := at_some hl8 (i := 3) (by omega)
    obtain ⟨y4, e4⟩ := at_some hl8 (i := 4) (by omega)
    obtain ⟨y5, e5⟩ := at_some hl8 (i := 5) (by omega)
    obtain ⟨y6, e6⟩ := at_some hl8 (i := 6) (by omega)
    obtain ⟨y7, e7⟩ := at_some hl8 (i := 7) (by omega)
    have f0 : DataW.trod enc Tryz.prog W 0 (fun _ => true) true n 55 (([c0, c1, c2, c3, c4, c5, c6, c7].drop 0).take (Tryz.prog.cellsOf 55)) = xs[0]? := hf 0 _ rfl
    have f1 : DataW.trod enc Tryz.prog W 0 (fun _ => true) true n 2 (([c0, c1, c2, c3, c4, c5, c6, c7].drop 1).take (Tryz.prog.cellsOf 2)) = xs[1]? := hf 1 _ rfl
    have f2 : DataW.trod enc Tryz.prog W 0 (fun _ => true) true n 9 (([c0, c1, c2, c3, c4, c5, c6, c7].drop 2).take (Tryz.prog.cellsOf 9)) = xs[2]? := hf 2 _ rfl
    have f3 : DataW.trod enc Tryz.prog W 0 (fun _ => true) true n 56 (([c0, c1, c2, c3, c4, c5, c6, c7].drop 3).take (Tryz.prog.cellsOf 56)) = xs[3]? := hf 3 _ rfl
    have f4 : DataW.trod enc Tryz.prog W 0 (fun _ => true) true n 51 (([c0, c1, c2, c3, c4, c5, c6, c7].drop 4).take (Tryz.prog.cellsOf 51)) = xs[4]? := hf 4 _ rfl
    have f5 : DataW.trod enc Tryz.prog W 0 (fun _ => true) true n 57 (([c0, c1, c2, c3, c4, c5, c6, c7].drop 5).take (Tryz.prog.cellsOf 57)) = xs[5]? := hf 5 _ rfl
    have f6 : DataW.trod enc Tryz.prog W 0 (fun _ => true) true n 9 (([c0, c1, c2, c3, c4, c5, c6, c7].drop 6).take (Tryz.prog.cellsOf 9)) = xs[6]? := hf 6 _ rfl
    have f7 : DataW.trod enc Tryz.prog W 0 (fun _ => true) true n 4 (([c0, c1, c2, c3, c4, c5, c6, c7].drop 7).take (Tryz.prog.cellsOf 4)) = xs[7]? := hf 7 _ rfl
    rw [e0] at f0; rw [e1] at f1; rw [e2] at f2; rw [e3] at f3; rw [e4] at f4; rw [e5] at f5; rw [e6] at f6; rw [e7] at f7
    simp only [k5, k6, k3, k7, k8, k9, k10, List.drop_zero, List.drop_succ_cons, List.take_succ_cons, List.take_zero] at f0 f1 f2 f3 f4 f5 f6 f7
    obtain ⟨a0, rfl, w0⟩ := one_cell_int Tryz.underlying55 f0
    obtain ⟨a1, rfl, w1⟩ := one_cell_int Tryz.underlying2 f1
    obtain ⟨a2, rfl, g2⟩ := one_cell_string f2
    obtain ⟨a5, rfl, w5⟩ := one_cell_int Tryz.underlying57 f5
    obtain ⟨a6, rfl, g6⟩ := one_cell_string f6
    obtain ⟨a7, rfl⟩ := one_cell_bool f7
    have hb8 : Rows.uptoBulk y2.1 + Rows.uptoBulk y3.1 + Rows.uptoBulk y4.1 + Rows.uptoBulk y6.1 + 1 ≤ Rows.uptoBulk (DataW.agg (xs.map (·.1))) := by
      match xs, hl8, e2, e3, e4, e6 with
      | [z0, z1, z2, z3, z4, z5, z6, z7], _, e2, e3, e4, e6 =>
        simp at e2 e3 e4 e6
        subst e2 e3 e4 e6
        simp only [Rows.uptoBulk, List.map_cons, List.map_nil, Rows.uptoBulkAll]
        omega
    obtain ⟨la, lb, lo, ln, lc, n3, D3, P3, cc3, hn3, g3, hla, hbk3, hel3⟩ := open_row Tryz.underlying56 k4 (by omega) f3 (agg_place e3 hlt)
    obtain ⟨fa, fb, fo, fn, fc, n4, D4, P4, cc4, hn4, g4, hfa, hbk4, hel4⟩ := open_row Tryz.underlying51 k12 (by omega) f4 (agg_place e4 hlt)
    simp only [List.cons.injEq, and_true] at g3 g4
    subst g3 g4
    have hl3 := bulkAll_len ((List.range ln).map D3)
    have hl4 := bulkAll_len ((List.range fn).map D4)
    simp only [List.length_map, List.length_range] at hl3 hl4
    have h3 : ∀ i, i < ln → ∃ x : Val × VP, cc3 i = x.2.cells x.1 ∧ VAt W B x.1 x.2 ∧ x.1.tr.wt + 1 ≤ Rows.uptoBulk (D3 i) := fun i hi => by
      obtain ⟨_, _, h2, h4⟩ := hel3 i hi
      refine ih n3 (by omega) _ _ _ h2 h4 ?_
      have := bulkAll_mem (List.mem_map_of_mem (f := D3) (List.mem_range.2 hi))
      omega
    have h4 : ∀ i, i < fn → ∃ x : Fld × VP, cc4 i = x.2.fcells x.1 ∧ FAt W B x.1 x.2 ∧ x.1.tr.wt + 1 ≤ Rows.uptoBulk (D4 i) := fun i hi => by
      obtain ⟨h1, _, h2, h4⟩ := hel4 i hi
      have hbi := bulkAll_mem (List.mem_map_of_mem (f := D4) (List.mem_range.2 hi))
      obtain ⟨zs, m, rfl, hz, hzl, hzlen, hzf⟩ := DataW.trod_struct Tryz.underlying61 h2
      injection hz with hz1 hz2
      rw [hz1] at hbi ⊢
      rw [hz2] at h4
      have hz2 : zs.length = 2 := hzlen
      obtain ⟨z0, t0⟩ := at_some hz2 (i := 0) (by omega)
      obtain ⟨z1, t1⟩ := at_some hz2 (i := 1) (by omega)
      rcases hcc : cc4 i with _ | ⟨d0, r⟩
      · rw [hcc] at h1; simp at h1
      · rw [hcc] at hzf h1
        have r8 : r.length = 8 := by simpa using h1
        have q0 : DataW.trod enc Tryz.prog W 0 (fun _ => true) true m 9 (((d0 :: r).drop 0).take (Tryz.prog.cellsOf 9)) = zs[0]? := hzf 0 _ rfl
        have q1 : DataW.trod enc Tryz.prog W 0 (fun _ => true) true m 59 (((d0 :: r).drop 1).take (Tryz.prog.cellsOf 59)) = zs[1]? := hzf 1 _ rfl
        rw [t0] at q0
        rw [t1] at q1
        simp only [k3, k4, List.drop_zero, List.drop_succ_cons, List.take_succ_cons, List.take_zero] at q0 q1
        rw [List.take_of_length_le (by omega)] at q1
        have b2 : Rows.uptoBulk z0.1 + Rows.uptoBulk z1.1 + 1 ≤ Rows.uptoBulk (DataW.agg (zs.map (·.1))) := by
          match zs, hz2, t0, t1 with
          | [w0, w1], _, t0, t1 =>
            simp at t0 t1
            subst t0 t1
            simp only [Rows.uptoBulk, List.map_cons, List.map_nil, Rows.uptoBulkAll]
            omega
        obtain ⟨nm, rfl, gnm⟩ := one_cell_string q0
        obtain ⟨⟨v, q⟩, hv1, hv2, hv3⟩ := ih m (by omega) _ _ _ q1 (agg_place t1 h4) (by omega)
        refine ⟨(.mk nm v, q), by rw [show r = q.cells v from hv1]; rfl, ⟨by show nm.size ≤ _; omega, hv2⟩, ?_⟩
        rw [wt_fld]
        show 1 + nm.size + v.tr.wt + 1 ≤ _
        replace hv3 : v.tr.wt + 1 ≤ Rows.uptoBulk z1.1 := hv3
        omega
    obtain ⟨L, hL⟩ := Go.Deep.choose_lt h3
    obtain ⟨F, hF⟩ := Go.Deep.choose_lt h4
    have hsL := wts_range (fun i => (L i).1.tr) D3 ln (fun i hi => (hL i hi).2.2)
    have hsF := wts_range (fun i => (F i).1.tr) D4 fn (fun i hi => (hF i hi).2.2)
    have hvL : VLs W B ((List.range ln).map fun i => (L i).1) la ln := by
      show LAt _ _ _ _ _ _
      rw [List.map_map]
      exact list_at (fun i => (L i).1.tr) (by omega) hla (fun i hi => ⟨(hel3 i hi).1, (hel3 i hi).2.1⟩) (fun i hi => by rw [(hL i hi).1]; exact (hL i hi).2.1.at)
    have hvF : FLs W B ((List.range fn).map fun i => (F i).1) fa fn := by
      show LAt _ _ _ _ _ _
      rw [List.map_map]
      exact list_at (fun i => (F i).1.tr) (by omega) hfa (fun i hi => ⟨(hel4 i hi).1, (hel4 i hi).2.1⟩) (fun i hi => by rw [(hF i hi).1]; exact (hF i hi).2.1.at)
    refine ⟨(.mk a0 a1 a2 ((List.range ln).map fun i => (L i).1) ((List.range fn).map fun i => (F i).1) a5 a6 a7, ⟨la, ln, lc, fa, fn, fc⟩), rfl, ⟨w0, w1, by show a2.size ≤ _; omega, w5, by show a6.size ≤ _; omega, hvL, hvF⟩, ?_⟩
    rw [wt_val]
    show 1 + a2.size + a6.size + (((List.range ln).map fun i => (L i).1).length + wts (((List.range ln).map fun i => (L i).1).map Val.tr)) + (((List.range fn).map fun i => (F i).1).length + wts (((List.range fn).map fun i => (F i).1).map Fld.tr)) + 1 ≤ _
    rw [List.map_map, List.map_map, List.length_map, List.length_map, List.length_range, List.length_range]
    have e1 : ((List.range ln).map (Val.tr ∘ fun i => (L i).1)) = (List.range ln).map fun i => (L i).1.tr := rfl
    have e2' : ((List.range fn).map (Fld.tr ∘ fun i => (F i).1)) = (List.range fn).map fun i => (F i).1.tr := rfl
    rw [e1, e2']
    omega

set_option maxRecDepth 100000 in
/-- Fields. -/
theorem read_fields (B : Nat) (fuel : Nat) (c : Value) (d : DataW H) (ps : List MemPlace) (h : DataW.trod enc Tryz.prog W 0 (fun _ => true) true fuel 51 [c] = some (d, ps)) (hlt : ∀ p ∈ ps, p.block < B) (hbk : Rows.uptoBulk d ≤ 1048576) :
    ∃ (ao : Option Addr) (n cap : Nat) (F : List Fld), c = .slice ao n cap ∧ FLs W B F ao n ∧ F.length + wts (F.map Fld.tr) + 1 ≤ Rows.uptoBulk d := by
  obtain ⟨fa, fb, fo, fn, fc, n4, D4, P4, cc4, hn4, g4, hfa, hbk4, hel4⟩ := open_row Tryz.underlying51 k12 (by omega) h hlt
  simp only [List.cons.injEq, and_true] at g4
  subst g4
  have hl4 := bulkAll_len ((List.range fn).map D4)
  simp only [List.length_map, List.length_range] at hl4
  have h4 : ∀ i, i < fn → ∃ x : Fld × VP, cc4 i = x.2.fcells x.1 ∧ FAt W B x.1 x.2 ∧ x.1.tr.wt + 1 ≤ Rows.uptoBulk (D4 i) := fun i hi => by
    obtain ⟨h1, _, h2, h4⟩ := hel4 i hi
    have hbi := bulkAll_mem (List.mem_map_of_mem (f := D4) (List.mem_range.2 hi))
    obtain ⟨zs, m, rfl, hz, hzl, hzlen, hzf⟩ := DataW.trod_struct Tryz.underlying61 h2
    injection hz with hz1 hz2
    rw [hz1] at hbi ⊢
    rw [hz2] at h4
    have hz2 : zs.length = 2 := hzlen
    obtain ⟨z0, t0⟩ := at_some hz2 (i := 0) (by omega)
    obtain ⟨z1, t1⟩ := at_some hz2 (i := 1) (by omega)
    rcases hcc : cc4 i with _ | ⟨d0, r⟩
    · rw [hcc] at h1; simp at h1
    · rw [hcc] at hzf h1
      have r8 : r.length = 8 := by simpa using h1
      have q0 : DataW.trod enc Tryz.prog W 0 (fun _ => true) true m 9 (((d0 :: r).drop 0).take (Tryz.prog.cellsOf 9)) = zs[0]? := hzf 0 _ rfl
      have q1 : DataW.trod enc Tryz.prog W 0 (fun _ => true) true m 59 (((d0 :: r).drop 1).take (Tryz.prog.cellsOf 59)) = zs[1]? := hzf 1 _ rfl
      rw [t0] at q0
      rw [t1] at q1
      simp only [k3, k4, List.drop_zero, List.drop_succ_cons, List.take_succ_cons, List.take_zero] at q0 q1
      rw [List.take_of_length_le (by omega)] at q1
      have b2 : Rows.uptoBulk z0.1 + Rows.uptoBulk z1.1 + 1 ≤ Rows.uptoBulk (DataW.agg (zs.map (·.1))) := by
        match zs, hz2, t0, t1 with
        | [w0, w1], _, t0, t1 =>
          simp at t0 t1
          subst t0 t1
          simp only [Rows.uptoBulk, List.map_cons, List.map_nil, Rows.uptoBulkAll]
          omega
      obtain ⟨nm, rfl, gnm⟩ := one_cell_string q0
      obtain ⟨⟨v, q⟩, hv1, hv2, hv3⟩ := read_value B m _ _ _ q1 (agg_place t1 h4) (by omega)
      refine ⟨(.mk nm v, q), by rw [show r = q.cells v from hv1]; rfl, ⟨by show nm.size ≤ _; omega, hv2⟩, ?_⟩
      rw [wt_fld]
      show 1 + nm.size + v.tr.wt + 1 ≤ _
      replace hv3 : v.tr.wt + 1 ≤ Rows.uptoBulk z1.1 := hv3
      omega
  obtain ⟨F, hF⟩ := Go.Deep.choose_lt h4
  have hsF := wts_range (fun i => (F i).1.tr) D4 fn (fun i hi => (hF i hi).2.2)
  refine ⟨fa, fn, fc, (List.range fn).map fun i => (F i).1, rfl, ?_, ?_⟩
  · show LAt _ _ _ _ _ _
    rw [List.map_map]
    exact list_at (fun i => (F i).1.tr) (by omega) hfa (fun i hi => ⟨(hel4 i hi).1, (hel4 i hi).2.1⟩) (fun i hi => by rw [(hF i hi).1]; exact (hF i hi).2.1.at)
  · rw [List.map_map, List.length_map, List.length_range]
    have e2' : ((List.range fn).map (Fld.tr ∘ fun i => (F i).1)) = (List.range fn).map fun i => (F i).1.tr := rfl
    rw [e2']
    omega
set_option maxRecDepth 100000 in
/-- Nodes. -/
theorem read_nodes (B : Nat) : ∀ (fuel : Nat) (c : Value) (d : DataW H) (ps : List MemPlace), DataW.trod enc Tryz.prog W 0 (fun _ => true) true fuel 22 [c] = some (d, ps) → (∀ p ∈ ps, p.block < B) → Rows.uptoBulk d ≤ 1048576 →
    ∃ x : List Nd × (Option Addr × Nat × Nat), c = .slice x.2.1 x.2.2.1 x.2.2.2 ∧ NLs W B x.1 x.2.1 x.2.2.1 ∧ x.1.length + wts (x.1.map Nd.tr) + 1 ≤ Rows.uptoBulk d := by
  intro fuel
  induction fuel using Nat.strongRecOn with
  | _ fuel ih =>
  intro c d ps h hlt hbk
  obtain ⟨ao, b, o, len, cap, n, D, Pl, cc, hn, g, hao, hbk4, hel⟩ := open_row Tryz.underlying22 k13 (by omega) h hlt
  simp only [List.cons.injEq, and_true] at g
  subst g
  have hl := bulkAll_len ((List.range len).map D)
  simp only [List.length_map, List.length_range] at hl
  have each : ∀ i, i < len → ∃ x : Nd × NP, cc i = x.2.cells x.1 ∧ NAt W B x.1 x.2 ∧ x.1.tr.wt + 1 ≤ Rows.uptoBulk (D i) := by
    intro i hi
    obtain ⟨h1, _, h2, h4⟩ := hel i hi
    have hbi := bulkAll_mem (List.mem_map_of_mem (f := D) (List.mem_range.2 hi))
    obtain ⟨xs, m, rfl, hx, hxl, hlen, hf⟩ := DataW.trod_struct Tryz.underlying53 h2
    injection hx with hx1 hx2
    rw [hx1] at hbi ⊢
    rw [hx2] at h4
    have hl5 : xs.length = 5 := hlen
    obtain ⟨y0, e0⟩ := at_some hl5 (i := 0) (by omega)
    obtain ⟨y1, e1⟩ := at_some hl5 (i := 1) (by omega)
    obtain ⟨y2, e2⟩ := at_some hl5 (i := 2) (by omega)
    obtain ⟨y3, e3⟩ := at_some hl5 (i := 3) (by omega)
    obtain ⟨y4, e4⟩ := at_some hl5 (i := 4) (by omega)
    generalize hcc : cc i = cs at h1 h2 hf
    match cs, h1 with
    | [c0, c1, c2, c3, c4], _ =>
      have f0 : DataW.trod enc Tryz.prog W 0 (fun _ => true) true m 3 (([c0, c1, c2, c3, c4].drop 0).take (Tryz.prog.cellsOf 3)) = xs[0]? := hf 0 _ rfl
      have f1 : DataW.trod enc Tryz.prog W 0 (fun _ => true) true m 9 (([c0, c1, c2, c3, c4].drop 1).take (Tryz.prog.cellsOf 9)) = xs[1]? := hf 1 _ rfl
      have f2 : DataW.trod enc Tryz.prog W 0 (fun _ => true) true m 9 (([c0, c1, c2, c3, c4].drop 2).take (Tryz.prog.cellsOf 9)) = xs[2]? := hf 2 _ rfl
      have f3 : DataW.trod enc Tryz.prog W 0 (fun _ => true) true m 51 (([c0, c1, c2, c3, c4].drop 3).take (Tryz.prog.cellsOf 51)) = xs[3]? := hf 3 _ rfl
      have f4 : DataW.trod enc Tryz.prog W 0 (fun _ => true) true m 22 (([c0, c1, c2, c3, c4].drop 4).take (Tryz.prog.cellsOf 22)) = xs[4]? := hf 4 _ rfl
      rw [e0] at f0; rw [e1] at f1; rw [e2] at f2; rw [e3] at f3; rw [e4] at f4
      simp only [k2, k3, k8, k14, List.drop_zero, List.drop_succ_cons, List.take_succ_cons, List.take_zero] at f0 f1 f2 f3 f4
      obtain ⟨a0, rfl, w0⟩ := one_cell_int Tryz.underlying3 f0
      obtain ⟨a1, rfl, g1⟩ := one_cell_string f1
      obtain ⟨a2, rfl, g2⟩ := one_cell_string f2
      have b5 : Rows.uptoBulk y1.1 + Rows.uptoBulk y2.1 + Rows.uptoBulk y3.1 + Rows.uptoBulk y4.1 + 1 ≤ Rows.uptoBulk (DataW.agg (xs.map (·.1))) := by
        match xs, hl5, e1, e2, e3, e4 with
        | [z0, z1, z2, z3, z4], _, e1, e2, e3, e4 =>
          simp at e1 e2 e3 e4
          subst e1 e2 e3 e4
          simp only [Rows.uptoBulk, List.map_cons, List.map_nil, Rows.uptoBulkAll]
          omega
      obtain ⟨aa, an, ac, F, rfl, q1, q2⟩ := read_fields B m c3 y3.1 y3.2 f3 (agg_place e3 h4) (by omega)
      obtain ⟨⟨K, ka, kn, kc⟩, t1, t2, t3⟩ := ih m (by omega) c4 y4.1 y4.2 f4 (agg_place e4 h4) (by omega)
      obtain rfl : c4 = .slice ka kn kc := t1
      refine ⟨(.mk a0 a1 a2 F K, ⟨aa, an, ac, ka, kn, kc⟩), rfl, ⟨w0, by show a1.size ≤ _; omega, by show a2.size ≤ _; omega, q1, t2⟩, ?_⟩
      rw [wt_nd]
      show 1 + a1.size + a2.size + (F.length + wts (F.map Fld.tr)) + (K.length + wts (K.map Nd.tr)) + 1 ≤ _
      replace t3 : K.length + wts (K.map Nd.tr) + 1 ≤ Rows.uptoBulk y4.1 := t3
      omega
  obtain ⟨q, hq⟩ := Go.Deep.choose_lt each
  have hs := wts_range (fun i => (q i).1.tr) D len (fun i hi => (hq i hi).2.2)
  refine ⟨((List.range len).map fun i => (q i).1, ao, len, cap), rfl, ?_, ?_⟩
  · show LAt _ _ _ _ _ _
    rw [List.map_map]
    exact list_at (fun i => (q i).1.tr) (by omega) hao (fun i hi => ⟨(hel i hi).1, (hel i hi).2.1⟩) (fun i hi => by rw [(hq i hi).1]; exact (hq i hi).2.1.at)
  · show ((List.range len).map fun i => (q i).1).length + wts (((List.range len).map fun i => (q i).1).map Nd.tr) + 1 ≤ _
    rw [List.map_map, List.length_map, List.length_range]
    have e2' : ((List.range len).map (Nd.tr ∘ fun i => (q i).1)) = (List.range len).map fun i => (q i).1.tr := rfl
    rw [e2']
    omega
end
end Go.Proofs.YtehcbicngbibgaaGreatDoor
