/- Twin.. makes a tree in memory of its own, with a mark behind each list. (By XTw.gen.py.) -/
import Derived.Test.YtehcbicngbibgaaGreatDoorZGw
import Derived.Deep.AppendLies
import Derived.Deep.RegionHeld3
namespace Go.Proofs.YtehcbicngbibgaaGreatDoor
open Go Go.RowKit

def mkS (E : Nat) : List Value := if E = 59 then [.int .u8 0, .int .i64 0, .string ⟨#[115, 112, 97, 114, 101]⟩, .slice none 0 0, .slice none 0 0, .int .u8 0, .string ⟨#[]⟩, .bool false] else if E = 61 then [.string ⟨#[115, 112, 97, 114, 101]⟩, .int .u8 0, .int .i64 0, .string ⟨#[]⟩, .slice none 0 0, .slice none 0 0, .int .u8 0, .string ⟨#[]⟩, .bool false] else [.int .i64 7777, .string ⟨#[]⟩, .string ⟨#[]⟩, .slice none 0 0, .slice none 0 0]
theorem infoV : (Tryz.prog.info? 59).map (fun i => (i.zero, i.size, i.bytes)) = some (some (.agg #[.int .u8 0, .int .i64 0, .string ⟨#[]⟩, .slice none 0 0, .slice none 0 0, .int .u8 0, .string ⟨#[]⟩, .bool false]), 8, 112) := by kernel_rfl
theorem infoF : (Tryz.prog.info? 61).map (fun i => (i.zero, i.size, i.bytes)) = some (some (.agg #[.string ⟨#[]⟩, .int .u8 0, .int .i64 0, .string ⟨#[]⟩, .slice none 0 0, .slice none 0 0, .int .u8 0, .string ⟨#[]⟩, .bool false]), 9, 128) := by kernel_rfl
theorem infoN : (Tryz.prog.info? 53).map (fun i => (i.zero, i.size, i.bytes)) = some (some (.agg #[.int .i64 0, .string ⟨#[]⟩, .string ⟨#[]⟩, .slice none 0 0, .slice none 0 0]), 5, 88) := by kernel_rfl
def ListTwin (E K : Nat) (es : List T) (n : Nat) (w : World) (e : Ending) (w' : World) : Prop := ∃ (g cap : Nat) (R : List Row), e = .returned (.slice (some ⟨g, 0, none⟩) n cap) ∧ Own w' w.heap.size twinM mkS (.lst E K es) [.slice (some ⟨g, 0, none⟩) n cap] R ∧ Apart R ∧ Below w.heap.size w w'
theorem blk_set {w : World} {g : Nat} {cs : Array Value} {t : TypeId} (h : w.heap[g]? = some (.cells cs t (0, 0))) (j : Nat) (v : Value) :
    (w.setCell ⟨g, j, none⟩ v).heap[g]? = some (.cells (cs.setIfInBounds j v) t (0, 0)) := by
  simp [World.setCell, Array.getElem?_modify, h]
theorem cell_grown (W : World) (g j : Nat) (v : Value) : W.grownBy (W.setCell ⟨g, j, none⟩ v) (some g) := ⟨rfl, rfl, rfl, by simp, fun k _ hk => Below.heap_setCell _ _ _ _ (fun e => hk (by rw [e]))⟩
theorem grown_again {a b c : World} {row : Option Nat} (h : a.grownBy b row) (k : b.grownBy c row) : a.grownBy c row :=
  ⟨k.os.trans h.os, k.tape.trans h.tape, k.output.trans h.output, Nat.le_trans h.size k.size, fun i hi hne => (k.block i (Nat.lt_of_lt_of_le hi h.size) hne).trans (h.block i hi hne)⟩
theorem set5_row {W : World} {g : Nat} {t : TypeId} {a0 a1 a2 a3 a4 : Value} (h : W.heap[g]? = some (.cells #[a0, a1, a2, a3, a4] t (0, 0))) (b0 b1 b2 b3 b4 : Value) : (((((W.setCell ⟨g, 0, none⟩ b0).setCell ⟨g, 1, none⟩ b1).setCell ⟨g, 2, none⟩ b2).setCell ⟨g, 3, none⟩ b3).setCell ⟨g, 4, none⟩ b4).heap[g]? = some (.cells #[b0, b1, b2, b3, b4] t (0, 0)) := by
  have h0 := h
  have h1 : (W.setCell ⟨g, 0, none⟩ b0).heap[g]? = some (.cells #[b0, a1, a2, a3, a4] t (0, 0)) := blk_set h0 0 b0
  generalize W.setCell ⟨g, 0, none⟩ b0 = W0 at *
  have h2 : (W0.setCell ⟨g, 1, none⟩ b1).heap[g]? = some (.cells #[b0, b1, a2, a3, a4] t (0, 0)) := blk_set h1 1 b1
  generalize W0.setCell ⟨g, 1, none⟩ b1 = W1 at *
  have h3 : (W1.setCell ⟨g, 2, none⟩ b2).heap[g]? = some (.cells #[b0, b1, b2, a3, a4] t (0, 0)) := blk_set h2 2 b2
  generalize W1.setCell ⟨g, 2, none⟩ b2 = W2 at *
  have h4 : (W2.setCell ⟨g, 3, none⟩ b3).heap[g]? = some (.cells #[b0, b1, b2, b3, a4] t (0, 0)) := blk_set h3 3 b3
  generalize W2.setCell ⟨g, 3, none⟩ b3 = W3 at *
  have h5 : (W3.setCell ⟨g, 4, none⟩ b4).heap[g]? = some (.cells #[b0, b1, b2, b3, b4] t (0, 0)) := blk_set h4 4 b4
  exact h5
theorem set5_grown (W : World) (g : Nat) (b0 b1 b2 b3 b4 : Value) : W.grownBy (((((W.setCell ⟨g, 0, none⟩ b0).setCell ⟨g, 1, none⟩ b1).setCell ⟨g, 2, none⟩ b2).setCell ⟨g, 3, none⟩ b3).setCell ⟨g, 4, none⟩ b4) (some g) :=
  (grown_again (grown_again (grown_again (grown_again (cell_grown _ g 0 _) (cell_grown _ g 1 _)) (cell_grown _ g 2 _)) (cell_grown _ g 3 _)) (cell_grown _ g 4 _))
theorem set8_row {W : World} {g : Nat} {t : TypeId} {a0 a1 a2 a3 a4 a5 a6 a7 : Value} (h : W.heap[g]? = some (.cells #[a0, a1, a2, a3, a4, a5, a6, a7] t (0, 0))) (b0 b1 b2 b3 b4 b5 b6 b7 : Value) : ((((((((W.setCell ⟨g, 0, none⟩ b0).setCell ⟨g, 1, none⟩ b1).setCell ⟨g, 2, none⟩ b2).setCell ⟨g, 3, none⟩ b3).setCell ⟨g, 4, none⟩ b4).setCell ⟨g, 5, none⟩ b5).setCell ⟨g, 6, none⟩ b6).setCell ⟨g, 7, none⟩ b7).heap[g]? = some (.cells #[b0, b1, b2, b3, b4, b5, b6, b7] t (0, 0)) := by
  have h0 := h
  have h1 : (W.setCell ⟨g, 0, none⟩ b0).heap[g]? = some (.cells #[b0, a1, a2, a3, a4, a5, a6, a7] t (0, 0)) := blk_set h0 0 b0
  generalize W.setCell ⟨g, 0, none⟩ b0 = W0 at *
  have h2 : (W0.setCell ⟨g, 1, none⟩ b1).heap[g]? = some (.cells #[b0, b1, a2, a3, a4, a5, a6, a7] t (0, 0)) := blk_set h1 1 b1
  generalize W0.setCell ⟨g, 1, none⟩ b1 = W1 at *
  have h3 : (W1.setCell ⟨g, 2, none⟩ b2).heap[g]? = some (.cells #[b0, b1, b2, a3, a4, a5, a6, a7] t (0, 0)) := blk_set h2 2 b2
  generalize W1.setCell ⟨g, 2, none⟩ b2 = W2 at *
  have h4 : (W2.setCell ⟨g, 3, none⟩ b3).heap[g]? = some (.cells #[b0, b1, b2, b3, a4, a5, a6, a7] t (0, 0)) := blk_set h3 3 b3
  generalize W2.setCell ⟨g, 3, none⟩ b3 = W3 at *
  have h5 : (W3.setCell ⟨g, 4, none⟩ b4).heap[g]? = some (.cells #[b0, b1, b2, b3, b4, a5, a6, a7] t (0, 0)) := blk_set h4 4 b4
  generalize W3.setCell ⟨g, 4, none⟩ b4 = W4 at *
  have h6 : (W4.setCell ⟨g, 5, none⟩ b5).heap[g]? = some (.cells #[b0, b1, b2, b3, b4, b5, a6, a7] t (0, 0)) := blk_set h5 5 b5
  generalize W4.setCell ⟨g, 5, none⟩ b5 = W5 at *
  have h7 : (W5.setCell ⟨g, 6, none⟩ b6).heap[g]? = some (.cells #[b0, b1, b2, b3, b4, b5, b6, a7] t (0, 0)) := blk_set h6 6 b6
  generalize W5.setCell ⟨g, 6, none⟩ b6 = W6 at *
  have h8 : (W6.setCell ⟨g, 7, none⟩ b7).heap[g]? = some (.cells #[b0, b1, b2, b3, b4, b5, b6, b7] t (0, 0)) := blk_set h7 7 b7
  exact h8
theorem set8_grown (W : World) (g : Nat) (b0 b1 b2 b3 b4 b5 b6 b7 : Value) : W.grownBy ((((((((W.setCell ⟨g, 0, none⟩ b0).setCell ⟨g, 1, none⟩ b1).setCell ⟨g, 2, none⟩ b2).setCell ⟨g, 3, none⟩ b3).setCell ⟨g, 4, none⟩ b4).setCell ⟨g, 5, none⟩ b5).setCell ⟨g, 6, none⟩ b6).setCell ⟨g, 7, none⟩ b7) (some g) :=
  (grown_again (grown_again (grown_again (grown_again (grown_again (grown_again (grown_again (cell_grown _ g 0 _) (cell_grown _ g 1 _)) (cell_grown _ g 2 _)) (cell_grown _ g 3 _)) (cell_grown _ g 4 _)) (cell_grown _ g 5 _)) (cell_grown _ g 6 _)) (cell_grown _ g 7 _))
theorem set9_row {W : World} {g : Nat} {t : TypeId} {a0 a1 a2 a3 a4 a5 a6 a7 a8 : Value} (h : W.heap[g]? = some (.cells #[a0, a1, a2, a3, a4, a5, a6, a7, a8] t (0, 0))) (b0 b1 b2 b3 b4 b5 b6 b7 b8 : Value) : (((((((((W.setCell ⟨g, 0, none⟩ b0).setCell ⟨g, 1, none⟩ b1).setCell ⟨g, 2, none⟩ b2).setCell ⟨g, 3, none⟩ b3).setCell ⟨g, 4, none⟩ b4).setCell ⟨g, 5, none⟩ b5).setCell ⟨g, 6, none⟩ b6).setCell ⟨g, 7, none⟩ b7).setCell ⟨g, 8, none⟩ b8).heap[g]? = some (.cells #[b0, b1, b2, b3, b4, b5, b6, b7, b8] t (0, 0)) := by
  have h0 := h
  have h1 : (W.setCell ⟨g, 0, none⟩ b0).heap[g]? = some (.cells #[b0, a1, a2, a3, a4, a5, a6, a7, a8] t (0, 0)) := blk_set h0 0 b0
  generalize W.setCell ⟨g, 0, none⟩ b0 = W0 at *
  have h2 : (W0.setCell ⟨g, 1, none⟩ b1).heap[g]? = some (.cells #[b0, b1, a2, a3, a4, a5, a6, a7, a8] t (0, 0)) := blk_set h1 1 b1
  generalize W0.setCell ⟨g, 1, none⟩ b1 = W1 at *
  have h3 : (W1.setCell ⟨g, 2, none⟩ b2).heap[g]? = some (.cells #[b0, b1, b2, a3, a4, a5, a6, a7, a8] t (0, 0)) := blk_set h2 2 b2
  generalize W1.setCell ⟨g, 2, none⟩ b2 = W2 at *
  have h4 : (W2.setCell ⟨g, 3, none⟩ b3).heap[g]? = some (.cells #[b0, b1, b2, b3, a4, a5, a6, a7, a8] t (0, 0)) := blk_set h3 3 b3
  generalize W2.setCell ⟨g, 3, none⟩ b3 = W3 at *
  have h5 : (W3.setCell ⟨g, 4, none⟩ b4).heap[g]? = some (.cells #[b0, b1, b2, b3, b4, a5, a6, a7, a8] t (0, 0)) := blk_set h4 4 b4
  generalize W3.setCell ⟨g, 4, none⟩ b4 = W4 at *
  have h6 : (W4.setCell ⟨g, 5, none⟩ b5).heap[g]? = some (.cells #[b0, b1, b2, b3, b4, b5, a6, a7, a8] t (0, 0)) := blk_set h5 5 b5
  generalize W4.setCell ⟨g, 5, none⟩ b5 = W5 at *
  have h7 : (W5.setCell ⟨g, 6, none⟩ b6).heap[g]? = some (.cells #[b0, b1, b2, b3, b4, b5, b6, a7, a8] t (0, 0)) := blk_set h6 6 b6
  generalize W5.setCell ⟨g, 6, none⟩ b6 = W6 at *
  have h8 : (W6.setCell ⟨g, 7, none⟩ b7).heap[g]? = some (.cells #[b0, b1, b2, b3, b4, b5, b6, b7, a8] t (0, 0)) := blk_set h7 7 b7
  generalize W6.setCell ⟨g, 7, none⟩ b7 = W7 at *
  have h9 : (W7.setCell ⟨g, 8, none⟩ b8).heap[g]? = some (.cells #[b0, b1, b2, b3, b4, b5, b6, b7, b8] t (0, 0)) := blk_set h8 8 b8
  exact h9
theorem set9_grown (W : World) (g : Nat) (b0 b1 b2 b3 b4 b5 b6 b7 b8 : Value) : W.grownBy (((((((((W.setCell ⟨g, 0, none⟩ b0).setCell ⟨g, 1, none⟩ b1).setCell ⟨g, 2, none⟩ b2).setCell ⟨g, 3, none⟩ b3).setCell ⟨g, 4, none⟩ b4).setCell ⟨g, 5, none⟩ b5).setCell ⟨g, 6, none⟩ b6).setCell ⟨g, 7, none⟩ b7).setCell ⟨g, 8, none⟩ b8) (some g) :=
  (grown_again (grown_again (grown_again (grown_again (grown_again (grown_again (grown_again (grown_again (cell_grown _ g 0 _) (cell_grown _ g 1 _)) (cell_grown _ g 2 _)) (cell_grown _ g 3 _)) (cell_grown _ g 4 _)) (cell_grown _ g 5 _)) (cell_grown _ g 6 _)) (cell_grown _ g 7 _)) (cell_grown _ g 8 _))
theorem results_cell1 {P : Program} {fn : Func} {p : Tmp} {ty : TypeId} (h : fn.results = #[.cell p ty]) (tmps : Array Value) (w : World) (g : Nat) (t : TypeId) (cs : Array Value) (fr : Nat × Nat) (d : TypeDesc)
    (hp : tmps.getD p undef = .pointer (some ⟨g, 0, none⟩)) (hg : w.heap[g]? = some (.cells cs t fr))
    (hu : P.underlying ty = some d) (hd : (match d with | .struct _ | .array _ _ => true | _ => false) = true) (hi : (P.info? ty).map (·.size) = some cs.size) :
    (results fn tmps).run P w = .ok (.agg cs) w := by
  have hp' : tmps[p]?.getD undef = .pointer (some ⟨g, 0, none⟩) := by simpa using hp
  simp [results, h, hp', asAddr, run_loadVar_row w g t ty cs fr d hg hu hd hi]
theorem size_val : (Tryz.prog.info? 59).map (·.size) = some 8 := by kernel_rfl
theorem size_fld : (Tryz.prog.info? 61).map (·.size) = some 9 := by kernel_rfl
theorem size_nd : (Tryz.prog.info? 53).map (·.size) = some 5 := by kernel_rfl
theorem Own.val {w : World} {base : Nat} {m : Mode} {mk : Nat → List Value} {v : Val} {q0 q : VP} {R1 R2 : List Row} {B : Nat} {w0 : World} (h : VAt w0 B v q0) (h1 : Own w base m mk (.lst 59 8 (v.L.map Val.tr)) [.slice q.la q.ln q.lc] R1) (h2 : Own w base m mk (.lst 61 9 (v.F.map Fld.tr)) [.slice q.fa q.fn q.fc] R2) : Own w base m mk v.tr (q.cells v) (R1 ++ R2) := by
  rw [Val.tr_eq]
  have := Own.cons _ _ [_] _ _ _ (Own.int (w := w) (base := base) (m := m) (mk := mk) _ _ h.k1) (.cons _ _ [_] _ _ _ (.int _ _ h.k2) (.cons _ _ [_] _ _ _ (.txt _ h.k3) (.cons _ _ [_] _ _ _ h1 (.cons _ _ [_] _ _ _ h2 (.cons _ _ [_] _ _ _ (.int _ _ h.k4) (.cons _ _ [_] _ _ _ (.txt _ h.k5) (.cons _ _ [_] _ _ _ (.yes v.hk) .nil)))))))
  simpa [VP.cells] using this
theorem Own.fld {w : World} {base : Nat} {m : Mode} {mk : Nat → List Value} {f : Fld} {q : VP} {R : List Row} (h : f.name.size ≤ 140737488355328) (h1 : Own w base m mk f.value.tr (q.cells f.value) R) : Own w base m mk f.tr (q.fcells f) R := by
  rw [Fld.tr_eq]
  have := Own.cons _ _ [_] _ _ _ (Own.txt (w := w) (base := base) (m := m) (mk := mk) f.name h) (.cons _ _ _ _ _ _ h1 .nil)
  simpa [VP.fcells] using this
theorem Own.nd {w : World} {base : Nat} {m : Mode} {mk : Nat → List Value} {v : Nd} {q0 q : NP} {R1 R2 : List Row} {B : Nat} {w0 : World} (h : NAt w0 B v q0) (h1 : Own w base m mk (.lst 61 9 (v.attrs.map Fld.tr)) [.slice q.aa q.an q.ac] R1) (h2 : Own w base m mk (.lst 53 5 (v.kids.map Nd.tr)) [.slice q.ka q.kn q.kc] R2) : Own w base m mk v.tr (q.cells v) (R1 ++ R2) := by
  rw [Nd.tr_eq]
  have := Own.cons _ _ [_] _ _ _ (Own.int (w := w) (base := base) (m := m) (mk := mk) _ _ h.k1) (.cons _ _ [_] _ _ _ (.txt _ h.k2) (.cons _ _ [_] _ _ _ (.txt _ h.k3) (.cons _ _ [_] _ _ _ h1 (.cons _ _ [_] _ _ _ h2 .nil))))
  simpa [NP.cells] using this
def OneTwinV (v : Val) (w : World) (e : Ending) (w' : World) : Prop := ∃ (q : VP) (R : List Row), e = .returned (.agg #[.int .u8 v.kind, .int .i64 v.n, .string v.s, .slice q.la q.ln q.lc, .slice q.fa q.fn q.fc, .int .u8 v.elem, .string v.key, .bool v.hk]) ∧ Own w' w.heap.size twinM mkS v.tr (q.cells v) R ∧ Apart R ∧ Below w.heap.size w w'
def TwinV (v : Val) : Prop := v.tr.wt ≤ 1048576 → ∀ (q : VP) (w : World), VAt w w.heap.size v q →
  Calls Tryz.prog 146 #[.agg #[.int .u8 v.kind, .int .i64 v.n, .string v.s, .slice q.la q.ln q.lc, .slice q.fa q.fn q.fc, .int .u8 v.elem, .string v.key, .bool v.hk]] w fun e w' => OneTwinV v w e w'
set_option maxHeartbeats 2000000 in
set_option maxRecDepth 100000 in
theorem twinValues_any (L : List Val) (hT : ∀ v ∈ L, TwinV v) (a : Option Addr) (n c : Nat) (w : World) (hwt : L.length + wts (L.map Val.tr) ≤ 1048576) (h1 : VLs w w.heap.size L a n) :
    Calls Tryz.prog 169 #[.slice a n c] w fun e w' => ListTwin 59 8 (L.map Val.tr) n w e w' := by
  obtain ⟨i0, hi, hz0, hz1, hz2⟩ := info_parts infoV
  have hl := h1.len.1
  have hll := hl
  rw [List.length_map] at hll
  have hn : n ≤ 1048576 := by omega
  obtain ⟨es, hes⟩ : ∃ es, es = L.map Val.tr := ⟨_, rfl⟩
  rw [← hes] at hl hwt ⊢
  have hmk : ∀ u : World, (Instr.makeSlice 56 (.int .i64 0) (.int .i64 ((n : Int) + 1))).run Tryz.prog u = .ok (.slice (some ⟨u.heap.size, 0, none⟩) 0 (n + 1)) (u.alloc (.cells (madeCells #[.int .u8 0, .int .i64 0, .string ⟨#[]⟩, .slice none 0 0, .slice none 0 0, .int .u8 0, .string ⟨#[]⟩, .bool false] ((n + 1) * 8)) 59)) := fun u => by
    have h := run_make (P := Tryz.prog) u 56 59 i0 (.agg #[.int .u8 0, .int .i64 0, .string ⟨#[]⟩, .slice none 0 0, .slice none 0 0, .int .u8 0, .string ⟨#[]⟩, .bool false]) Tryz.underlying56 hi hz0 .i64 .i64 0 ((n : Int) + 1) (by omega) (by omega) (by rw [hz2]; omega) (by omega)
    have e : ((n : Int) + 1).toNat = n + 1 := by omega
    rw [e, hz1] at h
    exact h
  obtain ⟨S, hS⟩ : ∃ S, S = w.alloc (.cells (madeCells #[.int .u8 0, .int .i64 0, .string ⟨#[]⟩, .slice none 0 0, .slice none 0 0, .int .u8 0, .string ⟨#[]⟩, .bool false] ((n + 1) * 8)) 59) := ⟨_, rfl⟩
  have hG0 : Grow w S twinM mkS 59 8 es 0 (.slice (some ⟨w.heap.size, 0, none⟩) 0 (n + 1)) := by
    rw [hS]
    exact Grow.start ((Below.refl _ _).alloc (Nat.le_refl _) _) (World.ownsRow_made _ _ _ (Nat.le_refl _) (by unfold maxLen; omega) (by simp [madeCells]))
  replace hS := Lib.hid hS
  replace hG0 := Lib.hid hG0
  replace hl := Lib.hid hl
  replace hll := Lib.hid hll
  replace h1 := Lib.hid h1
  replace hT := Lib.hid hT
  replace hwt := Lib.hid hwt
  replace hes := Lib.hid hes
  go_enter Tryz.func169, Tryz.ntmps169
  go_wp2_with (first | (rw [← hS.out]) | fail)
  go_loopw [3, 4] (fun u i wr => ∃ k : Nat, k ≤ n ∧ i = .int .i64 (k : Nat) ∧ Grow w wr twinM mkS 59 8 es k u) (fun _ i _ => n - (intOf i).toNat)
  case atStart => exact ⟨0, Nat.zero_le _, rfl, hG0.out⟩
  case round =>
    obtain ⟨k, hk, rfl, hb, _, cc, RR, hcc, hown, helt, hap⟩ := hrel
    clear hmk
    by_cases hlt : k < n
    · have hlt9 : Hid (k + 1 ≤ n) := hlt
      obtain ⟨b1, o1, v, q1, rfl, hb1, hg1, hc1, hv1⟩ := VLs.elem (h1.out.kept hb) k hlt
      have x0 : wr.cell? ⟨b1, o1 + k * 8, none⟩ = some (.int .u8 v.kind) := hc1 0 (by omega)
      have x1 : wr.cell? ⟨b1, o1 + k * 8 + 1, none⟩ = some (.int .i64 v.n) := by rw [Nat.add_assoc]; exact hc1 1 (by omega)
      have x2 : wr.cell? ⟨b1, o1 + k * 8 + 2, none⟩ = some (.string v.s) := by rw [Nat.add_assoc]; exact hc1 2 (by omega)
      have x3 : wr.cell? ⟨b1, o1 + k * 8 + 3, none⟩ = some (.slice q1.la q1.ln q1.lc) := by rw [Nat.add_assoc]; exact hc1 3 (by omega)
      have x4 : wr.cell? ⟨b1, o1 + k * 8 + 4, none⟩ = some (.slice q1.fa q1.fn q1.fc) := by rw [Nat.add_assoc]; exact hc1 4 (by omega)
      have x5 : wr.cell? ⟨b1, o1 + k * 8 + 5, none⟩ = some (.int .u8 v.elem) := by rw [Nat.add_assoc]; exact hc1 5 (by omega)
      have x6 : wr.cell? ⟨b1, o1 + k * 8 + 6, none⟩ = some (.string v.key) := by rw [Nat.add_assoc]; exact hc1 6 (by omega)
      have x7 : wr.cell? ⟨b1, o1 + k * 8 + 7, none⟩ = some (.bool v.hk) := by rw [Nat.add_assoc]; exact hc1 7 (by omega)
      have hke : k < es.length := by have := hl.out; omega
      have hgt : es[k] = v.tr := by
        have : es[k]? = some v.tr := by rw [hes.out, List.getElem?_map, hg1]; rfl
        rw [List.getElem?_eq_getElem hke] at this
        exact Option.some.inj this
      have hwv : v.tr.wt ≤ 1048576 := by
        have := wts_mem (List.getElem_mem hke)
        rw [hgt] at this
        have := hwt.out; omega
      have cT := hT.out v (List.mem_of_getElem? hg1) hwv q1 wr (hv1.mono hb.size)
      replace cT := Lib.hid cT
      replace hb := Lib.hid hb
      replace hcc := Lib.hid hcc
      replace hown := Lib.hid hown
      replace helt := Lib.hid helt
      replace hap := Lib.hid hap
      replace hgt := Lib.hid hgt
      clear hc1 hv1 hg1
      go_wp2_with (go_at_call 146; refine cT.out.mono ?_)
      rintro e W1 ⟨q', R, rfl, ho, hR, hbW⟩
      have hzW := hbW.size
      have hzb := hb.out.size
      have hown1 : Hid (W1.ownsRow w.heap.size 59 8 u3 k ((List.range k).flatMap cc)) := hown.out.kept (grown_none hbW) (Classical.em _)
      replace ho := Lib.hid ho
      replace hR := Lib.hid hR
      replace hbW := Lib.hid hbW
      clear cT
      go_wp2_with (at_builtin; refine wpList_append_own_at _ rfl _ _ 56 rfl w.heap.size 59 i0 _ 8 112 Tryz.underlying56 hi hz0 hz1 hz2 rfl (by decide) _ _ _ rfl (hown1.out.alloc _) ⟨W1.heap.size, 0, none⟩ 1 1 [.int .u8 v.kind, .int .i64 v.n, .string v.s, .slice q'.la q'.ln q'.lc, .slice q'.fa q'.fn q'.fc, .int .u8 v.elem, .string v.key, .bool v.hk] rfl rfl (World.news_of_block (cs := #[.int .u8 v.kind, .int .i64 v.n, .string v.s, .slice q'.la q'.ln q'.lc, .slice q'.fa q'.fn q'.fc, .int .u8 v.elem, .string v.key, .bool v.hk]) (t := 59) (fr := (0, 0)) (heap_alloc_new W1 _)) (by simp [Value.oneCell']) (by unfold maxLen; omega) (by omega) (by simp; omega) ?_)
      intro v' W2 hown2 hgrow2 _ hloc2
      have hG : Hid (Grow w W2 twinM mkS 59 8 es (k + 1) v') := grow_step hb.out hcc.out hown.out helt.out hap.out hke hbW.out (by rw [hgt.out]; exact ho.out) hR.out rfl _ hgrow2 hloc2 hown2
      clear hown2 hgrow2 hloc2 hown1 ho hR hbW hown helt hap hcc hb
      go_wp2_with fail
      go_roundw
      case rel => exact ⟨k + 1, hlt9.out, by go_num, hG.out⟩
      case measure => simp [intOf]; have := hlt9.out; omega
    · obtain rfl : k = n := by omega
      obtain ⟨m, hm⟩ : ∃ m, m = es.length := ⟨_, rfl⟩
      obtain rfl : k = m := by have := hl.out; omega
      rw [hm] at hcc hown helt hap
      replace hb := Lib.hid hb
      replace hcc := Lib.hid hcc
      replace hown := Lib.hid hown
      replace helt := Lib.hid helt
      replace hap := Lib.hid hap
      have hown9 : Hid (wr.ownsRow w.heap.size 59 8 u3 k ((List.range es.length).flatMap cc)) := by show wr.ownsRow _ _ _ _ _ _; rw [hm]; exact hown.out
      have hzb := hb.out.size
      replace hm := Lib.hid hm
      go_wp2_with (at_builtin; refine wpList_append_own_at _ rfl _ _ 56 rfl w.heap.size 59 i0 _ 8 112 Tryz.underlying56 hi hz0 hz1 hz2 rfl (by decide) _ _ _ rfl (hown9.out.alloc _) ⟨wr.heap.size, 0, none⟩ 1 1 [.int .u8 0, .int .i64 0, .string ⟨#[115, 112, 97, 114, 101]⟩, .slice none 0 0, .slice none 0 0, .int .u8 0, .string ⟨#[]⟩, .bool false] rfl rfl (World.news_of_block (cs := #[.int .u8 0, .int .i64 0, .string ⟨#[115, 112, 97, 114, 101]⟩, .slice none 0 0, .slice none 0 0, .int .u8 0, .string ⟨#[]⟩, .bool false]) (t := 59) (fr := (0, 0)) (heap_alloc_new wr _)) (by simp [Value.oneCell']) (by unfold maxLen; omega) (by omega) (by simp; omega) ?_)
      intro v' W2 hown2 hgrow2 _ hloc2
      obtain ⟨g, cap, hv', _, _⟩ := hown2.form (by omega)
      subst hv'
      have hcap := (ownsRow_cap hown2).1
      rw [hm.out] at hown2 hloc2
      obtain ⟨R, hO, hA, hB⟩ := grow_mark hb.out hcc.out hown.out helt.out hap.out _ rfl (by have := hm.out; omega) hgrow2 hloc2 hown2
      have hfin : Hid (ListTwin 59 8 es k w (.returned (.slice (some ⟨g, 0, none⟩) k cap)) W2) := by
        refine ⟨g, cap, R, rfl, ?_, hA, hB⟩
        rw [← hm.out] at hO
        exact hO
      have hkc : (k : Int) ≤ (cap : Int) := by omega
      clear hown2 hgrow2 hloc2 hO hA hB hown9 hown helt hap hcc hb
      go_wp2_with fail
      go_ret
      exact hfin.out
def OneTwinF (v : Fld) (w : World) (e : Ending) (w' : World) : Prop := ∃ (q : VP) (R : List Row), e = .returned (.agg #[.string v.name, .int .u8 v.value.kind, .int .i64 v.value.n, .string v.value.s, .slice q.la q.ln q.lc, .slice q.fa q.fn q.fc, .int .u8 v.value.elem, .string v.value.key, .bool v.value.hk]) ∧ Own w' w.heap.size twinM mkS v.tr (q.fcells v) R ∧ Apart R ∧ Below w.heap.size w w'
def TwinF (v : Fld) : Prop := v.tr.wt ≤ 1048576 → ∀ (q : VP) (w : World), FAt w w.heap.size v q →
  Calls Tryz.prog 129 #[.agg #[.string v.name, .int .u8 v.value.kind, .int .i64 v.value.n, .string v.value.s, .slice q.la q.ln q.lc, .slice q.fa q.fn q.fc, .int .u8 v.value.elem, .string v.value.key, .bool v.value.hk]] w fun e w' => OneTwinF v w e w'
set_option maxHeartbeats 2000000 in
set_option maxRecDepth 100000 in
theorem twinF_of (v : Fld) (hV : TwinV v.value) : TwinF v := by
  intro hwt q w h1
  have h9 := wt_fld v
  obtain ⟨S1, hS1⟩ : ∃ S1, S1 = w.alloc (.cells #[.string v.name, .int .u8 v.value.kind, .int .i64 v.value.n, .string v.value.s, .slice q.la q.ln q.lc, .slice q.fa q.fn q.fc, .int .u8 v.value.elem, .string v.value.key, .bool v.value.hk] 61) := ⟨_, rfl⟩
  have hb1 : Below w.heap.size w S1 := by rw [hS1]; exact (Below.refl _ _).alloc (Nat.le_refl _) _
  have hr1 : S1.heap[w.heap.size]? = some (.cells #[.string v.name, .int .u8 v.value.kind, .int .i64 v.value.n, .string v.value.s, .slice q.la q.ln q.lc, .slice q.fa q.fn q.fc, .int .u8 v.value.elem, .string v.value.key, .bool v.value.hk] 61 (0, 0)) := by rw [hS1]; exact heap_alloc_new w _
  have hz1 : S1.heap.size = w.heap.size + 1 := by rw [hS1]; simp
  obtain ⟨S, hS⟩ : ∃ S, S = S1.alloc (.cells #[.string ⟨#[]⟩, .int .u8 0, .int .i64 0, .string ⟨#[]⟩, .slice none 0 0, .slice none 0 0, .int .u8 0, .string ⟨#[]⟩, .bool false] 61) := ⟨_, rfl⟩
  have hb2 : Below S1.heap.size S1 S := by rw [hS]; exact (Below.refl _ _).alloc (Nat.le_refl _) _
  have hr2 : S.heap[w.heap.size + 1]? = some (.cells #[.string ⟨#[]⟩, .int .u8 0, .int .i64 0, .string ⟨#[]⟩, .slice none 0 0, .slice none 0 0, .int .u8 0, .string ⟨#[]⟩, .bool false] 61 (0, 0)) := by rw [hS, ← hz1]; exact heap_alloc_new S1 _
  have hr3 : S.heap[w.heap.size]? = some (.cells #[.string v.name, .int .u8 v.value.kind, .int .i64 v.value.n, .string v.value.s, .slice q.la q.ln q.lc, .slice q.fa q.fn q.fc, .int .u8 v.value.elem, .string v.value.key, .bool v.value.hk] 61 (0, 0)) := (hb2.block _ (by omega)).trans hr1
  have hbS : Below w.heap.size w S := hb1.trans (hb2.mono hb1.size)
  have hzS : S.heap.size = w.heap.size + 2 := by rw [hS]; simp [hz1]
  have hW : Hid (S = _) := hS.trans (by rw [hS1])
  have x0 : S.cell? ⟨w.heap.size, 0, none⟩ = some (.string v.name) := by simp [World.cell?, hr3]
  have x1 : S.cell? ⟨w.heap.size, 1, none⟩ = some (.int .u8 v.value.kind) := by simp [World.cell?, hr3]
  have x2 : S.cell? ⟨w.heap.size, 2, none⟩ = some (.int .i64 v.value.n) := by simp [World.cell?, hr3]
  have x3 : S.cell? ⟨w.heap.size, 3, none⟩ = some (.string v.value.s) := by simp [World.cell?, hr3]
  have x4 : S.cell? ⟨w.heap.size, 4, none⟩ = some (.slice q.la q.ln q.lc) := by simp [World.cell?, hr3]
  have x5 : S.cell? ⟨w.heap.size, 5, none⟩ = some (.slice q.fa q.fn q.fc) := by simp [World.cell?, hr3]
  have x6 : S.cell? ⟨w.heap.size, 6, none⟩ = some (.int .u8 v.value.elem) := by simp [World.cell?, hr3]
  have x7 : S.cell? ⟨w.heap.size, 7, none⟩ = some (.string v.value.key) := by simp [World.cell?, hr3]
  have x8 : S.cell? ⟨w.heap.size, 8, none⟩ = some (.bool v.value.hk) := by simp [World.cell?, hr3]
  clear hS hS1 hb1 hb2 hr1 hz1
  have cV : Hid (∀ W, Below S.heap.size S W → Calls Tryz.prog 146 #[.agg #[.int .u8 v.value.kind, .int .i64 v.value.n, .string v.value.s, .slice q.la q.ln q.lc, .slice q.fa q.fn q.fc, .int .u8 v.value.elem, .string v.value.key, .bool v.value.hk]] W fun e w' => OneTwinV v.value W e w') := fun W hW =>
    hV (by omega) q W ((h1.val.kept (hbS.trans (hW.mono hbS.size))).mono (Nat.le_trans hbS.size hW.size))
  replace h1 := Lib.hid h1
  replace hbS := Lib.hid hbS
  replace hr2 := Lib.hid hr2
  replace hr3 := Lib.hid hr3
  clear hV hwt h9
  go_enter Tryz.func129, Tryz.ntmps129
  go_wp2_with (first | (rw [← hW.out]) | fail)
  go_region_held3 (fun V => V.cell? ⟨w.heap.size, 0, none⟩ = some (.string v.name) ∧ V.cell? ⟨w.heap.size, 1, none⟩ = some (.int .u8 v.value.kind) ∧ V.cell? ⟨w.heap.size, 2, none⟩ = some (.int .i64 v.value.n) ∧ V.cell? ⟨w.heap.size, 3, none⟩ = some (.string v.value.s) ∧ V.cell? ⟨w.heap.size, 4, none⟩ = some (.slice q.la q.ln q.lc) ∧ V.cell? ⟨w.heap.size, 5, none⟩ = some (.slice q.fa q.fn q.fc) ∧ V.cell? ⟨w.heap.size, 6, none⟩ = some (.int .u8 v.value.elem) ∧ V.cell? ⟨w.heap.size, 7, none⟩ = some (.string v.value.key) ∧ V.cell? ⟨w.heap.size, 8, none⟩ = some (.bool v.value.hk)) (first | go_keep | exact ⟨x0, x1, x2, x3, x4, x5, x6, x7, x8⟩)
    (first
      | (go_at_call 146; refine (cV.out _ (drew_low _)).mono ?_; rintro e W1 ⟨q', R1, rfl, o1, a1, b1⟩; have hbS1 := Lib.hid ((drew_low S).trans (b1.mono (by simp))); replace x0 := (hbS1.out.cell (p := ⟨w.heap.size, 0, none⟩) (by show w.heap.size < _; omega)).trans x0; replace x1 := (hbS1.out.cell (p := ⟨w.heap.size, 1, none⟩) (by show w.heap.size < _; omega)).trans x1; replace x2 := (hbS1.out.cell (p := ⟨w.heap.size, 2, none⟩) (by show w.heap.size < _; omega)).trans x2; replace x3 := (hbS1.out.cell (p := ⟨w.heap.size, 3, none⟩) (by show w.heap.size < _; omega)).trans x3; replace x4 := (hbS1.out.cell (p := ⟨w.heap.size, 4, none⟩) (by show w.heap.size < _; omega)).trans x4; replace x5 := (hbS1.out.cell (p := ⟨w.heap.size, 5, none⟩) (by show w.heap.size < _; omega)).trans x5; replace x6 := (hbS1.out.cell (p := ⟨w.heap.size, 6, none⟩) (by show w.heap.size < _; omega)).trans x6; replace x7 := (hbS1.out.cell (p := ⟨w.heap.size, 7, none⟩) (by show w.heap.size < _; omega)).trans x7; replace x8 := (hbS1.out.cell (p := ⟨w.heap.size, 8, none⟩) (by show w.heap.size < _; omega)).trans x8; have hzb1 := hbS1.out.size; have hr9 := Lib.hid ((hbS1.out.block (w.heap.size + 1) (by omega)).trans hr2.out); have r0 : W1.cell? ⟨w.heap.size + 1, 0, none⟩ = some (.string ⟨#[]⟩) := (by simp [World.cell?, hr9.out]); have f0 : W1.frozen? ⟨w.heap.size + 1, 0, none⟩ = false := (by simp [World.frozen?, hr9.out]); have r1 : W1.cell? ⟨w.heap.size + 1, 1, none⟩ = some (.int .u8 0) := (by simp [World.cell?, hr9.out]); have f1 : W1.frozen? ⟨w.heap.size + 1, 1, none⟩ = false := (by simp [World.frozen?, hr9.out]); have r2 : W1.cell? ⟨w.heap.size + 1, 2, none⟩ = some (.int .i64 0) := (by simp [World.cell?, hr9.out]); have f2 : W1.frozen? ⟨w.heap.size + 1, 2, none⟩ = false := (by simp [World.frozen?, hr9.out]); have r3 : W1.cell? ⟨w.heap.size + 1, 3, none⟩ = some (.string ⟨#[]⟩) := (by simp [World.cell?, hr9.out]); have f3 : W1.frozen? ⟨w.heap.size + 1, 3, none⟩ = false := (by simp [World.frozen?, hr9.out]); have r4 : W1.cell? ⟨w.heap.size + 1, 4, none⟩ = some (.slice none 0 0) := (by simp [World.cell?, hr9.out]); have f4 : W1.frozen? ⟨w.heap.size + 1, 4, none⟩ = false := (by simp [World.frozen?, hr9.out]); have r5 : W1.cell? ⟨w.heap.size + 1, 5, none⟩ = some (.slice none 0 0) := (by simp [World.cell?, hr9.out]); have f5 : W1.frozen? ⟨w.heap.size + 1, 5, none⟩ = false := (by simp [World.frozen?, hr9.out]); have r6 : W1.cell? ⟨w.heap.size + 1, 6, none⟩ = some (.int .u8 0) := (by simp [World.cell?, hr9.out]); have f6 : W1.frozen? ⟨w.heap.size + 1, 6, none⟩ = false := (by simp [World.frozen?, hr9.out]); have r7 : W1.cell? ⟨w.heap.size + 1, 7, none⟩ = some (.string ⟨#[]⟩) := (by simp [World.cell?, hr9.out]); have f7 : W1.frozen? ⟨w.heap.size + 1, 7, none⟩ = false := (by simp [World.frozen?, hr9.out]); have r8 : W1.cell? ⟨w.heap.size + 1, 8, none⟩ = some (.bool false) := (by simp [World.cell?, hr9.out]); have f8 : W1.frozen? ⟨w.heap.size + 1, 8, none⟩ = false := (by simp [World.frozen?, hr9.out]); replace o1 := Lib.hid o1; replace a1 := Lib.hid a1; replace b1 := Lib.hid b1))
  have hg5 : Hid ((((((((((W1.setCell ⟨w.heap.size + 1, 0, none⟩ (.string v.name)).setCell ⟨w.heap.size + 1, 1, none⟩ (.int .u8 v.value.kind)).setCell ⟨w.heap.size + 1, 2, none⟩ (.int .i64 v.value.n)).setCell ⟨w.heap.size + 1, 3, none⟩ (.string v.value.s)).setCell ⟨w.heap.size + 1, 4, none⟩ (.slice q'.la q'.ln q'.lc)).setCell ⟨w.heap.size + 1, 5, none⟩ (.slice q'.fa q'.fn q'.fc)).setCell ⟨w.heap.size + 1, 6, none⟩ (.int .u8 v.value.elem)).setCell ⟨w.heap.size + 1, 7, none⟩ (.string v.value.key)).setCell ⟨w.heap.size + 1, 8, none⟩ (.bool v.value.hk)).heap[w.heap.size + 1]? = some (.cells #[.string v.name, .int .u8 v.value.kind, .int .i64 v.value.n, .string v.value.s, .slice q'.la q'.ln q'.lc, .slice q'.fa q'.fn q'.fc, .int .u8 v.value.elem, .string v.value.key, .bool v.value.hk] 61 (0, 0))) := set9_row hr9.out _ _ _ _ _ _ _ _ _
  have hgr : W1.grownBy (((((((((W1.setCell ⟨w.heap.size + 1, 0, none⟩ (.string v.name)).setCell ⟨w.heap.size + 1, 1, none⟩ (.int .u8 v.value.kind)).setCell ⟨w.heap.size + 1, 2, none⟩ (.int .i64 v.value.n)).setCell ⟨w.heap.size + 1, 3, none⟩ (.string v.value.s)).setCell ⟨w.heap.size + 1, 4, none⟩ (.slice q'.la q'.ln q'.lc)).setCell ⟨w.heap.size + 1, 5, none⟩ (.slice q'.fa q'.fn q'.fc)).setCell ⟨w.heap.size + 1, 6, none⟩ (.int .u8 v.value.elem)).setCell ⟨w.heap.size + 1, 7, none⟩ (.string v.value.key)).setCell ⟨w.heap.size + 1, 8, none⟩ (.bool v.value.hk)) (some (w.heap.size + 1)) := set9_grown W1 (w.heap.size + 1) _ _ _ _ _ _ _ _ _
  have oL := (o1.out.base (show w.heap.size ≤ S.drew.heap.size from hbS.out.size)).kept hgr (fun r hr k hk e => by
    have h5 : S.heap.size ≤ k := (o1.out.within r hr k hk).1
    injection e with e; omega)
  have hfin : Hid (OneTwinF v w (.returned (.agg #[.string v.name, .int .u8 v.value.kind, .int .i64 v.value.n, .string v.value.s, .slice q'.la q'.ln q'.lc, .slice q'.fa q'.fn q'.fc, .int .u8 v.value.elem, .string v.value.key, .bool v.value.hk])) (((((((((W1.setCell ⟨w.heap.size + 1, 0, none⟩ (.string v.name)).setCell ⟨w.heap.size + 1, 1, none⟩ (.int .u8 v.value.kind)).setCell ⟨w.heap.size + 1, 2, none⟩ (.int .i64 v.value.n)).setCell ⟨w.heap.size + 1, 3, none⟩ (.string v.value.s)).setCell ⟨w.heap.size + 1, 4, none⟩ (.slice q'.la q'.ln q'.lc)).setCell ⟨w.heap.size + 1, 5, none⟩ (.slice q'.fa q'.fn q'.fc)).setCell ⟨w.heap.size + 1, 6, none⟩ (.int .u8 v.value.elem)).setCell ⟨w.heap.size + 1, 7, none⟩ (.string v.value.key)).setCell ⟨w.heap.size + 1, 8, none⟩ (.bool v.value.hk))) :=
    ⟨q', R1, rfl, Own.fld h1.out.k0 oL, a1.out, (hbS.out.trans (hbS1.out.mono hbS.out.size)).grown hgr (by omega) (fun k hk => by injection hk with hk; omega)⟩
  clear hgr oL r0 f0 r1 f1 r2 f2 r3 f3 r4 f4 r5 f5 r6 f6 r7 f7 r8 f8
  go_wp2_with fail
  exact bodyPost_ret (results_cell1 (fn := Tryz.f129) (p := 2) (ty := 61) (by kernel_rfl) _ _ _ _ _ _ _ rfl hg5.out Tryz.underlying61 rfl size_fld) rfl hfin.out
set_option maxHeartbeats 2000000 in
set_option maxRecDepth 100000 in
theorem twinFields_any (L : List Fld) (hT : ∀ v ∈ L, TwinF v) (a : Option Addr) (n c : Nat) (w : World) (hwt : L.length + wts (L.map Fld.tr) ≤ 1048576) (h1 : FLs w w.heap.size L a n) :
    Calls Tryz.prog 78 #[.slice a n c] w fun e w' => ListTwin 61 9 (L.map Fld.tr) n w e w' := by
  obtain ⟨i0, hi, hz0, hz1, hz2⟩ := info_parts infoF
  have hl := h1.len.1
  have hll := hl
  rw [List.length_map] at hll
  have hn : n ≤ 1048576 := by omega
  obtain ⟨es, hes⟩ : ∃ es, es = L.map Fld.tr := ⟨_, rfl⟩
  rw [← hes] at hl hwt ⊢
  have hmk : ∀ u : World, (Instr.makeSlice 51 (.int .i64 0) (.int .i64 ((n : Int) + 1))).run Tryz.prog u = .ok (.slice (some ⟨u.heap.size, 0, none⟩) 0 (n + 1)) (u.alloc (.cells (madeCells #[.string ⟨#[]⟩, .int .u8 0, .int .i64 0, .string ⟨#[]⟩, .slice none 0 0, .slice none 0 0, .int .u8 0, .string ⟨#[]⟩, .bool false] ((n + 1) * 9)) 61)) := fun u => by
    have h := run_make (P := Tryz.prog) u 51 61 i0 (.agg #[.string ⟨#[]⟩, .int .u8 0, .int .i64 0, .string ⟨#[]⟩, .slice none 0 0, .slice none 0 0, .int .u8 0, .string ⟨#[]⟩, .bool false]) Tryz.underlying51 hi hz0 .i64 .i64 0 ((n : Int) + 1) (by omega) (by omega) (by rw [hz2]; omega) (by omega)
    have e : ((n : Int) + 1).toNat = n + 1 := by omega
    rw [e, hz1] at h
    exact h
  obtain ⟨S, hS⟩ : ∃ S, S = w.alloc (.cells (madeCells #[.string ⟨#[]⟩, .int .u8 0, .int .i64 0, .string ⟨#[]⟩, .slice none 0 0, .slice none 0 0, .int .u8 0, .string ⟨#[]⟩, .bool false] ((n + 1) * 9)) 61) := ⟨_, rfl⟩
  have hG0 : Grow w S twinM mkS 61 9 es 0 (.slice (some ⟨w.heap.size, 0, none⟩) 0 (n + 1)) := by
    rw [hS]
    exact Grow.start ((Below.refl _ _).alloc (Nat.le_refl _) _) (World.ownsRow_made _ _ _ (Nat.le_refl _) (by unfold maxLen; omega) (by simp [madeCells]))
  replace hS := Lib.hid hS
  replace hG0 := Lib.hid hG0
  replace hl := Lib.hid hl
  replace hll := Lib.hid hll
  replace h1 := Lib.hid h1
  replace hT := Lib.hid hT
  replace hwt := Lib.hid hwt
  replace hes := Lib.hid hes
  go_enter Tryz.func78, Tryz.ntmps78
  go_wp2_with (first | (rw [← hS.out]) | fail)
  go_loopw [3, 4] (fun u i wr => ∃ k : Nat, k ≤ n ∧ i = .int .i64 (k : Nat) ∧ Grow w wr twinM mkS 61 9 es k u) (fun _ i _ => n - (intOf i).toNat)
  case atStart => exact ⟨0, Nat.zero_le _, rfl, hG0.out⟩
  case round =>
    obtain ⟨k, hk, rfl, hb, _, cc, RR, hcc, hown, helt, hap⟩ := hrel
    clear hmk
    by_cases hlt : k < n
    · have hlt9 : Hid (k + 1 ≤ n) := hlt
      obtain ⟨b1, o1, v, q1, rfl, hb1, hg1, hc1, hv1⟩ := FLs.elem (h1.out.kept hb) k hlt
      have x0 : wr.cell? ⟨b1, o1 + k * 9, none⟩ = some (.string v.name) := hc1 0 (by omega)
      have x1 : wr.cell? ⟨b1, o1 + k * 9 + 1, none⟩ = some (.int .u8 v.value.kind) := by rw [Nat.add_assoc]; exact hc1 1 (by omega)
      have x2 : wr.cell? ⟨b1, o1 + k * 9 + 2, none⟩ = some (.int .i64 v.value.n) := by rw [Nat.add_assoc]; exact hc1 2 (by omega)
      have x3 : wr.cell? ⟨b1, o1 + k * 9 + 3, none⟩ = some (.string v.value.s) := by rw [Nat.add_assoc]; exact hc1 3 (by omega)
      have x4 : wr.cell? ⟨b1, o1 + k * 9 + 4, none⟩ = some (.slice q1.la q1.ln q1.lc) := by rw [Nat.add_assoc]; exact hc1 4 (by omega)
      have x5 : wr.cell? ⟨b1, o1 + k * 9 + 5, none⟩ = some (.slice q1.fa q1.fn q1.fc) := by rw [Nat.add_assoc]; exact hc1 5 (by omega)
      have x6 : wr.cell? ⟨b1, o1 + k * 9 + 6, none⟩ = some (.int .u8 v.value.elem) := by rw [Nat.add_assoc]; exact hc1 6 (by omega)
      have x7 : wr.cell? ⟨b1, o1 + k * 9 + 7, none⟩ = some (.string v.value.key) := by rw [Nat.add_assoc]; exact hc1 7 (by omega)
      have x8 : wr.cell? ⟨b1, o1 + k * 9 + 8, none⟩ = some (.bool v.value.hk) := by rw [Nat.add_assoc]; exact hc1 8 (by omega)
      have hke : k < es.length := by have := hl.out; omega
      have hgt : es[k] = v.tr := by
        have : es[k]? = some v.tr := by rw [hes.out, List.getElem?_map, hg1]; rfl
        rw [List.getElem?_eq_getElem hke] at this
        exact Option.some.inj this
      have hwv : v.tr.wt ≤ 1048576 := by
        have := wts_mem (List.getElem_mem hke)
        rw [hgt] at this
        have := hwt.out; omega
      have cT := hT.out v (List.mem_of_getElem? hg1) hwv q1 wr (hv1.mono hb.size)
      replace cT := Lib.hid cT
      replace hb := Lib.hid hb
      replace hcc := Lib.hid hcc
      replace hown := Lib.hid hown
      replace helt := Lib.hid helt
      replace hap := Lib.hid hap
      replace hgt := Lib.hid hgt
      clear hc1 hv1 hg1
      go_wp2_with (go_at_call 129; refine cT.out.mono ?_)
      rintro e W1 ⟨q', R, rfl, ho, hR, hbW⟩
      have hzW := hbW.size
      have hzb := hb.out.size
      have hown1 : Hid (W1.ownsRow w.heap.size 61 9 u3 k ((List.range k).flatMap cc)) := hown.out.kept (grown_none hbW) (Classical.em _)
      replace ho := Lib.hid ho
      replace hR := Lib.hid hR
      replace hbW := Lib.hid hbW
      clear cT
      go_wp2_with (at_builtin; refine wpList_append_own_at _ rfl _ _ 51 rfl w.heap.size 61 i0 _ 9 128 Tryz.underlying51 hi hz0 hz1 hz2 rfl (by decide) _ _ _ rfl (hown1.out.alloc _) ⟨W1.heap.size, 0, none⟩ 1 1 [.string v.name, .int .u8 v.value.kind, .int .i64 v.value.n, .string v.value.s, .slice q'.la q'.ln q'.lc, .slice q'.fa q'.fn q'.fc, .int .u8 v.value.elem, .string v.value.key, .bool v.value.hk] rfl rfl (World.news_of_block (cs := #[.string v.name, .int .u8 v.value.kind, .int .i64 v.value.n, .string v.value.s, .slice q'.la q'.ln q'.lc, .slice q'.fa q'.fn q'.fc, .int .u8 v.value.elem, .string v.value.key, .bool v.value.hk]) (t := 61) (fr := (0, 0)) (heap_alloc_new W1 _)) (by simp [Value.oneCell']) (by unfold maxLen; omega) (by omega) (by simp; omega) ?_)
      intro v' W2 hown2 hgrow2 _ hloc2
      have hG : Hid (Grow w W2 twinM mkS 61 9 es (k + 1) v') := grow_step hb.out hcc.out hown.out helt.out hap.out hke hbW.out (by rw [hgt.out]; exact ho.out) hR.out rfl _ hgrow2 hloc2 hown2
      clear hown2 hgrow2 hloc2 hown1 ho hR hbW hown helt hap hcc hb
      go_wp2_with fail
      go_roundw
      case rel => exact ⟨k + 1, hlt9.out, by go_num, hG.out⟩
      case measure => simp [intOf]; have := hlt9.out; omega
    · obtain rfl : k = n := by omega
      obtain ⟨m, hm⟩ : ∃ m, m = es.length := ⟨_, rfl⟩
      obtain rfl : k = m := by have := hl.out; omega
      rw [hm] at hcc hown helt hap
      replace hb := Lib.hid hb
      replace hcc := Lib.hid hcc
      replace hown := Lib.hid hown
      replace helt := Lib.hid helt
      replace hap := Lib.hid hap
      have hown9 : Hid (wr.ownsRow w.heap.size 61 9 u3 k ((List.range es.length).flatMap cc)) := by show wr.ownsRow _ _ _ _ _ _; rw [hm]; exact hown.out
      have hzb := hb.out.size
      replace hm := Lib.hid hm
      go_wp2_with (at_builtin; refine wpList_append_own_at _ rfl _ _ 51 rfl w.heap.size 61 i0 _ 9 128 Tryz.underlying51 hi hz0 hz1 hz2 rfl (by decide) _ _ _ rfl (hown9.out.alloc _) ⟨wr.heap.size, 0, none⟩ 1 1 [.string ⟨#[115, 112, 97, 114, 101]⟩, .int .u8 0, .int .i64 0, .string ⟨#[]⟩, .slice none 0 0, .slice none 0 0, .int .u8 0, .string ⟨#[]⟩, .bool false] rfl rfl (World.news_of_block (cs := #[.string ⟨#[115, 112, 97, 114, 101]⟩, .int .u8 0, .int .i64 0, .string ⟨#[]⟩, .slice none 0 0, .slice none 0 0, .int .u8 0, .string ⟨#[]⟩, .bool false]) (t := 61) (fr := (0, 0)) (heap_alloc_new wr _)) (by simp [Value.oneCell']) (by unfold maxLen; omega) (by omega) (by simp; omega) ?_)
      intro v' W2 hown2 hgrow2 _ hloc2
      obtain ⟨g, cap, hv', _, _⟩ := hown2.form (by omega)
      subst hv'
      have hcap := (ownsRow_cap hown2).1
      rw [hm.out] at hown2 hloc2
      obtain ⟨R, hO, hA, hB⟩ := grow_mark hb.out hcc.out hown.out helt.out hap.out _ rfl (by have := hm.out; omega) hgrow2 hloc2 hown2
      have hfin : Hid (ListTwin 61 9 es k w (.returned (.slice (some ⟨g, 0, none⟩) k cap)) W2) := by
        refine ⟨g, cap, R, rfl, ?_, hA, hB⟩
        rw [← hm.out] at hO
        exact hO
      have hkc : (k : Int) ≤ (cap : Int) := by omega
      clear hown2 hgrow2 hloc2 hO hA hB hown9 hown helt hap hcc hb
      go_wp2_with fail
      go_ret
      exact hfin.out
set_option maxHeartbeats 2000000 in
set_option maxRecDepth 100000 in
theorem twinV_of (v : Val) (hL : ∀ x ∈ v.L, TwinV x) (hF : ∀ f ∈ v.F, TwinF f) : TwinV v := by
  intro hwt q w h1
  have h9 := wt_val v
  obtain ⟨S1, hS1⟩ : ∃ S1, S1 = w.alloc (.cells #[.int .u8 v.kind, .int .i64 v.n, .string v.s, .slice q.la q.ln q.lc, .slice q.fa q.fn q.fc, .int .u8 v.elem, .string v.key, .bool v.hk] 59) := ⟨_, rfl⟩
  have hb1 : Below w.heap.size w S1 := by rw [hS1]; exact (Below.refl _ _).alloc (Nat.le_refl _) _
  have hr1 : S1.heap[w.heap.size]? = some (.cells #[.int .u8 v.kind, .int .i64 v.n, .string v.s, .slice q.la q.ln q.lc, .slice q.fa q.fn q.fc, .int .u8 v.elem, .string v.key, .bool v.hk] 59 (0, 0)) := by rw [hS1]; exact heap_alloc_new w _
  have hz1 : S1.heap.size = w.heap.size + 1 := by rw [hS1]; simp
  obtain ⟨S, hS⟩ : ∃ S, S = S1.alloc (.cells #[.int .u8 0, .int .i64 0, .string ⟨#[]⟩, .slice none 0 0, .slice none 0 0, .int .u8 0, .string ⟨#[]⟩, .bool false] 59) := ⟨_, rfl⟩
  have hb2 : Below S1.heap.size S1 S := by rw [hS]; exact (Below.refl _ _).alloc (Nat.le_refl _) _
  have hr2 : S.heap[w.heap.size + 1]? = some (.cells #[.int .u8 0, .int .i64 0, .string ⟨#[]⟩, .slice none 0 0, .slice none 0 0, .int .u8 0, .string ⟨#[]⟩, .bool false] 59 (0, 0)) := by rw [hS, ← hz1]; exact heap_alloc_new S1 _
  have hr3 : S.heap[w.heap.size]? = some (.cells #[.int .u8 v.kind, .int .i64 v.n, .string v.s, .slice q.la q.ln q.lc, .slice q.fa q.fn q.fc, .int .u8 v.elem, .string v.key, .bool v.hk] 59 (0, 0)) := (hb2.block _ (by omega)).trans hr1
  have hbS : Below w.heap.size w S := hb1.trans (hb2.mono hb1.size)
  have hzS : S.heap.size = w.heap.size + 2 := by rw [hS]; simp [hz1]
  have hW : Hid (S = _) := hS.trans (by rw [hS1])
  have x0 : S.cell? ⟨w.heap.size, 0, none⟩ = some (.int .u8 v.kind) := by simp [World.cell?, hr3]
  have x1 : S.cell? ⟨w.heap.size, 1, none⟩ = some (.int .i64 v.n) := by simp [World.cell?, hr3]
  have x2 : S.cell? ⟨w.heap.size, 2, none⟩ = some (.string v.s) := by simp [World.cell?, hr3]
  have x3 : S.cell? ⟨w.heap.size, 3, none⟩ = some (.slice q.la q.ln q.lc) := by simp [World.cell?, hr3]
  have x4 : S.cell? ⟨w.heap.size, 4, none⟩ = some (.slice q.fa q.fn q.fc) := by simp [World.cell?, hr3]
  have x5 : S.cell? ⟨w.heap.size, 5, none⟩ = some (.int .u8 v.elem) := by simp [World.cell?, hr3]
  have x6 : S.cell? ⟨w.heap.size, 6, none⟩ = some (.string v.key) := by simp [World.cell?, hr3]
  have x7 : S.cell? ⟨w.heap.size, 7, none⟩ = some (.bool v.hk) := by simp [World.cell?, hr3]
  clear hS hS1 hb1 hb2 hr1 hz1
  have cL : Hid (∀ W, Below S.heap.size S W → Calls Tryz.prog 169 #[.slice q.la q.ln q.lc] W fun e w' => ListTwin 59 8 (v.L.map Val.tr) q.ln W e w') := fun W hW =>
    twinValues_any v.L hL q.la q.ln q.lc W (by omega) ((h1.L.kept (hbS.trans (hW.mono hbS.size))).mono (Nat.le_trans hbS.size hW.size))
  have cF : Hid (∀ W, Below S.heap.size S W → Calls Tryz.prog 78 #[.slice q.fa q.fn q.fc] W fun e w' => ListTwin 61 9 (v.F.map Fld.tr) q.fn W e w') := fun W hW =>
    twinFields_any v.F hF q.fa q.fn q.fc W (by omega) ((h1.F.kept (hbS.trans (hW.mono hbS.size))).mono (Nat.le_trans hbS.size hW.size))
  replace h1 := Lib.hid h1
  replace hbS := Lib.hid hbS
  replace hr2 := Lib.hid hr2
  replace hr3 := Lib.hid hr3
  replace hwt := Lib.hid hwt
  replace h9 := Lib.hid h9
  clear hL hF
  go_enter Tryz.func146, Tryz.ntmps146
  go_wp2_with (first | (rw [← hW.out]) | fail)
  go_region_held3 (fun V => V.cell? ⟨w.heap.size, 0, none⟩ = some (.int .u8 v.kind) ∧ V.cell? ⟨w.heap.size, 1, none⟩ = some (.int .i64 v.n) ∧ V.cell? ⟨w.heap.size, 2, none⟩ = some (.string v.s) ∧ V.cell? ⟨w.heap.size, 3, none⟩ = some (.slice q.la q.ln q.lc) ∧ V.cell? ⟨w.heap.size, 4, none⟩ = some (.slice q.fa q.fn q.fc) ∧ V.cell? ⟨w.heap.size, 5, none⟩ = some (.int .u8 v.elem) ∧ V.cell? ⟨w.heap.size, 6, none⟩ = some (.string v.key) ∧ V.cell? ⟨w.heap.size, 7, none⟩ = some (.bool v.hk)) (first | go_keep | exact ⟨x0, x1, x2, x3, x4, x5, x6, x7⟩)
    (first
      | (go_at_call 169; refine (cL.out _ (drew_low _)).mono ?_; rintro e W1 ⟨g1, p1, R1, rfl, o1, a1, b1⟩; have hbS1 := Lib.hid ((drew_low S).trans (b1.mono (by simp))); replace x0 := (hbS1.out.cell (p := ⟨w.heap.size, 0, none⟩) (by show w.heap.size < _; omega)).trans x0; replace x1 := (hbS1.out.cell (p := ⟨w.heap.size, 1, none⟩) (by show w.heap.size < _; omega)).trans x1; replace x2 := (hbS1.out.cell (p := ⟨w.heap.size, 2, none⟩) (by show w.heap.size < _; omega)).trans x2; replace x3 := (hbS1.out.cell (p := ⟨w.heap.size, 3, none⟩) (by show w.heap.size < _; omega)).trans x3; replace x4 := (hbS1.out.cell (p := ⟨w.heap.size, 4, none⟩) (by show w.heap.size < _; omega)).trans x4; replace x5 := (hbS1.out.cell (p := ⟨w.heap.size, 5, none⟩) (by show w.heap.size < _; omega)).trans x5; replace x6 := (hbS1.out.cell (p := ⟨w.heap.size, 6, none⟩) (by show w.heap.size < _; omega)).trans x6; replace x7 := (hbS1.out.cell (p := ⟨w.heap.size, 7, none⟩) (by show w.heap.size < _; omega)).trans x7; have hzb1 := hbS1.out.size; replace o1 := Lib.hid o1; replace a1 := Lib.hid a1; replace b1 := Lib.hid b1)
      | (go_at_call 78; refine (cF.out _ hbS1.out).mono ?_; rintro e W2 ⟨g2, p2, R2, rfl, o2, a2, b2⟩; have hbS2 := Lib.hid (hbS1.out.trans (b2.mono (by omega))); replace x0 := (b2.cell (p := ⟨w.heap.size, 0, none⟩) (by show w.heap.size < _; omega)).trans x0; replace x1 := (b2.cell (p := ⟨w.heap.size, 1, none⟩) (by show w.heap.size < _; omega)).trans x1; replace x2 := (b2.cell (p := ⟨w.heap.size, 2, none⟩) (by show w.heap.size < _; omega)).trans x2; replace x3 := (b2.cell (p := ⟨w.heap.size, 3, none⟩) (by show w.heap.size < _; omega)).trans x3; replace x4 := (b2.cell (p := ⟨w.heap.size, 4, none⟩) (by show w.heap.size < _; omega)).trans x4; replace x5 := (b2.cell (p := ⟨w.heap.size, 5, none⟩) (by show w.heap.size < _; omega)).trans x5; replace x6 := (b2.cell (p := ⟨w.heap.size, 6, none⟩) (by show w.heap.size < _; omega)).trans x6; replace x7 := (b2.cell (p := ⟨w.heap.size, 7, none⟩) (by show w.heap.size < _; omega)).trans x7; have hzb2 := hbS2.out.size; have hr9 := Lib.hid ((hbS2.out.block (w.heap.size + 1) (by omega)).trans hr2.out); have r0 : W2.cell? ⟨w.heap.size + 1, 0, none⟩ = some (.int .u8 0) := (by simp [World.cell?, hr9.out]); have f0 : W2.frozen? ⟨w.heap.size + 1, 0, none⟩ = false := (by simp [World.frozen?, hr9.out]); have r1 : W2.cell? ⟨w.heap.size + 1, 1, none⟩ = some (.int .i64 0) := (by simp [World.cell?, hr9.out]); have f1 : W2.frozen? ⟨w.heap.size + 1, 1, none⟩ = false := (by simp [World.frozen?, hr9.out]); have r2 : W2.cell? ⟨w.heap.size + 1, 2, none⟩ = some (.string ⟨#[]⟩) := (by simp [World.cell?, hr9.out]); have f2 : W2.frozen? ⟨w.heap.size + 1, 2, none⟩ = false := (by simp [World.frozen?, hr9.out]); have r3 : W2.cell? ⟨w.heap.size + 1, 3, none⟩ = some (.slice none 0 0) := (by simp [World.cell?, hr9.out]); have f3 : W2.frozen? ⟨w.heap.size + 1, 3, none⟩ = false := (by simp [World.frozen?, hr9.out]); have r4 : W2.cell? ⟨w.heap.size + 1, 4, none⟩ = some (.slice none 0 0) := (by simp [World.cell?, hr9.out]); have f4 : W2.frozen? ⟨w.heap.size + 1, 4, none⟩ = false := (by simp [World.frozen?, hr9.out]); have r5 : W2.cell? ⟨w.heap.size + 1, 5, none⟩ = some (.int .u8 0) := (by simp [World.cell?, hr9.out]); have f5 : W2.frozen? ⟨w.heap.size + 1, 5, none⟩ = false := (by simp [World.frozen?, hr9.out]); have r6 : W2.cell? ⟨w.heap.size + 1, 6, none⟩ = some (.string ⟨#[]⟩) := (by simp [World.cell?, hr9.out]); have f6 : W2.frozen? ⟨w.heap.size + 1, 6, none⟩ = false := (by simp [World.frozen?, hr9.out]); have r7 : W2.cell? ⟨w.heap.size + 1, 7, none⟩ = some (.bool false) := (by simp [World.cell?, hr9.out]); have f7 : W2.frozen? ⟨w.heap.size + 1, 7, none⟩ = false := (by simp [World.frozen?, hr9.out]); replace o2 := Lib.hid o2; replace a2 := Lib.hid a2; replace b2 := Lib.hid b2))
  have hg5 : Hid (((((((((W2.setCell ⟨w.heap.size + 1, 0, none⟩ (.int .u8 v.kind)).setCell ⟨w.heap.size + 1, 1, none⟩ (.int .i64 v.n)).setCell ⟨w.heap.size + 1, 2, none⟩ (.string v.s)).setCell ⟨w.heap.size + 1, 3, none⟩ (.slice (some ⟨g1, 0, none⟩) q.ln p1)).setCell ⟨w.heap.size + 1, 4, none⟩ (.slice (some ⟨g2, 0, none⟩) q.fn p2)).setCell ⟨w.heap.size + 1, 5, none⟩ (.int .u8 v.elem)).setCell ⟨w.heap.size + 1, 6, none⟩ (.string v.key)).setCell ⟨w.heap.size + 1, 7, none⟩ (.bool v.hk)).heap[w.heap.size + 1]? = some (.cells #[.int .u8 v.kind, .int .i64 v.n, .string v.s, .slice (some ⟨g1, 0, none⟩) q.ln p1, .slice (some ⟨g2, 0, none⟩) q.fn p2, .int .u8 v.elem, .string v.key, .bool v.hk] 59 (0, 0))) := set8_row hr9.out _ _ _ _ _ _ _ _
  have hgr : W2.grownBy ((((((((W2.setCell ⟨w.heap.size + 1, 0, none⟩ (.int .u8 v.kind)).setCell ⟨w.heap.size + 1, 1, none⟩ (.int .i64 v.n)).setCell ⟨w.heap.size + 1, 2, none⟩ (.string v.s)).setCell ⟨w.heap.size + 1, 3, none⟩ (.slice (some ⟨g1, 0, none⟩) q.ln p1)).setCell ⟨w.heap.size + 1, 4, none⟩ (.slice (some ⟨g2, 0, none⟩) q.fn p2)).setCell ⟨w.heap.size + 1, 5, none⟩ (.int .u8 v.elem)).setCell ⟨w.heap.size + 1, 6, none⟩ (.string v.key)).setCell ⟨w.heap.size + 1, 7, none⟩ (.bool v.hk)) (some (w.heap.size + 1)) := set8_grown W2 (w.heap.size + 1) _ _ _ _ _ _ _ _
  have oL := ((o1.out.base (show w.heap.size ≤ S.drew.heap.size from hbS.out.size)).later b2.out).kept hgr (fun r hr k hk e => by
    have h5 : S.heap.size ≤ k := (o1.out.within r hr k hk).1
    injection e with e; omega)
  have oF := (o2.out.base (show w.heap.size ≤ W1.heap.size by omega)).kept hgr (fun r hr k hk e => by
    have h5 : W1.heap.size ≤ k := (o2.out.within r hr k hk).1
    injection e with e; omega)
  have hfin : Hid (OneTwinV v w (.returned (.agg #[.int .u8 v.kind, .int .i64 v.n, .string v.s, .slice (some ⟨g1, 0, none⟩) q.ln p1, .slice (some ⟨g2, 0, none⟩) q.fn p2, .int .u8 v.elem, .string v.key, .bool v.hk])) ((((((((W2.setCell ⟨w.heap.size + 1, 0, none⟩ (.int .u8 v.kind)).setCell ⟨w.heap.size + 1, 1, none⟩ (.int .i64 v.n)).setCell ⟨w.heap.size + 1, 2, none⟩ (.string v.s)).setCell ⟨w.heap.size + 1, 3, none⟩ (.slice (some ⟨g1, 0, none⟩) q.ln p1)).setCell ⟨w.heap.size + 1, 4, none⟩ (.slice (some ⟨g2, 0, none⟩) q.fn p2)).setCell ⟨w.heap.size + 1, 5, none⟩ (.int .u8 v.elem)).setCell ⟨w.heap.size + 1, 6, none⟩ (.string v.key)).setCell ⟨w.heap.size + 1, 7, none⟩ (.bool v.hk))) :=
    ⟨⟨some ⟨g1, 0, none⟩, q.ln, p1, some ⟨g2, 0, none⟩, q.fn, p2⟩, R1 ++ R2, rfl, Own.val (q := ⟨some ⟨g1, 0, none⟩, q.ln, p1, some ⟨g2, 0, none⟩, q.fn, p2⟩) h1.out oL oF, a1.out.append a2.out o1.out.within o2.out.within, (hbS.out.trans (hbS2.out.mono hbS.out.size)).grown hgr (by omega) (fun k hk => by injection hk with hk; omega)⟩
  clear hgr oL oF r0 f0 r1 f1 r2 f2 r3 f3 r4 f4 r5 f5 r6 f6 r7 f7
  go_wp2_with fail
  exact bodyPost_ret (results_cell1 (fn := Tryz.f146) (p := 2) (ty := 59) (by kernel_rfl) _ _ _ _ _ _ _ rfl hg5.out Tryz.underlying59 rfl size_val) rfl hfin.out
theorem twinV_any (v : Val) : TwinV v := Val.ind (fun _ _ _ _ _ _ _ _ hL hF => twinV_of _ hL (fun f hf => twinF_of f (hF f hf))) v
theorem twinF_any (v : Fld) : TwinF v := twinF_of v (twinV_any _)
def OneTwinN (v : Nd) (w : World) (e : Ending) (w' : World) : Prop := ∃ (q : NP) (R : List Row), e = .returned (.agg #[.int .i64 v.id, .string v.tag, .string v.text, .slice q.aa q.an q.ac, .slice q.ka q.kn q.kc]) ∧ Own w' w.heap.size twinM mkS v.tr (q.cells v) R ∧ Apart R ∧ Below w.heap.size w w'
def TwinN (v : Nd) : Prop := v.tr.wt ≤ 1048576 → ∀ (q : NP) (w : World), NAt w w.heap.size v q →
  Calls Tryz.prog 16 #[.agg #[.int .i64 v.id, .string v.tag, .string v.text, .slice q.aa q.an q.ac, .slice q.ka q.kn q.kc]] w fun e w' => OneTwinN v w e w'
set_option maxHeartbeats 2000000 in
set_option maxRecDepth 100000 in
theorem twinNodes_any (L : List Nd) (hT : ∀ v ∈ L, TwinN v) (a : Option Addr) (n c : Nat) (w : World) (hwt : L.length + wts (L.map Nd.tr) ≤ 1048576) (h1 : NLs w w.heap.size L a n) :
    Calls Tryz.prog 6 #[.slice a n c] w fun e w' => ListTwin 53 5 (L.map Nd.tr) n w e w' := by
  obtain ⟨i0, hi, hz0, hz1, hz2⟩ := info_parts infoN
  have hl := h1.len.1
  have hll := hl
  rw [List.length_map] at hll
  have hn : n ≤ 1048576 := by omega
  obtain ⟨es, hes⟩ : ∃ es, es = L.map Nd.tr := ⟨_, rfl⟩
  rw [← hes] at hl hwt ⊢
  have hmk : ∀ u : World, (Instr.makeSlice 22 (.int .i64 0) (.int .i64 ((n : Int) + 1))).run Tryz.prog u = .ok (.slice (some ⟨u.heap.size, 0, none⟩) 0 (n + 1)) (u.alloc (.cells (madeCells #[.int .i64 0, .string ⟨#[]⟩, .string ⟨#[]⟩, .slice none 0 0, .slice none 0 0] ((n + 1) * 5)) 53)) := fun u => by
    have h := run_make (P := Tryz.prog) u 22 53 i0 (.agg #[.int .i64 0, .string ⟨#[]⟩, .string ⟨#[]⟩, .slice none 0 0, .slice none 0 0]) Tryz.underlying22 hi hz0 .i64 .i64 0 ((n : Int) + 1) (by omega) (by omega) (by rw [hz2]; omega) (by omega)
    have e : ((n : Int) + 1).toNat = n + 1 := by omega
    rw [e, hz1] at h
    exact h
  obtain ⟨S, hS⟩ : ∃ S, S = w.alloc (.cells (madeCells #[.int .i64 0, .string ⟨#[]⟩, .string ⟨#[]⟩, .slice none 0 0, .slice none 0 0] ((n + 1) * 5)) 53) := ⟨_, rfl⟩
  have hG0 : Grow w S twinM mkS 53 5 es 0 (.slice (some ⟨w.heap.size, 0, none⟩) 0 (n + 1)) := by
    rw [hS]
    exact Grow.start ((Below.refl _ _).alloc (Nat.le_refl _) _) (World.ownsRow_made _ _ _ (Nat.le_refl _) (by unfold maxLen; omega) (by simp [madeCells]))
  replace hS := Lib.hid hS
  replace hG0 := Lib.hid hG0
  replace hl := Lib.hid hl
  replace hll := Lib.hid hll
  replace h1 := Lib.hid h1
  replace hT := Lib.hid hT
  replace hwt := Lib.hid hwt
  replace hes := Lib.hid hes
  go_enter Tryz.func6, Tryz.ntmps6
  go_wp2_with (first | (rw [← hS.out]) | fail)
  go_loopw [3, 4] (fun u i wr => ∃ k : Nat, k ≤ n ∧ i = .int .i64 (k : Nat) ∧ Grow w wr twinM mkS 53 5 es k u) (fun _ i _ => n - (intOf i).toNat)
  case atStart => exact ⟨0, Nat.zero_le _, rfl, hG0.out⟩
  case round =>
    obtain ⟨k, hk, rfl, hb, _, cc, RR, hcc, hown, helt, hap⟩ := hrel
    clear hmk
    by_cases hlt : k < n
    · have hlt9 : Hid (k + 1 ≤ n) := hlt
      obtain ⟨b1, o1, v, q1, rfl, hb1, hg1, hc1, hv1⟩ := NLs.elem (h1.out.kept hb) k hlt
      have x0 : wr.cell? ⟨b1, o1 + k * 5, none⟩ = some (.int .i64 v.id) := hc1 0 (by omega)
      have x1 : wr.cell? ⟨b1, o1 + k * 5 + 1, none⟩ = some (.string v.tag) := by rw [Nat.add_assoc]; exact hc1 1 (by omega)
      have x2 : wr.cell? ⟨b1, o1 + k * 5 + 2, none⟩ = some (.string v.text) := by rw [Nat.add_assoc]; exact hc1 2 (by omega)
      have x3 : wr.cell? ⟨b1, o1 + k * 5 + 3, none⟩ = some (.slice q1.aa q1.an q1.ac) := by rw [Nat.add_assoc]; exact hc1 3 (by omega)
      have x4 : wr.cell? ⟨b1, o1 + k * 5 + 4, none⟩ = some (.slice q1.ka q1.kn q1.kc) := by rw [Nat.add_assoc]; exact hc1 4 (by omega)
      have hke : k < es.length := by have := hl.out; omega
      have hgt : es[k] = v.tr := by
        have : es[k]? = some v.tr := by rw [hes.out, List.getElem?_map, hg1]; rfl
        rw [List.getElem?_eq_getElem hke] at this
        exact Option.some.inj this
      have hwv : v.tr.wt ≤ 1048576 := by
        have := wts_mem (List.getElem_mem hke)
        rw [hgt] at this
        have := hwt.out; omega
      have cT := hT.out v (List.mem_of_getElem? hg1) hwv q1 wr (hv1.mono hb.size)
      replace cT := Lib.hid cT
      replace hb := Lib.hid hb
      replace hcc := Lib.hid hcc
      replace hown := Lib.hid hown
      replace helt := Lib.hid helt
      replace hap := Lib.hid hap
      replace hgt := Lib.hid hgt
      clear hc1 hv1 hg1
      go_wp2_with (go_at_call 16; refine cT.out.mono ?_)
      rintro e W1 ⟨q', R, rfl, ho, hR, hbW⟩
      have hzW := hbW.size
      have hzb := hb.out.size
      have hown1 : Hid (W1.ownsRow w.heap.size 53 5 u3 k ((List.range k).flatMap cc)) := hown.out.kept (grown_none hbW) (Classical.em _)
      replace ho := Lib.hid ho
      replace hR := Lib.hid hR
      replace hbW := Lib.hid hbW
      clear cT
      go_wp2_with (at_builtin; refine wpList_append_own_at _ rfl _ _ 22 rfl w.heap.size 53 i0 _ 5 88 Tryz.underlying22 hi hz0 hz1 hz2 rfl (by decide) _ _ _ rfl (hown1.out.alloc _) ⟨W1.heap.size, 0, none⟩ 1 1 [.int .i64 v.id, .string v.tag, .string v.text, .slice q'.aa q'.an q'.ac, .slice q'.ka q'.kn q'.kc] rfl rfl (World.news_of_block (cs := #[.int .i64 v.id, .string v.tag, .string v.text, .slice q'.aa q'.an q'.ac, .slice q'.ka q'.kn q'.kc]) (t := 53) (fr := (0, 0)) (heap_alloc_new W1 _)) (by simp [Value.oneCell']) (by unfold maxLen; omega) (by omega) (by simp; omega) ?_)
      intro v' W2 hown2 hgrow2 _ hloc2
      have hG : Hid (Grow w W2 twinM mkS 53 5 es (k + 1) v') := grow_step hb.out hcc.out hown.out helt.out hap.out hke hbW.out (by rw [hgt.out]; exact ho.out) hR.out rfl _ hgrow2 hloc2 hown2
      clear hown2 hgrow2 hloc2 hown1 ho hR hbW hown helt hap hcc hb
      go_wp2_with fail
      go_roundw
      case rel => exact ⟨k + 1, hlt9.out, by go_num, hG.out⟩
      case measure => simp [intOf]; have := hlt9.out; omega
    · obtain rfl : k = n := by omega
      obtain ⟨m, hm⟩ : ∃ m, m = es.length := ⟨_, rfl⟩
      obtain rfl : k = m := by have := hl.out; omega
      rw [hm] at hcc hown helt hap
      replace hb := Lib.hid hb
      replace hcc := Lib.hid hcc
      replace hown := Lib.hid hown
      replace helt := Lib.hid helt
      replace hap := Lib.hid hap
      have hown9 : Hid (wr.ownsRow w.heap.size 53 5 u3 k ((List.range es.length).flatMap cc)) := by show wr.ownsRow _ _ _ _ _ _; rw [hm]; exact hown.out
      have hzb := hb.out.size
      replace hm := Lib.hid hm
      go_wp2_with (at_builtin; refine wpList_append_own_at _ rfl _ _ 22 rfl w.heap.size 53 i0 _ 5 88 Tryz.underlying22 hi hz0 hz1 hz2 rfl (by decide) _ _ _ rfl (hown9.out.alloc _) ⟨wr.heap.size, 0, none⟩ 1 1 [.int .i64 7777, .string ⟨#[]⟩, .string ⟨#[]⟩, .slice none 0 0, .slice none 0 0] rfl rfl (World.news_of_block (cs := #[.int .i64 7777, .string ⟨#[]⟩, .string ⟨#[]⟩, .slice none 0 0, .slice none 0 0]) (t := 53) (fr := (0, 0)) (heap_alloc_new wr _)) (by simp [Value.oneCell']) (by unfold maxLen; omega) (by omega) (by simp; omega) ?_)
      intro v' W2 hown2 hgrow2 _ hloc2
      obtain ⟨g, cap, hv', _, _⟩ := hown2.form (by omega)
      subst hv'
      have hcap := (ownsRow_cap hown2).1
      rw [hm.out] at hown2 hloc2
      obtain ⟨R, hO, hA, hB⟩ := grow_mark hb.out hcc.out hown.out helt.out hap.out _ rfl (by have := hm.out; omega) hgrow2 hloc2 hown2
      have hfin : Hid (ListTwin 53 5 es k w (.returned (.slice (some ⟨g, 0, none⟩) k cap)) W2) := by
        refine ⟨g, cap, R, rfl, ?_, hA, hB⟩
        rw [← hm.out] at hO
        exact hO
      have hkc : (k : Int) ≤ (cap : Int) := by omega
      clear hown2 hgrow2 hloc2 hO hA hB hown9 hown helt hap hcc hb
      go_wp2_with fail
      go_ret
      exact hfin.out
set_option maxHeartbeats 2000000 in
set_option maxRecDepth 100000 in
theorem twinN_of (v : Nd) (hK : ∀ x ∈ v.kids, TwinN x) : TwinN v := by
  intro hwt q w h1
  have h9 := wt_nd v
  obtain ⟨S1, hS1⟩ : ∃ S1, S1 = w.alloc (.cells #[.int .i64 v.id, .string v.tag, .string v.text, .slice q.aa q.an q.ac, .slice q.ka q.kn q.kc] 53) := ⟨_, rfl⟩
  have hb1 : Below w.heap.size w S1 := by rw [hS1]; exact (Below.refl _ _).alloc (Nat.le_refl _) _
  have hr1 : S1.heap[w.heap.size]? = some (.cells #[.int .i64 v.id, .string v.tag, .string v.text, .slice q.aa q.an q.ac, .slice q.ka q.kn q.kc] 53 (0, 0)) := by rw [hS1]; exact heap_alloc_new w _
  have hz1 : S1.heap.size = w.heap.size + 1 := by rw [hS1]; simp
  obtain ⟨S, hS⟩ : ∃ S, S = S1.alloc (.cells #[.int .i64 0, .string ⟨#[]⟩, .string ⟨#[]⟩, .slice none 0 0, .slice none 0 0] 53) := ⟨_, rfl⟩
  have hb2 : Below S1.heap.size S1 S := by rw [hS]; exact (Below.refl _ _).alloc (Nat.le_refl _) _
  have hr2 : S.heap[w.heap.size + 1]? = some (.cells #[.int .i64 0, .string ⟨#[]⟩, .string ⟨#[]⟩, .slice none 0 0, .slice none 0 0] 53 (0, 0)) := by rw [hS, ← hz1]; exact heap_alloc_new S1 _
  have hr3 : S.heap[w.heap.size]? = some (.cells #[.int .i64 v.id, .string v.tag, .string v.text, .slice q.aa q.an q.ac, .slice q.ka q.kn q.kc] 53 (0, 0)) := (hb2.block _ (by omega)).trans hr1
  have hbS : Below w.heap.size w S := hb1.trans (hb2.mono hb1.size)
  have hzS : S.heap.size = w.heap.size + 2 := by rw [hS]; simp [hz1]
  have hW : Hid (S = _) := hS.trans (by rw [hS1])
  have x0 : S.cell? ⟨w.heap.size, 0, none⟩ = some (.int .i64 v.id) := by simp [World.cell?, hr3]
  have x1 : S.cell? ⟨w.heap.size, 1, none⟩ = some (.string v.tag) := by simp [World.cell?, hr3]
  have x2 : S.cell? ⟨w.heap.size, 2, none⟩ = some (.string v.text) := by simp [World.cell?, hr3]
  have x3 : S.cell? ⟨w.heap.size, 3, none⟩ = some (.slice q.aa q.an q.ac) := by simp [World.cell?, hr3]
  have x4 : S.cell? ⟨w.heap.size, 4, none⟩ = some (.slice q.ka q.kn q.kc) := by simp [World.cell?, hr3]
  clear hS hS1 hb1 hb2 hr1 hz1
  have cL : Hid (∀ W, Below S.heap.size S W → Calls Tryz.prog 78 #[.slice q.aa q.an q.ac] W fun e w' => ListTwin 61 9 (v.attrs.map Fld.tr) q.an W e w') := fun W hW =>
    twinFields_any v.attrs (fun f _ => twinF_any f) q.aa q.an q.ac W (by omega) ((h1.A.kept (hbS.trans (hW.mono hbS.size))).mono (Nat.le_trans hbS.size hW.size))
  have cF : Hid (∀ W, Below S.heap.size S W → Calls Tryz.prog 6 #[.slice q.ka q.kn q.kc] W fun e w' => ListTwin 53 5 (v.kids.map Nd.tr) q.kn W e w') := fun W hW =>
    twinNodes_any v.kids hK q.ka q.kn q.kc W (by omega) ((h1.K.kept (hbS.trans (hW.mono hbS.size))).mono (Nat.le_trans hbS.size hW.size))
  replace h1 := Lib.hid h1
  replace hbS := Lib.hid hbS
  replace hr2 := Lib.hid hr2
  replace hr3 := Lib.hid hr3
  replace hwt := Lib.hid hwt
  replace h9 := Lib.hid h9
  clear hK
  go_enter Tryz.func16, Tryz.ntmps16
  go_wp2_with (first | (rw [← hW.out]) | fail)
  go_region_held3 (fun V => V.cell? ⟨w.heap.size, 0, none⟩ = some (.int .i64 v.id) ∧ V.cell? ⟨w.heap.size, 1, none⟩ = some (.string v.tag) ∧ V.cell? ⟨w.heap.size, 2, none⟩ = some (.string v.text) ∧ V.cell? ⟨w.heap.size, 3, none⟩ = some (.slice q.aa q.an q.ac) ∧ V.cell? ⟨w.heap.size, 4, none⟩ = some (.slice q.ka q.kn q.kc)) (first | go_keep | exact ⟨x0, x1, x2, x3, x4⟩)
    (first
      | (go_at_call 78; refine (cL.out _ (drew_low _)).mono ?_; rintro e W1 ⟨g1, p1, R1, rfl, o1, a1, b1⟩; have hbS1 := Lib.hid ((drew_low S).trans (b1.mono (by simp))); replace x0 := (hbS1.out.cell (p := ⟨w.heap.size, 0, none⟩) (by show w.heap.size < _; omega)).trans x0; replace x1 := (hbS1.out.cell (p := ⟨w.heap.size, 1, none⟩) (by show w.heap.size < _; omega)).trans x1; replace x2 := (hbS1.out.cell (p := ⟨w.heap.size, 2, none⟩) (by show w.heap.size < _; omega)).trans x2; replace x3 := (hbS1.out.cell (p := ⟨w.heap.size, 3, none⟩) (by show w.heap.size < _; omega)).trans x3; replace x4 := (hbS1.out.cell (p := ⟨w.heap.size, 4, none⟩) (by show w.heap.size < _; omega)).trans x4; have hzb1 := hbS1.out.size; replace o1 := Lib.hid o1; replace a1 := Lib.hid a1; replace b1 := Lib.hid b1)
      | (go_at_call 6; refine (cF.out _ hbS1.out).mono ?_; rintro e W2 ⟨g2, p2, R2, rfl, o2, a2, b2⟩; have hbS2 := Lib.hid (hbS1.out.trans (b2.mono (by omega))); replace x0 := (b2.cell (p := ⟨w.heap.size, 0, none⟩) (by show w.heap.size < _; omega)).trans x0; replace x1 := (b2.cell (p := ⟨w.heap.size, 1, none⟩) (by show w.heap.size < _; omega)).trans x1; replace x2 := (b2.cell (p := ⟨w.heap.size, 2, none⟩) (by show w.heap.size < _; omega)).trans x2; replace x3 := (b2.cell (p := ⟨w.heap.size, 3, none⟩) (by show w.heap.size < _; omega)).trans x3; replace x4 := (b2.cell (p := ⟨w.heap.size, 4, none⟩) (by show w.heap.size < _; omega)).trans x4; have hzb2 := hbS2.out.size; have hr9 := Lib.hid ((hbS2.out.block (w.heap.size + 1) (by omega)).trans hr2.out); have r0 : W2.cell? ⟨w.heap.size + 1, 0, none⟩ = some (.int .i64 0) := (by simp [World.cell?, hr9.out]); have f0 : W2.frozen? ⟨w.heap.size + 1, 0, none⟩ = false := (by simp [World.frozen?, hr9.out]); have r1 : W2.cell? ⟨w.heap.size + 1, 1, none⟩ = some (.string ⟨#[]⟩) := (by simp [World.cell?, hr9.out]); have f1 : W2.frozen? ⟨w.heap.size + 1, 1, none⟩ = false := (by simp [World.frozen?, hr9.out]); have r2 : W2.cell? ⟨w.heap.size + 1, 2, none⟩ = some (.string ⟨#[]⟩) := (by simp [World.cell?, hr9.out]); have f2 : W2.frozen? ⟨w.heap.size + 1, 2, none⟩ = false := (by simp [World.frozen?, hr9.out]); have r3 : W2.cell? ⟨w.heap.size + 1, 3, none⟩ = some (.slice none 0 0) := (by simp [World.cell?, hr9.out]); have f3 : W2.frozen? ⟨w.heap.size + 1, 3, none⟩ = false := (by simp [World.frozen?, hr9.out]); have r4 : W2.cell? ⟨w.heap.size + 1, 4, none⟩ = some (.slice none 0 0) := (by simp [World.cell?, hr9.out]); have f4 : W2.frozen? ⟨w.heap.size + 1, 4, none⟩ = false := (by simp [World.frozen?, hr9.out]); replace o2 := Lib.hid o2; replace a2 := Lib.hid a2; replace b2 := Lib.hid b2))
  have hg5 : Hid ((((((W2.setCell ⟨w.heap.size + 1, 0, none⟩ (.int .i64 v.id)).setCell ⟨w.heap.size + 1, 1, none⟩ (.string v.tag)).setCell ⟨w.heap.size + 1, 2, none⟩ (.string v.text)).setCell ⟨w.heap.size + 1, 3, none⟩ (.slice (some ⟨g1, 0, none⟩) q.an p1)).setCell ⟨w.heap.size + 1, 4, none⟩ (.slice (some ⟨g2, 0, none⟩) q.kn p2)).heap[w.heap.size + 1]? = some (.cells #[.int .i64 v.id, .string v.tag, .string v.text, .slice (some ⟨g1, 0, none⟩) q.an p1, .slice (some ⟨g2, 0, none⟩) q.kn p2] 53 (0, 0))) := set5_row hr9.out _ _ _ _ _
  have hgr : W2.grownBy (((((W2.setCell ⟨w.heap.size + 1, 0, none⟩ (.int .i64 v.id)).setCell ⟨w.heap.size + 1, 1, none⟩ (.string v.tag)).setCell ⟨w.heap.size + 1, 2, none⟩ (.string v.text)).setCell ⟨w.heap.size + 1, 3, none⟩ (.slice (some ⟨g1, 0, none⟩) q.an p1)).setCell ⟨w.heap.size + 1, 4, none⟩ (.slice (some ⟨g2, 0, none⟩) q.kn p2)) (some (w.heap.size + 1)) := set5_grown W2 (w.heap.size + 1) _ _ _ _ _
  have oL := ((o1.out.base (show w.heap.size ≤ S.drew.heap.size from hbS.out.size)).later b2.out).kept hgr (fun r hr k hk e => by
    have h5 : S.heap.size ≤ k := (o1.out.within r hr k hk).1
    injection e with e; omega)
  have oF := (o2.out.base (show w.heap.size ≤ W1.heap.size by omega)).kept hgr (fun r hr k hk e => by
    have h5 : W1.heap.size ≤ k := (o2.out.within r hr k hk).1
    injection e with e; omega)
  have hfin : Hid (OneTwinN v w (.returned (.agg #[.int .i64 v.id, .string v.tag, .string v.text, .slice (some ⟨g1, 0, none⟩) q.an p1, .slice (some ⟨g2, 0, none⟩) q.kn p2])) (((((W2.setCell ⟨w.heap.size + 1, 0, none⟩ (.int .i64 v.id)).setCell ⟨w.heap.size + 1, 1, none⟩ (.string v.tag)).setCell ⟨w.heap.size + 1, 2, none⟩ (.string v.text)).setCell ⟨w.heap.size + 1, 3, none⟩ (.slice (some ⟨g1, 0, none⟩) q.an p1)).setCell ⟨w.heap.size + 1, 4, none⟩ (.slice (some ⟨g2, 0, none⟩) q.kn p2))) :=
    ⟨⟨some ⟨g1, 0, none⟩, q.an, p1, some ⟨g2, 0, none⟩, q.kn, p2⟩, R1 ++ R2, rfl, Own.nd (q := ⟨some ⟨g1, 0, none⟩, q.an, p1, some ⟨g2, 0, none⟩, q.kn, p2⟩) h1.out oL oF, a1.out.append a2.out o1.out.within o2.out.within, (hbS.out.trans (hbS2.out.mono hbS.out.size)).grown hgr (by omega) (fun k hk => by injection hk with hk; omega)⟩
  clear hgr oL oF r0 f0 r1 f1 r2 f2 r3 f3 r4 f4
  go_wp2_with fail
  exact bodyPost_ret (results_cell1 (fn := Tryz.f16) (p := 2) (ty := 53) (by kernel_rfl) _ _ _ _ _ _ _ rfl hg5.out Tryz.underlying53 rfl size_nd) rfl hfin.out
theorem twinN_any (v : Nd) : TwinN v := Nd.ind (fun _ _ _ _ _ hL => twinN_of _ hL) v
end Go.Proofs.YtehcbicngbibgaaGreatDoor
