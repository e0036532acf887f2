/- PrintTexts, part 6. -/
import Derived.Test.YtlppklbmdedipaaGreatDoorW02
import Derived.Test.YtlppklbmdedipaaGreatDoorW05
import Derived.Deep.AppendLies
import Derived.Deep.RegionHeld3
namespace Go.Proofs.YtlppklbmdedipaaGreatDoor
open Go Go.RowKit
set_option maxHeartbeats 8000000
set_option maxRecDepth 100000

def mkS (E : Nat) : List Value := if E = 9 then [.string ⟨#[115, 112, 97, 114, 101]⟩] else if E = 50 then [.int .u8 0, .int .i64 0, .string ⟨#[115, 112, 97, 114, 101]⟩, .slice none 0 0, .slice none 0 0, .slice none 0 0, .int .u8 0, .slice none 0 0, .slice none 0 0, .string ⟨#[]⟩] else if E = 101 then [.int .u8 0, .string ⟨#[115, 112, 97, 114, 101]⟩, .int .u8 0, .int .i64 0, .string ⟨#[]⟩, .slice none 0 0, .slice none 0 0, .slice none 0 0, .int .u8 0, .slice none 0 0, .slice none 0 0, .string ⟨#[]⟩] else if E = 63 then [.int .u8 0, .string ⟨#[115, 112, 97, 114, 101]⟩, .string ⟨#[]⟩, .int .u8 0, .int .i64 0, .string ⟨#[]⟩, .slice none 0 0, .slice none 0 0, .slice none 0 0, .int .u8 0, .slice none 0 0, .slice none 0 0, .string ⟨#[]⟩, .slice none 0 0, .slice none 0 0, .slice none 0 0, .slice none 0 0] else [.string ⟨#[115, 112, 97, 114, 101]⟩, .string ⟨#[]⟩, .slice none 0 0, .int .u8 0, .int .i64 0, .string ⟨#[]⟩, .slice none 0 0, .slice none 0 0, .slice none 0 0, .int .u8 0, .slice none 0 0, .slice none 0 0, .string ⟨#[]⟩]
theorem infoEx : (Tryz.prog.info? 50).map (fun i => (i.zero, i.size, i.bytes)) = some (some (.agg #[.int .u8 0, .int .i64 0, .string ⟨#[]⟩, .slice none 0 0, .slice none 0 0, .slice none 0 0, .int .u8 0, .slice none 0 0, .slice none 0 0, .string ⟨#[]⟩]), 10, 176) := by kernel_rfl
theorem infoAc : (Tryz.prog.info? 101).map (fun i => (i.zero, i.size, i.bytes)) = some (some (.agg #[.int .u8 0, .string ⟨#[]⟩, .int .u8 0, .int .i64 0, .string ⟨#[]⟩, .slice none 0 0, .slice none 0 0, .slice none 0 0, .int .u8 0, .slice none 0 0, .slice none 0 0, .string ⟨#[]⟩]), 12, 200) := by kernel_rfl
theorem infoSt : (Tryz.prog.info? 63).map (fun i => (i.zero, i.size, i.bytes)) = some (some (.agg #[.int .u8 0, .string ⟨#[]⟩, .string ⟨#[]⟩, .int .u8 0, .int .i64 0, .string ⟨#[]⟩, .slice none 0 0, .slice none 0 0, .slice none 0 0, .int .u8 0, .slice none 0 0, .slice none 0 0, .string ⟨#[]⟩, .slice none 0 0, .slice none 0 0, .slice none 0 0, .slice none 0 0]), 17, 312) := by kernel_rfl
theorem infoCo : (Tryz.prog.info? 52).map (fun i => (i.zero, i.size, i.bytes)) = some (some (.agg #[.string ⟨#[]⟩, .string ⟨#[]⟩, .slice none 0 0, .int .u8 0, .int .i64 0, .string ⟨#[]⟩, .slice none 0 0, .slice none 0 0, .slice none 0 0, .int .u8 0, .slice none 0 0, .slice none 0 0, .string ⟨#[]⟩]), 13, 232) := by kernel_rfl
theorem infoTx : (Tryz.prog.info? 9).map (fun i => (i.zero, i.size, i.bytes)) = some (some (.string ⟨#[]⟩), 1, 16) := by kernel_rfl
def ListTwin (E K : Nat) (es : List T) (n : Nat) (w : World) (e : Ending) (w' : World) : Prop := ∃ (g cap : Nat) (R : List Row), e = .returned (.slice (some ⟨g, 0, none⟩) n cap) ∧ Own w' w.heap.size twinM mkS (.lst E K es) [.slice (some ⟨g, 0, none⟩) n cap] R ∧ Apart R ∧ Below w.heap.size w w'
theorem blk_set {w : World} {g : Nat} {cs : Array Value} {t : TypeId} (h : w.heap[g]? = some (.cells cs t (0, 0))) (j : Nat) (v : Value) :
  (w.setCell ⟨g, j, none⟩ v).heap[g]? = some (.cells (cs.setIfInBounds j v) t (0, 0)) := by
 simp [World.setCell, Array.getElem?_modify, h]
theorem cell_grown (W : World) (g j : Nat) (v : Value) : W.grownBy (W.setCell ⟨g, j, none⟩ v) (some g) := ⟨rfl, rfl, rfl, by simp, fun k _ hk => Below.heap_setCell _ _ _ _ (fun e => hk (by rw [e]))⟩
theorem grown_again {a b c : World} {row : Option Nat} (h : a.grownBy b row) (k : b.grownBy c row) : a.grownBy c row :=
 ⟨k.os.trans h.os, k.tape.trans h.tape, k.output.trans h.output, Nat.le_trans h.size k.size, fun i hi hne => (k.block i (Nat.lt_of_lt_of_le hi h.size) hne).trans (h.block i hi hne)⟩
theorem results_cell1 {P : Program} {fn : Func} {p : Tmp} {ty : TypeId} (h : fn.results = #[.cell p ty]) (tmps : Array Value) (w : World) (g : Nat) (t : TypeId) (cs : Array Value) (fr : Nat × Nat) (d : TypeDesc)
  (hp : tmps.getD p undef = .pointer (some ⟨g, 0, none⟩)) (hg : w.heap[g]? = some (.cells cs t fr))
  (hu : P.underlying ty = some d) (hd : (match d with | .struct _ | .array _ _ => true | _ => false) = true) (hi : (P.info? ty).map (·.size) = some cs.size) :
  (results fn tmps).run P w = .ok (.agg cs) w := by
 have hp' : tmps[p]?.getD undef = .pointer (some ⟨g, 0, none⟩) := by simpa using hp
 simp [results, h, hp', asAddr, run_loadVar_row w g t ty cs fr d hg hu hd hi]
theorem set10_row {W : World} {g : Nat} {t : TypeId} {a0 a1 a2 a3 a4 a5 a6 a7 a8 a9 : Value} (h : W.heap[g]? = some (.cells #[a0, a1, a2, a3, a4, a5, a6, a7, a8, a9] t (0, 0))) (b0 b1 b2 b3 b4 b5 b6 b7 b8 b9 : Value) : ((((((((((W.setCell ⟨g, 0, none⟩ b0).setCell ⟨g, 1, none⟩ b1).setCell ⟨g, 2, none⟩ b2).setCell ⟨g, 3, none⟩ b3).setCell ⟨g, 4, none⟩ b4).setCell ⟨g, 5, none⟩ b5).setCell ⟨g, 6, none⟩ b6).setCell ⟨g, 7, none⟩ b7).setCell ⟨g, 8, none⟩ b8).setCell ⟨g, 9, none⟩ b9).heap[g]? = some (.cells #[b0, b1, b2, b3, b4, b5, b6, b7, b8, b9] t (0, 0)) := by
 have h0 := h
 have h1 : (W.setCell ⟨g, 0, none⟩ b0).heap[g]? = some (.cells #[b0, a1, a2, a3, a4, a5, a6, a7, a8, a9] t (0, 0)) := blk_set h0 0 b0
 generalize W.setCell ⟨g, 0, none⟩ b0 = W0 at *
 have h2 : (W0.setCell ⟨g, 1, none⟩ b1).heap[g]? = some (.cells #[b0, b1, a2, a3, a4, a5, a6, a7, a8, a9] t (0, 0)) := blk_set h1 1 b1
 generalize W0.setCell ⟨g, 1, none⟩ b1 = W1 at *
 have h3 : (W1.setCell ⟨g, 2, none⟩ b2).heap[g]? = some (.cells #[b0, b1, b2, a3, a4, a5, a6, a7, a8, a9] t (0, 0)) := blk_set h2 2 b2
 generalize W1.setCell ⟨g, 2, none⟩ b2 = W2 at *
 have h4 : (W2.setCell ⟨g, 3, none⟩ b3).heap[g]? = some (.cells #[b0, b1, b2, b3, a4, a5, a6, a7, a8, a9] t (0, 0)) := blk_set h3 3 b3
 generalize W2.setCell ⟨g, 3, none⟩ b3 = W3 at *
 have h5 : (W3.setCell ⟨g, 4, none⟩ b4).heap[g]? = some (.cells #[b0, b1, b2, b3, b4, a5, a6, a7, a8, a9] t (0, 0)) := blk_set h4 4 b4
 generalize W3.setCell ⟨g, 4, none⟩ b4 = W4 at *
 have h6 : (W4.setCell ⟨g, 5, none⟩ b5).heap[g]? = some (.cells #[b0, b1, b2, b3, b4, b5, a6, a7, a8, a9] t (0, 0)) := blk_set h5 5 b5
 generalize W4.setCell ⟨g, 5, none⟩ b5 = W5 at *
 have h7 : (W5.setCell ⟨g, 6, none⟩ b6).heap[g]? = some (.cells #[b0, b1, b2, b3, b4, b5, b6, a7, a8, a9] t (0, 0)) := blk_set h6 6 b6
 generalize W5.setCell ⟨g, 6, none⟩ b6 = W6 at *
 have h8 : (W6.setCell ⟨g, 7, none⟩ b7).heap[g]? = some (.cells #[b0, b1, b2, b3, b4, b5, b6, b7, a8, a9] t (0, 0)) := blk_set h7 7 b7
 generalize W6.setCell ⟨g, 7, none⟩ b7 = W7 at *
 have h9 : (W7.setCell ⟨g, 8, none⟩ b8).heap[g]? = some (.cells #[b0, b1, b2, b3, b4, b5, b6, b7, b8, a9] t (0, 0)) := blk_set h8 8 b8
 generalize W7.setCell ⟨g, 8, none⟩ b8 = W8 at *
 have h10 : (W8.setCell ⟨g, 9, none⟩ b9).heap[g]? = some (.cells #[b0, b1, b2, b3, b4, b5, b6, b7, b8, b9] t (0, 0)) := blk_set h9 9 b9
 exact h10
theorem set10_grown (W : World) (g : Nat) (b0 b1 b2 b3 b4 b5 b6 b7 b8 b9 : Value) : W.grownBy ((((((((((W.setCell ⟨g, 0, none⟩ b0).setCell ⟨g, 1, none⟩ b1).setCell ⟨g, 2, none⟩ b2).setCell ⟨g, 3, none⟩ b3).setCell ⟨g, 4, none⟩ b4).setCell ⟨g, 5, none⟩ b5).setCell ⟨g, 6, none⟩ b6).setCell ⟨g, 7, none⟩ b7).setCell ⟨g, 8, none⟩ b8).setCell ⟨g, 9, none⟩ b9) (some g) :=
 (grown_again (grown_again (grown_again (grown_again (grown_again (grown_again (grown_again (grown_again (grown_again (cell_grown _ g 0 _) (cell_grown _ g 1 _)) (cell_grown _ g 2 _)) (cell_grown _ g 3 _)) (cell_grown _ g 4 _)) (cell_grown _ g 5 _)) (cell_grown _ g 6 _)) (cell_grown _ g 7 _)) (cell_grown _ g 8 _)) (cell_grown _ g 9 _))
theorem set12_row {W : World} {g : Nat} {t : TypeId} {a0 a1 a2 a3 a4 a5 a6 a7 a8 a9 a10 a11 : Value} (h : W.heap[g]? = some (.cells #[a0, a1, a2, a3, a4, a5, a6, a7, a8, a9, a10, a11] t (0, 0))) (b0 b1 b2 b3 b4 b5 b6 b7 b8 b9 b10 b11 : Value) : ((((((((((((W.setCell ⟨g, 0, none⟩ b0).setCell ⟨g, 1, none⟩ b1).setCell ⟨g, 2, none⟩ b2).setCell ⟨g, 3, none⟩ b3).setCell ⟨g, 4, none⟩ b4).setCell ⟨g, 5, none⟩ b5).setCell ⟨g, 6, none⟩ b6).setCell ⟨g, 7, none⟩ b7).setCell ⟨g, 8, none⟩ b8).setCell ⟨g, 9, none⟩ b9).setCell ⟨g, 10, none⟩ b10).setCell ⟨g, 11, none⟩ b11).heap[g]? = some (.cells #[b0, b1, b2, b3, b4, b5, b6, b7, b8, b9, b10, b11] t (0, 0)) := by
 have h0 := h
 have h1 : (W.setCell ⟨g, 0, none⟩ b0).heap[g]? = some (.cells #[b0, a1, a2, a3, a4, a5, a6, a7, a8, a9, a10, a11] t (0, 0)) := blk_set h0 0 b0
 generalize W.setCell ⟨g, 0, none⟩ b0 = W0 at *
 have h2 : (W0.setCell ⟨g, 1, none⟩ b1).heap[g]? = some (.cells #[b0, b1, a2, a3, a4, a5, a6, a7, a8, a9, a10, a11] t (0, 0)) := blk_set h1 1 b1
 generalize W0.setCell ⟨g, 1, none⟩ b1 = W1 at *
 have h3 : (W1.setCell ⟨g, 2, none⟩ b2).heap[g]? = some (.cells #[b0, b1, b2, a3, a4, a5, a6, a7, a8, a9, a10, a11] t (0, 0)) := blk_set h2 2 b2
 generalize W1.setCell ⟨g, 2, none⟩ b2 = W2 at *
 have h4 : (W2.setCell ⟨g, 3, none⟩ b3).heap[g]? = some (.cells #[b0, b1, b2, b3, a4, a5, a6, a7, a8, a9, a10, a11] t (0, 0)) := blk_set h3 3 b3
 generalize W2.setCell ⟨g, 3, none⟩ b3 = W3 at *
 have h5 : (W3.setCell ⟨g, 4, none⟩ b4).heap[g]? = some (.cells #[b0, b1, b2, b3, b4, a5, a6, a7, a8, a9, a10, a11] t (0, 0)) := blk_set h4 4 b4
 generalize W3.setCell ⟨g, 4, none⟩ b4 = W4 at *
 have h6 : (W4.setCell ⟨g, 5, none⟩ b5).heap[g]? = some (.cells #[b0, b1, b2, b3, b4, b5, a6, a7, a8, a9, a10, a11] t (0, 0)) := blk_set h5 5 b5
 generalize W4.setCell ⟨g, 5, none⟩ b5 = W5 at *
 have h7 : (W5.setCell ⟨g, 6, none⟩ b6).heap[g]? = some (.cells #[b0, b1, b2, b3, b4, b5, b6, a7, a8, a9, a10, a11] t (0, 0)) := blk_set h6 6 b6
 generalize W5.setCell ⟨g, 6, none⟩ b6 = W6 at *
 have h8 : (W6.setCell ⟨g, 7, none⟩ b7).heap[g]? = some (.cells #[b0, b1, b2, b3, b4, b5, b6, b7, a8, a9, a10, a11] t (0, 0)) := blk_set h7 7 b7
 generalize W6.setCell ⟨g, 7, none⟩ b7 = W7 at *
 have h9 : (W7.setCell ⟨g, 8, none⟩ b8).heap[g]? = some (.cells #[b0, b1, b2, b3, b4, b5, b6, b7, b8, a9, a10, a11] t (0, 0)) := blk_set h8 8 b8
 generalize W7.setCell ⟨g, 8, none⟩ b8 = W8 at *
 have h10 : (W8.setCell ⟨g, 9, none⟩ b9).heap[g]? = some (.cells #[b0, b1, b2, b3, b4, b5, b6, b7, b8, b9, a10, a11] t (0, 0)) := blk_set h9 9 b9
 generalize W8.setCell ⟨g, 9, none⟩ b9 = W9 at *
 have h11 : (W9.setCell ⟨g, 10, none⟩ b10).heap[g]? = some (.cells #[b0, b1, b2, b3, b4, b5, b6, b7, b8, b9, b10, a11] t (0, 0)) := blk_set h10 10 b10
 generalize W9.setCell ⟨g, 10, none⟩ b10 = W10 at *
 have h12 : (W10.setCell ⟨g, 11, none⟩ b11).heap[g]? = some (.cells #[b0, b1, b2, b3, b4, b5, b6, b7, b8, b9, b10, b11] t (0, 0)) := blk_set h11 11 b11
 exact h12
theorem set12_grown (W : World) (g : Nat) (b0 b1 b2 b3 b4 b5 b6 b7 b8 b9 b10 b11 : Value) : W.grownBy ((((((((((((W.setCell ⟨g, 0, none⟩ b0).setCell ⟨g, 1, none⟩ b1).setCell ⟨g, 2, none⟩ b2).setCell ⟨g, 3, none⟩ b3).setCell ⟨g, 4, none⟩ b4).setCell ⟨g, 5, none⟩ b5).setCell ⟨g, 6, none⟩ b6).setCell ⟨g, 7, none⟩ b7).setCell ⟨g, 8, none⟩ b8).setCell ⟨g, 9, none⟩ b9).setCell ⟨g, 10, none⟩ b10).setCell ⟨g, 11, none⟩ b11) (some g) :=
 (grown_again (grown_again (grown_again (grown_again (grown_again (grown_again (grown_again (grown_again (grown_again (grown_again (grown_again (cell_grown _ g 0 _) (cell_grown _ g 1 _)) (cell_grown _ g 2 _)) (cell_grown _ g 3 _)) (cell_grown _ g 4 _)) (cell_grown _ g 5 _)) (cell_grown _ g 6 _)) (cell_grown _ g 7 _)) (cell_grown _ g 8 _)) (cell_grown _ g 9 _)) (cell_grown _ g 10 _)) (cell_grown _ g 11 _))
theorem set13_row {W : World} {g : Nat} {t : TypeId} {a0 a1 a2 a3 a4 a5 a6 a7 a8 a9 a10 a11 a12 : Value} (h : W.heap[g]? = some (.cells #[a0, a1, a2, a3, a4, a5, a6, a7, a8, a9, a10, a11, a12] t (0, 0))) (b0 b1 b2 b3 b4 b5 b6 b7 b8 b9 b10 b11 b12 : Value) : (((((((((((((W.setCell ⟨g, 0, none⟩ b0).setCell ⟨g, 1, none⟩ b1).setCell ⟨g, 2, none⟩ b2).setCell ⟨g, 3, none⟩ b3).setCell ⟨g, 4, none⟩ b4).setCell ⟨g, 5, none⟩ b5).setCell ⟨g, 6, none⟩ b6).setCell ⟨g, 7, none⟩ b7).setCell ⟨g, 8, none⟩ b8).setCell ⟨g, 9, none⟩ b9).setCell ⟨g, 10, none⟩ b10).setCell ⟨g, 11, none⟩ b11).setCell ⟨g, 12, none⟩ b12).heap[g]? = some (.cells #[b0, b1, b2, b3, b4, b5, b6, b7, b8, b9, b10, b11, b12] t (0, 0)) := by
 have h0 := h
 have h1 : (W.setCell ⟨g, 0, none⟩ b0).heap[g]? = some (.cells #[b0, a1, a2, a3, a4, a5, a6, a7, a8, a9, a10, a11, a12] t (0, 0)) := blk_set h0 0 b0
 generalize W.setCell ⟨g, 0, none⟩ b0 = W0 at *
 have h2 : (W0.setCell ⟨g, 1, none⟩ b1).heap[g]? = some (.cells #[b0, b1, a2, a3, a4, a5, a6, a7, a8, a9, a10, a11, a12] t (0, 0)) := blk_set h1 1 b1
 generalize W0.setCell ⟨g, 1, none⟩ b1 = W1 at *
 have h3 : (W1.setCell ⟨g, 2, none⟩ b2).heap[g]? = some (.cells #[b0, b1, b2, a3, a4, a5, a6, a7, a8, a9, a10, a11, a12] t (0, 0)) := blk_set h2 2 b2
 generalize W1.setCell ⟨g, 2, none⟩ b2 = W2 at *
 have h4 : (W2.setCell ⟨g, 3, none⟩ b3).heap[g]? = some (.cells #[b0, b1, b2, b3, a4, a5, a6, a7, a8, a9, a10, a11, a12] t (0, 0)) := blk_set h3 3 b3
 generalize W2.setCell ⟨g, 3, none⟩ b3 = W3 at *
 have h5 : (W3.setCell ⟨g, 4, none⟩ b4).heap[g]? = some (.cells #[b0, b1, b2, b3, b4, a5, a6, a7, a8, a9, a10, a11, a12] t (0, 0)) := blk_set h4 4 b4
 generalize W3.setCell ⟨g, 4, none⟩ b4 = W4 at *
 have h6 : (W4.setCell ⟨g, 5, none⟩ b5).heap[g]? = some (.cells #[b0, b1, b2, b3, b4, b5, a6, a7, a8, a9, a10, a11, a12] t (0, 0)) := blk_set h5 5 b5
 generalize W4.setCell ⟨g, 5, none⟩ b5 = W5 at *
 have h7 : (W5.setCell ⟨g, 6, none⟩ b6).heap[g]? = some (.cells #[b0, b1, b2, b3, b4, b5, b6, a7, a8, a9, a10, a11, a12] t (0, 0)) := blk_set h6 6 b6
 generalize W5.setCell ⟨g, 6, none⟩ b6 = W6 at *
 have h8 : (W6.setCell ⟨g, 7, none⟩ b7).heap[g]? = some (.cells #[b0, b1, b2, b3, b4, b5, b6, b7, a8, a9, a10, a11, a12] t (0, 0)) := blk_set h7 7 b7
 generalize W6.setCell ⟨g, 7, none⟩ b7 = W7 at *
 have h9 : (W7.setCell ⟨g, 8, none⟩ b8).heap[g]? = some (.cells #[b0, b1, b2, b3, b4, b5, b6, b7, b8, a9, a10, a11, a12] t (0, 0)) := blk_set h8 8 b8
 generalize W7.setCell ⟨g, 8, none⟩ b8 = W8 at *
 have h10 : (W8.setCell ⟨g, 9, none⟩ b9).heap[g]? = some (.cells #[b0, b1, b2, b3, b4, b5, b6, b7, b8, b9, a10, a11, a12] t (0, 0)) := blk_set h9 9 b9
 generalize W8.setCell ⟨g, 9, none⟩ b9 = W9 at *
 have h11 : (W9.setCell ⟨g, 10, none⟩ b10).heap[g]? = some (.cells #[b0, b1, b2, b3, b4, b5, b6, b7, b8, b9, b10, a11, a12] t (0, 0)) := blk_set h10 10 b10
 generalize W9.setCell ⟨g, 10, none⟩ b10 = W10 at *
 have h12 : (W10.setCell ⟨g, 11, none⟩ b11).heap[g]? = some (.cells #[b0, b1, b2, b3, b4, b5, b6, b7, b8, b9, b10, b11, a12] t (0, 0)) := blk_set h11 11 b11
 generalize W10.setCell ⟨g, 11, none⟩ b11 = W11 at *
 have h13 : (W11.setCell ⟨g, 12, none⟩ b12).heap[g]? = some (.cells #[b0, b1, b2, b3, b4, b5, b6, b7, b8, b9, b10, b11, b12] t (0, 0)) := blk_set h12 12 b12
 exact h13
theorem set13_grown (W : World) (g : Nat) (b0 b1 b2 b3 b4 b5 b6 b7 b8 b9 b10 b11 b12 : Value) : W.grownBy (((((((((((((W.setCell ⟨g, 0, none⟩ b0).setCell ⟨g, 1, none⟩ b1).setCell ⟨g, 2, none⟩ b2).setCell ⟨g, 3, none⟩ b3).setCell ⟨g, 4, none⟩ b4).setCell ⟨g, 5, none⟩ b5).setCell ⟨g, 6, none⟩ b6).setCell ⟨g, 7, none⟩ b7).setCell ⟨g, 8, none⟩ b8).setCell ⟨g, 9, none⟩ b9).setCell ⟨g, 10, none⟩ b10).setCell ⟨g, 11, none⟩ b11).setCell ⟨g, 12, none⟩ b12) (some g) :=
 (grown_again (grown_again (grown_again (grown_again (grown_again (grown_again (grown_again (grown_again (grown_again (grown_again (grown_again (grown_again (cell_grown _ g 0 _) (cell_grown _ g 1 _)) (cell_grown _ g 2 _)) (cell_grown _ g 3 _)) (cell_grown _ g 4 _)) (cell_grown _ g 5 _)) (cell_grown _ g 6 _)) (cell_grown _ g 7 _)) (cell_grown _ g 8 _)) (cell_grown _ g 9 _)) (cell_grown _ g 10 _)) (cell_grown _ g 11 _)) (cell_grown _ g 12 _))
theorem set17_row {W : World} {g : Nat} {t : TypeId} {a0 a1 a2 a3 a4 a5 a6 a7 a8 a9 a10 a11 a12 a13 a14 a15 a16 : Value} (h : W.heap[g]? = some (.cells #[a0, a1, a2, a3, a4, a5, a6, a7, a8, a9, a10, a11, a12, a13, a14, a15, a16] t (0, 0))) (b0 b1 b2 b3 b4 b5 b6 b7 b8 b9 b10 b11 b12 b13 b14 b15 b16 : Value) : (((((((((((((((((W.setCell ⟨g, 0, none⟩ b0).setCell ⟨g, 1, none⟩ b1).setCell ⟨g, 2, none⟩ b2).setCell ⟨g, 3, none⟩ b3).setCell ⟨g, 4, none⟩ b4).setCell ⟨g, 5, none⟩ b5).setCell ⟨g, 6, none⟩ b6).setCell ⟨g, 7, none⟩ b7).setCell ⟨g, 8, none⟩ b8).setCell ⟨g, 9, none⟩ b9).setCell ⟨g, 10, none⟩ b10).setCell ⟨g, 11, none⟩ b11).setCell ⟨g, 12, none⟩ b12).setCell ⟨g, 13, none⟩ b13).setCell ⟨g, 14, none⟩ b14).setCell ⟨g, 15, none⟩ b15).setCell ⟨g, 16, none⟩ b16).heap[g]? = some (.cells #[b0, b1, b2, b3, b4, b5, b6, b7, b8, b9, b10, b11, b12, b13, b14, b15, b16] t (0, 0)) := by
 have h0 := h
 have h1 : (W.setCell ⟨g, 0, none⟩ b0).heap[g]? = some (.cells #[b0, a1, a2, a3, a4, a5, a6, a7, a8, a9, a10, a11, a12, a13, a14, a15, a16] t (0, 0)) := blk_set h0 0 b0
 generalize W.setCell ⟨g, 0, none⟩ b0 = W0 at *
 have h2 : (W0.setCell ⟨g, 1, none⟩ b1).heap[g]? = some (.cells #[b0, b1, a2, a3, a4, a5, a6, a7, a8, a9, a10, a11, a12, a13, a14, a15, a16] t (0, 0)) := blk_set h1 1 b1
 generalize W0.setCell ⟨g, 1, none⟩ b1 = W1 at *
 have h3 : (W1.setCell ⟨g, 2, none⟩ b2).heap[g]? = some (.cells #[b0, b1, b2, a3, a4, a5, a6, a7, a8, a9, a10, a11, a12, a13, a14, a15, a16] t (0, 0)) := blk_set h2 2 b2
 generalize W1.setCell ⟨g, 2, none⟩ b2 = W2 at *
 have h4 : (W2.setCell ⟨g, 3, none⟩ b3).heap[g]? = some (.cells #[b0, b1, b2, b3, a4, a5, a6, a7, a8, a9, a10, a11, a12, a13, a14, a15, a16] t (0, 0)) := blk_set h3 3 b3
 generalize W2.setCell ⟨g, 3, none⟩ b3 = W3 at *
 have h5 : (W3.setCell ⟨g, 4, none⟩ b4).heap[g]? = some (.cells #[b0, b1, b2, b3, b4, a5, a6, a7, a8, a9, a10, a11, a12, a13, a14, a15, a16] t (0, 0)) := blk_set h4 4 b4
 generalize W3.setCell ⟨g, 4, none⟩ b4 = W4 at *
 have h6 : (W4.setCell ⟨g, 5, none⟩ b5).heap[g]? = some (.cells #[b0, b1, b2, b3, b4, b5, a6, a7, a8, a9, a10, a11, a12, a13, a14, a15, a16] t (0, 0)) := blk_set h5 5 b5
 generalize W4.setCell ⟨g, 5, none⟩ b5 = W5 at *
 have h7 : (W5.setCell ⟨g, 6, none⟩ b6).heap[g]? = some (.cells #[b0, b1, b2, b3, b4, b5, b6, a7, a8, a9, a10, a11, a12, a13, a14, a15, a16] t (0, 0)) := blk_set h6 6 b6
 generalize W5.setCell ⟨g, 6, none⟩ b6 = W6 at *
 have h8 : (W6.setCell ⟨g, 7, none⟩ b7).heap[g]? = some (.cells #[b0, b1, b2, b3, b4, b5, b6, b7, a8, a9, a10, a11, a12, a13, a14, a15, a16] t (0, 0)) := blk_set h7 7 b7
 generalize W6.setCell ⟨g, 7, none⟩ b7 = W7 at *
 have h9 : (W7.setCell ⟨g, 8, none⟩ b8).heap[g]? = some (.cells #[b0, b1, b2, b3, b4, b5, b6, b7, b8, a9, a10, a11, a12, a13, a14, a15, a16] t (0, 0)) := blk_set h8 8 b8
 generalize W7.setCell ⟨g, 8, none⟩ b8 = W8 at *
 have h10 : (W8.setCell ⟨g, 9, none⟩ b9).heap[g]? = some (.cells #[b0, b1, b2, b3, b4, b5, b6, b7, b8, b9, a10, a11, a12, a13, a14, a15, a16] t (0, 0)) := blk_set h9 9 b9
 generalize W8.setCell ⟨g, 9, none⟩ b9 = W9 at *
 have h11 : (W9.setCell ⟨g, 10, none⟩ b10).heap[g]? = some (.cells #[b0, b1, b2, b3, b4, b5, b6, b7, b8, b9, b10, a11, a12, a13, a14, a15, a16] t (0, 0)) := blk_set h10 10 b10
 generalize W9.setCell ⟨g, 10, none⟩ b10 = W10 at *
 have h12 : (W10.setCell ⟨g, 11, none⟩ b11).heap[g]? = some (.cells #[b0, b1, b2, b3, b4, b5, b6, b7, b8, b9, b10, b11, a12, a13, a14, a15, a16] t (0, 0)) := blk_set h11 11 b11
 generalize W10.setCell ⟨g, 11, none⟩ b11 = W11 at *
 have h13 : (W11.setCell ⟨g, 12, none⟩ b12).heap[g]? = some (.cells #[b0, b1, b2, b3, b4, b5, b6, b7, b8, b9, b10, b11, b12, a13, a14, a15, a16] t (0, 0)) := blk_set h12 12 b12
 generalize W11.setCell ⟨g, 12, none⟩ b12 = W12 at *
 have h14 : (W12.setCell ⟨g, 13, none⟩ b13).heap[g]? = some (.cells #[b0, b1, b2, b3, b4, b5, b6, b7, b8, b9, b10, b11, b12, b13, a14, a15, a16] t (0, 0)) := blk_set h13 13 b13
 generalize W12.setCell ⟨g, 13, none⟩ b13 = W13 at *
 have h15 : (W13.setCell ⟨g, 14, none⟩ b14).heap[g]? = some (.cells #[b0, b1, b2, b3, b4, b5, b6, b7, b8, b9, b10, b11, b12, b13, b14, a15, a16] t (0, 0)) := blk_set h14 14 b14
 generalize W13.setCell ⟨g, 14, none⟩ b14 = W14 at *
 have h16 : (W14.setCell ⟨g, 15, none⟩ b15).heap[g]? = some (.cells #[b0, b1, b2, b3, b4, b5, b6, b7, b8, b9, b10, b11, b12, b13, b14, b15, a16] t (0, 0)) := blk_set h15 15 b15
 generalize W14.setCell ⟨g, 15, none⟩ b15 = W15 at *
 have h17 : (W15.setCell ⟨g, 16, none⟩ b16).heap[g]? = some (.cells #[b0, b1, b2, b3, b4, b5, b6, b7, b8, b9, b10, b11, b12, b13, b14, b15, b16] t (0, 0)) := blk_set h16 16 b16
 exact h17
theorem set17_grown (W : World) (g : Nat) (b0 b1 b2 b3 b4 b5 b6 b7 b8 b9 b10 b11 b12 b13 b14 b15 b16 : Value) : W.grownBy (((((((((((((((((W.setCell ⟨g, 0, none⟩ b0).setCell ⟨g, 1, none⟩ b1).setCell ⟨g, 2, none⟩ b2).setCell ⟨g, 3, none⟩ b3).setCell ⟨g, 4, none⟩ b4).setCell ⟨g, 5, none⟩ b5).setCell ⟨g, 6, none⟩ b6).setCell ⟨g, 7, none⟩ b7).setCell ⟨g, 8, none⟩ b8).setCell ⟨g, 9, none⟩ b9).setCell ⟨g, 10, none⟩ b10).setCell ⟨g, 11, none⟩ b11).setCell ⟨g, 12, none⟩ b12).setCell ⟨g, 13, none⟩ b13).setCell ⟨g, 14, none⟩ b14).setCell ⟨g, 15, none⟩ b15).setCell ⟨g, 16, none⟩ b16) (some g) :=
 (grown_again (grown_again (grown_again (grown_again (grown_again (grown_again (grown_again (grown_again (grown_again (grown_again (grown_again (grown_again (grown_again (grown_again (grown_again (grown_again (cell_grown _ g 0 _) (cell_grown _ g 1 _)) (cell_grown _ g 2 _)) (cell_grown _ g 3 _)) (cell_grown _ g 4 _)) (cell_grown _ g 5 _)) (cell_grown _ g 6 _)) (cell_grown _ g 7 _)) (cell_grown _ g 8 _)) (cell_grown _ g 9 _)) (cell_grown _ g 10 _)) (cell_grown _ g 11 _)) (cell_grown _ g 12 _)) (cell_grown _ g 13 _)) (cell_grown _ g 14 _)) (cell_grown _ g 15 _)) (cell_grown _ g 16 _))
theorem size_Ex : (Tryz.prog.info? 50).map (·.size) = some 10 := by kernel_rfl
theorem Own.toEx {w : World} {base : Nat} {m : Mode} {mk : Nat → List Value} {v : Ex} {q0 q : QEx} {R0 R1 R2 R3 R4 : List Row} {B : Nat} {w0 : World} (h : ExAt w0 B v q0) (h0 : Own w base m mk (.lst 50 10 (v.args.map Ex.tr)) [.slice q.argsa q.argsn q.argsc] R0) (h1 : Own w base m mk (.lst 9 1 (v.names.map T.txt)) [.slice q.namesa q.namesn q.namesc] R1) (h2 : Own w base m mk (.lst 50 10 (v.vals.map Ex.tr)) [.slice q.valsa q.valsn q.valsc] R2) (h3 : Own w base m mk (.lst 50 10 (v.key.map Ex.tr)) [.slice q.keya q.keyn q.keyc] R3) (h4 : Own w base m mk (.lst 101 12 (v.acts.map Ac.tr)) [.slice q.actsa q.actsn q.actsc] R4) : Own w base m mk v.tr (q.cells v) (R0 ++ (R1 ++ (R2 ++ (R3 ++ R4)))) := by
 rw [Ex.tr_eq]
 have := (show Own w base m mk (.obj [.int .u8 v.kind, .int .i64 v.n, .txt v.s, .lst 50 10 (v.args.map Ex.tr), .lst 9 1 (v.names.map T.txt), .lst 50 10 (v.vals.map Ex.tr), .int .u8 v.elem, .lst 50 10 (v.key.map Ex.tr), .lst 101 12 (v.acts.map Ac.tr), .txt v.site]) _ _ from (.cons _ _ [_] _ _ _ (.int _ _ h.kind) (.cons _ _ [_] _ _ _ (.int _ _ h.n) (.cons _ _ [_] _ _ _ (.txt _ h.s) (.cons _ _ [_] _ _ _ h0 (.cons _ _ [_] _ _ _ h1 (.cons _ _ [_] _ _ _ h2 (.cons _ _ [_] _ _ _ (.int _ _ h.elem) (.cons _ _ [_] _ _ _ h3 (.cons _ _ [_] _ _ _ h4 (.cons _ _ [_] _ _ _ (.txt _ h.site) .nil)))))))))))
 simpa [QEx.cells] using this
theorem size_Ac : (Tryz.prog.info? 101).map (·.size) = some 12 := by kernel_rfl
theorem Own.toAc {w : World} {base : Nat} {m : Mode} {mk : Nat → List Value} {v : Ac} {q0 q : QAc} {R0 : List Row} {B : Nat} {w0 : World} (h : AcAt w0 B v q0) (h0 : Own w base m mk v.expr.tr (q.expr.cells v.expr) R0) : Own w base m mk v.tr (q.cells v) (R0) := by
 rw [Ac.tr_eq]
 have := (show Own w base m mk (.obj [.int .u8 v.kind, .txt v.name, v.expr.tr]) _ _ from (.cons _ _ [_] _ _ _ (.int _ _ h.kind) (.cons _ _ [_] _ _ _ (.txt _ h.name) (.cons _ _ (q.expr.cells v.expr) _ _ _ h0 .nil))))
 simpa [QAc.cells, QEx.cells] using this
theorem size_St : (Tryz.prog.info? 63).map (·.size) = some 17 := by kernel_rfl
theorem Own.toSt {w : World} {base : Nat} {m : Mode} {mk : Nat → List Value} {v : St} {q0 q : QSt} {R0 R1 R2 R3 R4 : List Row} {B : Nat} {w0 : World} (h : StAt w0 B v q0) (h0 : Own w base m mk v.expr.tr (q.expr.cells v.expr) R0) (h1 : Own w base m mk (.lst 50 10 (v.deps.map Ex.tr)) [.slice q.depsa q.depsn q.depsc] R1) (h2 : Own w base m mk (.lst 101 12 (v.dos.map Ac.tr)) [.slice q.dosa q.dosn q.dosc] R2) (h3 : Own w base m mk (.lst 101 12 (v.undo.map Ac.tr)) [.slice q.undoa q.undon q.undoc] R3) (h4 : Own w base m mk (.lst 63 17 (v.body.map St.tr)) [.slice q.bodya q.bodyn q.bodyc] R4) : Own w base m mk v.tr (q.cells v) (R0 ++ (R1 ++ (R2 ++ (R3 ++ R4)))) := by
 rw [St.tr_eq]
 have := (show Own w base m mk (.obj [.int .u8 v.kind, .txt v.name, .txt v.ctx, v.expr.tr, .lst 50 10 (v.deps.map Ex.tr), .lst 101 12 (v.dos.map Ac.tr), .lst 101 12 (v.undo.map Ac.tr), .lst 63 17 (v.body.map St.tr)]) _ _ from (.cons _ _ [_] _ _ _ (.int _ _ h.kind) (.cons _ _ [_] _ _ _ (.txt _ h.name) (.cons _ _ [_] _ _ _ (.txt _ h.ctx) (.cons _ _ (q.expr.cells v.expr) _ _ _ h0 (.cons _ _ [_] _ _ _ h1 (.cons _ _ [_] _ _ _ h2 (.cons _ _ [_] _ _ _ h3 (.cons _ _ [_] _ _ _ h4 .nil)))))))))
 simpa [QSt.cells, QEx.cells] using this
theorem size_Co : (Tryz.prog.info? 52).map (·.size) = some 13 := by kernel_rfl
theorem Own.toCo {w : World} {base : Nat} {m : Mode} {mk : Nat → List Value} {v : Co} {q0 q : QCo} {R0 R1 : List Row} {B : Nat} {w0 : World} (h : CoAt w0 B v q0) (h0 : Own w base m mk (.lst 63 17 (v.body.map St.tr)) [.slice q.bodya q.bodyn q.bodyc] R0) (h1 : Own w base m mk v.out.tr (q.out.cells v.out) R1) : Own w base m mk v.tr (q.cells v) (R0 ++ R1) := by
 rw [Co.tr_eq]
 have := (show Own w base m mk (.obj [.txt v.name, .txt v.param, .lst 63 17 (v.body.map St.tr), v.out.tr]) _ _ from (.cons _ _ [_] _ _ _ (.txt _ h.name) (.cons _ _ [_] _ _ _ (.txt _ h.param) (.cons _ _ [_] _ _ _ h0 (.cons _ _ (q.out.cells v.out) _ _ _ h1 .nil)))))
 simpa [QCo.cells, QEx.cells] using this
def OneTwinEx (v : Ex) (w : World) (e : Ending) (w' : World) : Prop := ∃ (q : QEx) (R : List Row), e = .returned (.agg #[.int .u8 v.kind, .int .i64 v.n, .string v.s, .slice q.argsa q.argsn q.argsc, .slice q.namesa q.namesn q.namesc, .slice q.valsa q.valsn q.valsc, .int .u8 v.elem, .slice q.keya q.keyn q.keyc, .slice q.actsa q.actsn q.actsc, .string v.site]) ∧ Own w' w.heap.size twinM mkS v.tr (q.cells v) R ∧ Apart R ∧ Below w.heap.size w w'
def TwinEx (v : Ex) : Prop := v.tr.wt ≤ 1048576 → ∀ (q : QEx) (w : World), ExAt w w.heap.size v q →
 Calls Tryz.prog 48 #[.agg #[.int .u8 v.kind, .int .i64 v.n, .string v.s, .slice q.argsa q.argsn q.argsc, .slice q.namesa q.namesn q.namesc, .slice q.valsa q.valsn q.valsc, .int .u8 v.elem, .slice q.keya q.keyn q.keyc, .slice q.actsa q.actsn q.actsc, .string v.site]] w fun e w' => OneTwinEx v w e w'
def OneTwinAc (v : Ac) (w : World) (e : Ending) (w' : World) : Prop := ∃ (q : QAc) (R : List Row), e = .returned (.agg #[.int .u8 v.kind, .string v.name, .int .u8 v.expr.kind, .int .i64 v.expr.n, .string v.expr.s, .slice q.expr.argsa q.expr.argsn q.expr.argsc, .slice q.expr.namesa q.expr.namesn q.expr.namesc, .slice q.expr.valsa q.expr.valsn q.expr.valsc, .int .u8 v.expr.elem, .slice q.expr.keya q.expr.keyn q.expr.keyc, .slice q.expr.actsa q.expr.actsn q.expr.actsc, .string v.expr.site]) ∧ Own w' w.heap.size twinM mkS v.tr (q.cells v) R ∧ Apart R ∧ Below w.heap.size w w'
def TwinAc (v : Ac) : Prop := v.tr.wt ≤ 1048576 → ∀ (q : QAc) (w : World), AcAt w w.heap.size v q →
 Calls Tryz.prog 104 #[.agg #[.int .u8 v.kind, .string v.name, .int .u8 v.expr.kind, .int .i64 v.expr.n, .string v.expr.s, .slice q.expr.argsa q.expr.argsn q.expr.argsc, .slice q.expr.namesa q.expr.namesn q.expr.namesc, .slice q.expr.valsa q.expr.valsn q.expr.valsc, .int .u8 v.expr.elem, .slice q.expr.keya q.expr.keyn q.expr.keyc, .slice q.expr.actsa q.expr.actsn q.expr.actsc, .string v.expr.site]] w fun e w' => OneTwinAc v w e w'
def OneTwinSt (v : St) (w : World) (e : Ending) (w' : World) : Prop := ∃ (q : QSt) (R : List Row), e = .returned (.agg #[.int .u8 v.kind, .string v.name, .string v.ctx, .int .u8 v.expr.kind, .int .i64 v.expr.n, .string v.expr.s, .slice q.expr.argsa q.expr.argsn q.expr.argsc, .slice q.expr.namesa q.expr.namesn q.expr.namesc, .slice q.expr.valsa q.expr.valsn q.expr.valsc, .int .u8 v.expr.elem, .slice q.expr.keya q.expr.keyn q.expr.keyc, .slice q.expr.actsa q.expr.actsn q.expr.actsc, .string v.expr.site, .slice q.depsa q.depsn q.depsc, .slice q.dosa q.dosn q.dosc, .slice q.undoa q.undon q.undoc, .slice q.bodya q.bodyn q.bodyc]) ∧ Own w' w.heap.size twinM mkS v.tr (q.cells v) R ∧ Apart R ∧ Below w.heap.size w w'
def TwinSt (v : St) : Prop := v.tr.wt ≤ 1048576 → ∀ (q : QSt) (w : World), StAt w w.heap.size v q →
 Calls Tryz.prog 76 #[.agg #[.int .u8 v.kind, .string v.name, .string v.ctx, .int .u8 v.expr.kind, .int .i64 v.expr.n, .string v.expr.s, .slice q.expr.argsa q.expr.argsn q.expr.argsc, .slice q.expr.namesa q.expr.namesn q.expr.namesc, .slice q.expr.valsa q.expr.valsn q.expr.valsc, .int .u8 v.expr.elem, .slice q.expr.keya q.expr.keyn q.expr.keyc, .slice q.expr.actsa q.expr.actsn q.expr.actsc, .string v.expr.site, .slice q.depsa q.depsn q.depsc, .slice q.dosa q.dosn q.dosc, .slice q.undoa q.undon q.undoc, .slice q.bodya q.bodyn q.bodyc]] w fun e w' => OneTwinSt v w e w'
def OneTwinCo (v : Co) (w : World) (e : Ending) (w' : World) : Prop := ∃ (q : QCo) (R : List Row), e = .returned (.agg #[.string v.name, .string v.param, .slice q.bodya q.bodyn q.bodyc, .int .u8 v.out.kind, .int .i64 v.out.n, .string v.out.s, .slice q.out.argsa q.out.argsn q.out.argsc, .slice q.out.namesa q.out.namesn q.out.namesc, .slice q.out.valsa q.out.valsn q.out.valsc, .int .u8 v.out.elem, .slice q.out.keya q.out.keyn q.out.keyc, .slice q.out.actsa q.out.actsn q.out.actsc, .string v.out.site]) ∧ Own w' w.heap.size twinM mkS v.tr (q.cells v) R ∧ Apart R ∧ Below w.heap.size w w'
def TwinCo (v : Co) : Prop := v.tr.wt ≤ 1048576 → ∀ (q : QCo) (w : World), CoAt w w.heap.size v q →
 Calls Tryz.prog 24 #[.agg #[.string v.name, .string v.param, .slice q.bodya q.bodyn q.bodyc, .int .u8 v.out.kind, .int .i64 v.out.n, .string v.out.s, .slice q.out.argsa q.out.argsn q.out.argsc, .slice q.out.namesa q.out.namesn q.out.namesc, .slice q.out.valsa q.out.valsn q.out.valsc, .int .u8 v.out.elem, .slice q.out.keya q.out.keyn q.out.keyc, .slice q.out.actsa q.out.actsn q.out.actsc, .string v.out.site]] w fun e w' => OneTwinCo v w e w'
theorem twinTexts_any (L : List ByteArray) (a : Option Addr) (n c : Nat) (w : World) (hwt : L.length + wts (L.map T.txt) ≤ 1048576) (h1 : TLs w w.heap.size L a n) :
  Calls Tryz.prog 78 #[.slice a n c] w fun e w' => ListTwin 9 1 (L.map T.txt) n w e w' := by
 obtain ⟨i0, hi, hz0, hz1, hz2⟩ := info_parts infoTx
 have hl := h1.len.1
 have hll := hl
 rw [List.length_map] at hll
 have hn : n ≤ 1048576 := by omega
 obtain ⟨es, hes⟩ : ∃ es, es = L.map T.txt := ⟨_, rfl⟩
 rw [← hes] at hl hwt ⊢
 have hmk : ∀ u : World, (Instr.makeSlice 46 (.int .i64 0) (.int .i64 ((n : Int) + 1))).run Tryz.prog u = .ok (.slice (some ⟨u.heap.size, 0, none⟩) 0 (n + 1)) (u.alloc (.cells (madeCells #[.string ⟨#[]⟩] (n + 1)) 9)) := fun u => by
  have h := run_make (P := Tryz.prog) u 46 9 i0 (.string ⟨#[]⟩) Tryz.underlying46 hi hz0 .i64 .i64 0 ((n : Int) + 1) (by omega) (by omega) (by rw [hz2]; omega) (by omega)
  have e : ((n : Int) + 1).toNat = n + 1 := by omega
  rw [e, hz1, Nat.mul_one] at h
  exact h
 obtain ⟨S, hS⟩ : ∃ S, S = w.alloc (.cells (madeCells #[.string ⟨#[]⟩] (n + 1)) 9) := ⟨_, rfl⟩
 have hG0 : Grow w S twinM mkS 9 1 es 0 (.slice (some ⟨w.heap.size, 0, none⟩) 0 (n + 1)) := by
  rw [hS]
  exact Grow.start ((Below.refl _ _).alloc (Nat.le_refl _) _) (World.ownsRow_made _ _ _ (Nat.le_refl _) (by unfold maxLen; omega) (by simp [madeCells]))
 replace hS := hi_ hS
 replace hG0 := hi_ hG0
 replace hl := hi_ hl
 replace hll := hi_ hll
 replace h1 := hi_ h1
 replace hwt := hi_ hwt
 replace hes := hi_ hes
 go_enter Tryz.func78, Tryz.ntmps78
 go_wp2_with (first | (rw [← hS.out]) | fail)
 go_loopw [3, 4] (fun u i wr => ∃ k : Nat, k ≤ n ∧ i = .int .i64 (k : Nat) ∧ Grow w wr twinM mkS 9 1 es k u) (fun _ i _ => n - (intOf i).toNat)
 case atStart => exact ⟨0, Nat.zero_le _, rfl, hG0.out⟩
 case round =>
  obtain ⟨k, hk, rfl, hb, _, cc, RR, hcc, hown, helt, hap⟩ := hrel
  clear hmk
  by_cases hlt : k < n
  ·have hlt9 : Hid (k + 1 ≤ n) := hlt
   obtain ⟨b1, o1, s, rfl, hb1, hg1, x0, hs⟩ := TLs.elem (h1.out.kept hb) k hlt
   have hke : k < es.length := by have := hl.out; omega
   have hgt : es[k] = .txt s := by
    have : es[k]? = some (.txt s) := by rw [hes.out, List.getElem?_map, hg1]; rfl
    rw [List.getElem?_eq_getElem hke] at this
    exact Option.some.inj this
   have hzb := hb.size
   have hown1 : Hid (wr.ownsRow w.heap.size 9 1 u3 k ((List.range k).flatMap cc)) := hown
   replace hb := hi_ hb
   replace hcc := hi_ hcc
   replace hown := hi_ hown
   replace helt := hi_ helt
   replace hap := hi_ hap
   replace hgt := hi_ hgt
   clear hg1
   go_wp2_with (at_builtin; refine wpList_append_own_at _ rfl _ _ 46 rfl w.heap.size 9 i0 _ 1 16 Tryz.underlying46 hi hz0 hz1 hz2 rfl (by decide) _ _ _ rfl (hown1.out.alloc _) ⟨wr.heap.size, 0, none⟩ 1 1 [.string s] rfl rfl (World.news_of_block (cs := #[.string s]) (t := 9) (fr := (0, 0)) (heap_alloc_new wr _)) (by simp [Value.oneCell']) (by unfold maxLen; omega) (by omega) (by simp; omega) ?_)
   intro v' W2 hown2 hgrow2 _ hloc2
   have hG : Hid (Grow w W2 twinM mkS 9 1 es (k + 1) v') := grow_step hb.out hcc.out hown.out helt.out hap.out hke (Below.refl _ _) (by rw [hgt.out]; exact .txt s hs) Apart.nil rfl _ hgrow2 hloc2 hown2
   clear hown2 hgrow2 hloc2 hown1 hown helt hap hcc hb
   go_wp2_with fail
   go_roundw
   case rel => exact ⟨k + 1, hlt9.out, by go_num, hG.out⟩
   case measure => simp [intOf]; have := hlt9.out; omega
  ·obtain rfl : k = n := by omega
   obtain ⟨m, hm⟩ : ∃ m, m = es.length := ⟨_, rfl⟩
   obtain rfl : k = m := by have := hl.out; omega
   rw [hm] at hcc hown helt hap
   replace hb := hi_ hb
   replace hcc := hi_ hcc
   replace hown := hi_ hown
   replace helt := hi_ helt
   replace hap := hi_ hap
   have hown9 : Hid (wr.ownsRow w.heap.size 9 1 u3 k ((List.range es.length).flatMap cc)) := by show wr.ownsRow _ _ _ _ _ _; rw [hm]; exact hown.out
   have hzb := hb.out.size
   replace hm := hi_ hm
   go_wp2_with (at_builtin; refine wpList_append_own_at _ rfl _ _ 46 rfl w.heap.size 9 i0 _ 1 16 Tryz.underlying46 hi hz0 hz1 hz2 rfl (by decide) _ _ _ rfl (hown9.out.alloc _) ⟨wr.heap.size, 0, none⟩ 1 1 [.string ⟨#[115, 112, 97, 114, 101]⟩] rfl rfl (World.news_of_block (cs := #[.string ⟨#[115, 112, 97, 114, 101]⟩]) (t := 9) (fr := (0, 0)) (heap_alloc_new wr _)) (by simp [Value.oneCell']) (by unfold maxLen; omega) (by omega) (by simp; omega) ?_)
   intro v' W2 hown2 hgrow2 _ hloc2
   obtain ⟨g, cap, hv', _, _⟩ := hown2.form (by omega)
   subst hv'
   have hcap := (ownsRow_cap hown2).1
   rw [hm.out] at hown2 hloc2
   obtain ⟨R, hO, hA, hB⟩ := grow_mark hb.out hcc.out hown.out helt.out hap.out _ rfl (by have := hm.out; omega) hgrow2 hloc2 hown2
   have hfin : Hid (ListTwin 9 1 es k w (.returned (.slice (some ⟨g, 0, none⟩) k cap)) W2) := by
    refine ⟨g, cap, R, rfl, ?_, hA, hB⟩
    rw [← hm.out] at hO
    exact hO
   have hkc : (k : Int) ≤ (cap : Int) := by omega
   clear hown2 hgrow2 hloc2 hO hA hB hown9 hown helt hap hcc hb
   go_wp2_with fail
   go_ret
   exact hfin.out
theorem twinExprs_any (L : List Ex) (hT : ∀ v ∈ L, TwinEx v) (a : Option Addr) (n c : Nat) (w : World) (hwt : L.length + wts (L.map Ex.tr) ≤ 1048576) (h1 : ExLs w w.heap.size L a n) :
  Calls Tryz.prog 77 #[.slice a n c] w fun e w' => ListTwin 50 10 (L.map Ex.tr) n w e w' := by
 obtain ⟨i0, hi, hz0, hz1, hz2⟩ := info_parts infoEx
 have hl := h1.len.1
 have hll := hl
 rw [List.length_map] at hll
 have hn : n ≤ 1048576 := by omega
 obtain ⟨es, hes⟩ : ∃ es, es = L.map Ex.tr := ⟨_, rfl⟩
 rw [← hes] at hl hwt ⊢
 have hmk : ∀ u : World, (Instr.makeSlice 45 (.int .i64 0) (.int .i64 ((n : Int) + 1))).run Tryz.prog u = .ok (.slice (some ⟨u.heap.size, 0, none⟩) 0 (n + 1)) (u.alloc (.cells (madeCells #[.int .u8 0, .int .i64 0, .string ⟨#[]⟩, .slice none 0 0, .slice none 0 0, .slice none 0 0, .int .u8 0, .slice none 0 0, .slice none 0 0, .string ⟨#[]⟩] ((n + 1) * 10)) 50)) := fun u => by
  have h := run_make (P := Tryz.prog) u 45 50 i0 (.agg #[.int .u8 0, .int .i64 0, .string ⟨#[]⟩, .slice none 0 0, .slice none 0 0, .slice none 0 0, .int .u8 0, .slice none 0 0, .slice none 0 0, .string ⟨#[]⟩]) Tryz.underlying45 hi hz0 .i64 .i64 0 ((n : Int) + 1) (by omega) (by omega) (by rw [hz2]; omega) (by omega)
  have e : ((n : Int) + 1).toNat = n + 1 := by omega
  rw [e, hz1] at h
  exact h
 obtain ⟨S, hS⟩ : ∃ S, S = w.alloc (.cells (madeCells #[.int .u8 0, .int .i64 0, .string ⟨#[]⟩, .slice none 0 0, .slice none 0 0, .slice none 0 0, .int .u8 0, .slice none 0 0, .slice none 0 0, .string ⟨#[]⟩] ((n + 1) * 10)) 50) := ⟨_, rfl⟩
 have hG0 : Grow w S twinM mkS 50 10 es 0 (.slice (some ⟨w.heap.size, 0, none⟩) 0 (n + 1)) := by
  rw [hS]
  exact Grow.start ((Below.refl _ _).alloc (Nat.le_refl _) _) (World.ownsRow_made _ _ _ (Nat.le_refl _) (by unfold maxLen; omega) (by simp [madeCells]))
 replace hS := hi_ hS
 replace hG0 := hi_ hG0
 replace hl := hi_ hl
 replace hll := hi_ hll
 replace h1 := hi_ h1
 replace hT := hi_ hT
 replace hwt := hi_ hwt
 replace hes := hi_ hes
 go_enter Tryz.func77, Tryz.ntmps77
 go_wp2_with (first | (rw [← hS.out]) | fail)
 go_loopw [3, 4] (fun u i wr => ∃ k : Nat, k ≤ n ∧ i = .int .i64 (k : Nat) ∧ Grow w wr twinM mkS 50 10 es k u) (fun _ i _ => n - (intOf i).toNat)
 case atStart => exact ⟨0, Nat.zero_le _, rfl, hG0.out⟩
 case round =>
  obtain ⟨k, hk, rfl, hb, _, cc, RR, hcc, hown, helt, hap⟩ := hrel
  clear hmk
  by_cases hlt : k < n
  ·have hlt9 : Hid (k + 1 ≤ n) := hlt
   obtain ⟨b1, o1, v, q1, rfl, hb1, hg1, hc1, hv1⟩ := ExLs.elem (h1.out.kept hb) k hlt
   obtain ⟨x0, x1, x2, x3, x4, x5, x6, x7, x8, x9⟩ := eEx_ hc1
   have hke : k < es.length := by have := hl.out; omega
   have hgt : es[k] = v.tr := by
    have : es[k]? = some v.tr := by rw [hes.out, List.getElem?_map, hg1]; rfl
    rw [List.getElem?_eq_getElem hke] at this
    exact Option.some.inj this
   have hwv : v.tr.wt ≤ 1048576 := by
    have := wts_mem (List.getElem_mem hke)
    rw [hgt] at this
    have := hwt.out; omega
   have cT := hT.out v (List.mem_of_getElem? hg1) hwv q1 wr (hv1.mono hb.size)
   replace cT := hi_ cT
   replace hb := hi_ hb
   replace hcc := hi_ hcc
   replace hown := hi_ hown
   replace helt := hi_ helt
   replace hap := hi_ hap
   replace hgt := hi_ hgt
   clear hc1 hv1 hg1
   go_wp2_with (go_at_call 48; refine cT.out.mono ?_)
   rintro e W1 ⟨q', R, rfl, ho, hR, hbW⟩
   have hzW := hbW.size
   have hzb := hb.out.size
   have hown1 : Hid (W1.ownsRow w.heap.size 50 10 u3 k ((List.range k).flatMap cc)) := hown.out.kept (grown_none hbW) (Classical.em _)
   replace ho := hi_ ho
   replace hR := hi_ hR
   replace hbW := hi_ hbW
   clear cT
   go_wp2_with (at_builtin; refine wpList_append_own_at _ rfl _ _ 45 rfl w.heap.size 50 i0 _ 10 176 Tryz.underlying45 hi hz0 hz1 hz2 rfl (by decide) _ _ _ rfl (hown1.out.alloc _) ⟨W1.heap.size, 0, none⟩ 1 1 [.int .u8 v.kind, .int .i64 v.n, .string v.s, .slice q'.argsa q'.argsn q'.argsc, .slice q'.namesa q'.namesn q'.namesc, .slice q'.valsa q'.valsn q'.valsc, .int .u8 v.elem, .slice q'.keya q'.keyn q'.keyc, .slice q'.actsa q'.actsn q'.actsc, .string v.site] rfl rfl (World.news_of_block (cs := #[.int .u8 v.kind, .int .i64 v.n, .string v.s, .slice q'.argsa q'.argsn q'.argsc, .slice q'.namesa q'.namesn q'.namesc, .slice q'.valsa q'.valsn q'.valsc, .int .u8 v.elem, .slice q'.keya q'.keyn q'.keyc, .slice q'.actsa q'.actsn q'.actsc, .string v.site]) (t := 50) (fr := (0, 0)) (heap_alloc_new W1 _)) (by simp [Value.oneCell']) (by unfold maxLen; omega) (by omega) (by simp; omega) ?_)
   intro v' W2 hown2 hgrow2 _ hloc2
   have hG : Hid (Grow w W2 twinM mkS 50 10 es (k + 1) v') := grow_step hb.out hcc.out hown.out helt.out hap.out hke hbW.out (by rw [hgt.out]; exact ho.out) hR.out rfl _ hgrow2 hloc2 hown2
   clear hown2 hgrow2 hloc2 hown1 ho hR hbW hown helt hap hcc hb
   go_wp2_with fail
   go_roundw
   case rel => exact ⟨k + 1, hlt9.out, by go_num, hG.out⟩
   case measure => simp [intOf]; have := hlt9.out; omega
  ·obtain rfl : k = n := by omega
   obtain ⟨m, hm⟩ : ∃ m, m = es.length := ⟨_, rfl⟩
   obtain rfl : k = m := by have := hl.out; omega
   rw [hm] at hcc hown helt hap
   replace hb := hi_ hb
   replace hcc := hi_ hcc
   replace hown := hi_ hown
   replace helt := hi_ helt
   replace hap := hi_ hap
   have hown9 : Hid (wr.ownsRow w.heap.size 50 10 u3 k ((List.range es.length).flatMap cc)) := by show wr.ownsRow _ _ _ _ _ _; rw [hm]; exact hown.out
   have hzb := hb.out.size
   replace hm := hi_ hm
   go_wp2_with (at_builtin; refine wpList_append_own_at _ rfl _ _ 45 rfl w.heap.size 50 i0 _ 10 176 Tryz.underlying45 hi hz0 hz1 hz2 rfl (by decide) _ _ _ rfl (hown9.out.alloc _) ⟨wr.heap.size, 0, none⟩ 1 1 [.int .u8 0, .int .i64 0, .string ⟨#[115, 112, 97, 114, 101]⟩, .slice none 0 0, .slice none 0 0, .slice none 0 0, .int .u8 0, .slice none 0 0, .slice none 0 0, .string ⟨#[]⟩] rfl rfl (World.news_of_block (cs := #[.int .u8 0, .int .i64 0, .string ⟨#[115, 112, 97, 114, 101]⟩, .slice none 0 0, .slice none 0 0, .slice none 0 0, .int .u8 0, .slice none 0 0, .slice none 0 0, .string ⟨#[]⟩]) (t := 50) (fr := (0, 0)) (heap_alloc_new wr _)) (by simp [Value.oneCell']) (by unfold maxLen; omega) (by omega) (by simp; omega) ?_)
   intro v' W2 hown2 hgrow2 _ hloc2
   obtain ⟨g, cap, hv', _, _⟩ := hown2.form (by omega)
   subst hv'
   have hcap := (ownsRow_cap hown2).1
   rw [hm.out] at hown2 hloc2
   obtain ⟨R, hO, hA, hB⟩ := grow_mark hb.out hcc.out hown.out helt.out hap.out _ rfl (by have := hm.out; omega) hgrow2 hloc2 hown2
   have hfin : Hid (ListTwin 50 10 es k w (.returned (.slice (some ⟨g, 0, none⟩) k cap)) W2) := by
    refine ⟨g, cap, R, rfl, ?_, hA, hB⟩
    rw [← hm.out] at hO
    exact hO
   have hkc : (k : Int) ≤ (cap : Int) := by omega
   clear hown2 hgrow2 hloc2 hO hA hB hown9 hown helt hap hcc hb
   go_wp2_with fail
   go_ret
   exact hfin.out
theorem twinActs_any (L : List Ac) (hT : ∀ v ∈ L, TwinAc v) (a : Option Addr) (n c : Nat) (w : World) (hwt : L.length + wts (L.map Ac.tr) ≤ 1048576) (h1 : AcLs w w.heap.size L a n) :
  Calls Tryz.prog 79 #[.slice a n c] w fun e w' => ListTwin 101 12 (L.map Ac.tr) n w e w' := by
 obtain ⟨i0, hi, hz0, hz1, hz2⟩ := info_parts infoAc
 have hl := h1.len.1
 have hll := hl
 rw [List.length_map] at hll
 have hn : n ≤ 1048576 := by omega
 obtain ⟨es, hes⟩ : ∃ es, es = L.map Ac.tr := ⟨_, rfl⟩
 rw [← hes] at hl hwt ⊢
 have hmk : ∀ u : World, (Instr.makeSlice 48 (.int .i64 0) (.int .i64 ((n : Int) + 1))).run Tryz.prog u = .ok (.slice (some ⟨u.heap.size, 0, none⟩) 0 (n + 1)) (u.alloc (.cells (madeCells #[.int .u8 0, .string ⟨#[]⟩, .int .u8 0, .int .i64 0, .string ⟨#[]⟩, .slice none 0 0, .slice none 0 0, .slice none 0 0, .int .u8 0, .slice none 0 0, .slice none 0 0, .string ⟨#[]⟩] ((n + 1) * 12)) 101)) := fun u => by
  have h := run_make (P := Tryz.prog) u 48 101 i0 (.agg #[.int .u8 0, .string ⟨#[]⟩, .int .u8 0, .int .i64 0, .string ⟨#[]⟩, .slice none 0 0, .slice none 0 0, .slice none 0 0, .int .u8 0, .slice none 0 0, .slice none 0 0, .string ⟨#[]⟩]) Tryz.underlying48 hi hz0 .i64 .i64 0 ((n : Int) + 1) (by omega) (by omega) (by rw [hz2]; omega) (by omega)
  have e : ((n : Int) + 1).toNat = n + 1 := by omega
  rw [e, hz1] at h
  exact h
 obtain ⟨S, hS⟩ : ∃ S, S = w.alloc (.cells (madeCells #[.int .u8 0, .string ⟨#[]⟩, .int .u8 0, .int .i64 0, .string ⟨#[]⟩, .slice none 0 0, .slice none 0 0, .slice none 0 0, .int .u8 0, .slice none 0 0, .slice none 0 0, .string ⟨#[]⟩] ((n + 1) * 12)) 101) := ⟨_, rfl⟩
 have hG0 : Grow w S twinM mkS 101 12 es 0 (.slice (some ⟨w.heap.size, 0, none⟩) 0 (n + 1)) := by
  rw [hS]
  exact Grow.start ((Below.refl _ _).alloc (Nat.le_refl _) _) (World.ownsRow_made _ _ _ (Nat.le_refl _) (by unfold maxLen; omega) (by simp [madeCells]))
 replace hS := hi_ hS
 replace hG0 := hi_ hG0
 replace hl := hi_ hl
 replace hll := hi_ hll
 replace h1 := hi_ h1
 replace hT := hi_ hT
 replace hwt := hi_ hwt
 replace hes := hi_ hes
 go_enter Tryz.func79, Tryz.ntmps79
 go_wp2_with (first | (rw [← hS.out]) | fail)
 go_loopw [3, 4] (fun u i wr => ∃ k : Nat, k ≤ n ∧ i = .int .i64 (k : Nat) ∧ Grow w wr twinM mkS 101 12 es k u) (fun _ i _ => n - (intOf i).toNat)
 case atStart => exact ⟨0, Nat.zero_le _, rfl, hG0.out⟩
 case round =>
  obtain ⟨k, hk, rfl, hb, _, cc, RR, hcc, hown, helt, hap⟩ := hrel
  clear hmk
  by_cases hlt : k < n
  ·have hlt9 : Hid (k + 1 ≤ n) := hlt
   obtain ⟨b1, o1, v, q1, rfl, hb1, hg1, hc1, hv1⟩ := AcLs.elem (h1.out.kept hb) k hlt
   obtain ⟨x0, x1, x2, x3, x4, x5, x6, x7, x8, x9, x10, x11⟩ := eAc_ hc1
   have hke : k < es.length := by have := hl.out; omega
   have hgt : es[k] = v.tr := by
    have : es[k]? = some v.tr := by rw [hes.out, List.getElem?_map, hg1]; rfl
    rw [List.getElem?_eq_getElem hke] at this
    exact Option.some.inj this
   have hwv : v.tr.wt ≤ 1048576 := by
    have := wts_mem (List.getElem_mem hke)
    rw [hgt] at this
    have := hwt.out; omega
   have cT := hT.out v (List.mem_of_getElem? hg1) hwv q1 wr (hv1.mono hb.size)
   replace cT := hi_ cT
   replace hb := hi_ hb
   replace hcc := hi_ hcc
   replace hown := hi_ hown
   replace helt := hi_ helt
   replace hap := hi_ hap
   replace hgt := hi_ hgt
   clear hc1 hv1 hg1
   go_wp2_with (go_at_call 104; refine cT.out.mono ?_)
   rintro e W1 ⟨q', R, rfl, ho, hR, hbW⟩
   have hzW := hbW.size
   have hzb := hb.out.size
   have hown1 : Hid (W1.ownsRow w.heap.size 101 12 u3 k ((List.range k).flatMap cc)) := hown.out.kept (grown_none hbW) (Classical.em _)
   replace ho := hi_ ho
   replace hR := hi_ hR
   replace hbW := hi_ hbW
   clear cT
   go_wp2_with (at_builtin; refine wpList_append_own_at _ rfl _ _ 48 rfl w.heap.size 101 i0 _ 12 200 Tryz.underlying48 hi hz0 hz1 hz2 rfl (by decide) _ _ _ rfl (hown1.out.alloc _) ⟨W1.heap.size, 0, none⟩ 1 1 [.int .u8 v.kind, .string v.name, .int .u8 v.expr.kind, .int .i64 v.expr.n, .string v.expr.s, .slice q'.expr.argsa q'.expr.argsn q'.expr.argsc, .slice q'.expr.namesa q'.expr.namesn q'.expr.namesc, .slice q'.expr.valsa q'.expr.valsn q'.expr.valsc, .int .u8 v.expr.elem, .slice q'.expr.keya q'.expr.keyn q'.expr.keyc, .slice q'.expr.actsa q'.expr.actsn q'.expr.actsc, .string v.expr.site] rfl rfl (World.news_of_block (cs := #[.int .u8 v.kind, .string v.name, .int .u8 v.expr.kind, .int .i64 v.expr.n, .string v.expr.s, .slice q'.expr.argsa q'.expr.argsn q'.expr.argsc, .slice q'.expr.namesa q'.expr.namesn q'.expr.namesc, .slice q'.expr.valsa q'.expr.valsn q'.expr.valsc, .int .u8 v.expr.elem, .slice q'.expr.keya q'.expr.keyn q'.expr.keyc, .slice q'.expr.actsa q'.expr.actsn q'.expr.actsc, .string v.expr.site]) (t := 101) (fr := (0, 0)) (heap_alloc_new W1 _)) (by simp [Value.oneCell']) (by unfold maxLen; omega) (by omega) (by simp; omega) ?_)
   intro v' W2 hown2 hgrow2 _ hloc2
   have hG : Hid (Grow w W2 twinM mkS 101 12 es (k + 1) v') := grow_step hb.out hcc.out hown.out helt.out hap.out hke hbW.out (by rw [hgt.out]; exact ho.out) hR.out rfl _ hgrow2 hloc2 hown2
   clear hown2 hgrow2 hloc2 hown1 ho hR hbW hown helt hap hcc hb
   go_wp2_with fail
   go_roundw
   case rel => exact ⟨k + 1, hlt9.out, by go_num, hG.out⟩
   case measure => simp [intOf]; have := hlt9.out; omega
  ·obtain rfl : k = n := by omega
   obtain ⟨m, hm⟩ : ∃ m, m = es.length := ⟨_, rfl⟩
   obtain rfl : k = m := by have := hl.out; omega
   rw [hm] at hcc hown helt hap
   replace hb := hi_ hb
   replace hcc := hi_ hcc
   replace hown := hi_ hown
   replace helt := hi_ helt
   replace hap := hi_ hap
   have hown9 : Hid (wr.ownsRow w.heap.size 101 12 u3 k ((List.range es.length).flatMap cc)) := by show wr.ownsRow _ _ _ _ _ _; rw [hm]; exact hown.out
   have hzb := hb.out.size
   replace hm := hi_ hm
   go_wp2_with (at_builtin; refine wpList_append_own_at _ rfl _ _ 48 rfl w.heap.size 101 i0 _ 12 200 Tryz.underlying48 hi hz0 hz1 hz2 rfl (by decide) _ _ _ rfl (hown9.out.alloc _) ⟨wr.heap.size, 0, none⟩ 1 1 [.int .u8 0, .string ⟨#[115, 112, 97, 114, 101]⟩, .int .u8 0, .int .i64 0, .string ⟨#[]⟩, .slice none 0 0, .slice none 0 0, .slice none 0 0, .int .u8 0, .slice none 0 0, .slice none 0 0, .string ⟨#[]⟩] rfl rfl (World.news_of_block (cs := #[.int .u8 0, .string ⟨#[115, 112, 97, 114, 101]⟩, .int .u8 0, .int .i64 0, .string ⟨#[]⟩, .slice none 0 0, .slice none 0 0, .slice none 0 0, .int .u8 0, .slice none 0 0, .slice none 0 0, .string ⟨#[]⟩]) (t := 101) (fr := (0, 0)) (heap_alloc_new wr _)) (by simp [Value.oneCell']) (by unfold maxLen; omega) (by omega) (by simp; omega) ?_)
   intro v' W2 hown2 hgrow2 _ hloc2
   obtain ⟨g, cap, hv', _, _⟩ := hown2.form (by omega)
   subst hv'
   have hcap := (ownsRow_cap hown2).1
   rw [hm.out] at hown2 hloc2
   obtain ⟨R, hO, hA, hB⟩ := grow_mark hb.out hcc.out hown.out helt.out hap.out _ rfl (by have := hm.out; omega) hgrow2 hloc2 hown2
   have hfin : Hid (ListTwin 101 12 es k w (.returned (.slice (some ⟨g, 0, none⟩) k cap)) W2) := by
    refine ⟨g, cap, R, rfl, ?_, hA, hB⟩
    rw [← hm.out] at hO
    exact hO
   have hkc : (k : Int) ≤ (cap : Int) := by omega
   clear hown2 hgrow2 hloc2 hO hA hB hown9 hown helt hap hcc hb
   go_wp2_with fail
   go_ret
   exact hfin.out
theorem twinStmts_any (L : List St) (hT : ∀ v ∈ L, TwinSt v) (a : Option Addr) (n c : Nat) (w : World) (hwt : L.length + wts (L.map St.tr) ≤ 1048576) (h1 : StLs w w.heap.size L a n) :
  Calls Tryz.prog 47 #[.slice a n c] w fun e w' => ListTwin 63 17 (L.map St.tr) n w e w' := by
 obtain ⟨i0, hi, hz0, hz1, hz2⟩ := info_parts infoSt
 have hl := h1.len.1
 have hll := hl
 rw [List.length_map] at hll
 have hn : n ≤ 1048576 := by omega
 obtain ⟨es, hes⟩ : ∃ es, es = L.map St.tr := ⟨_, rfl⟩
 rw [← hes] at hl hwt ⊢
 have hmk : ∀ u : World, (Instr.makeSlice 43 (.int .i64 0) (.int .i64 ((n : Int) + 1))).run Tryz.prog u = .ok (.slice (some ⟨u.heap.size, 0, none⟩) 0 (n + 1)) (u.alloc (.cells (madeCells #[.int .u8 0, .string ⟨#[]⟩, .string ⟨#[]⟩, .int .u8 0, .int .i64 0, .string ⟨#[]⟩, .slice none 0 0, .slice none 0 0, .slice none 0 0, .int .u8 0, .slice none 0 0, .slice none 0 0, .string ⟨#[]⟩, .slice none 0 0, .slice none 0 0, .slice none 0 0, .slice none 0 0] ((n + 1) * 17)) 63)) := fun u => by
  have h := run_make (P := Tryz.prog) u 43 63 i0 (.agg #[.int .u8 0, .string ⟨#[]⟩, .string ⟨#[]⟩, .int .u8 0, .int .i64 0, .string ⟨#[]⟩, .slice none 0 0, .slice none 0 0, .slice none 0 0, .int .u8 0, .slice none 0 0, .slice none 0 0, .string ⟨#[]⟩, .slice none 0 0, .slice none 0 0, .slice none 0 0, .slice none 0 0]) Tryz.underlying43 hi hz0 .i64 .i64 0 ((n : Int) + 1) (by omega) (by omega) (by rw [hz2]; omega) (by omega)
  have e : ((n : Int) + 1).toNat = n + 1 := by omega
  rw [e, hz1] at h
  exact h
 obtain ⟨S, hS⟩ : ∃ S, S = w.alloc (.cells (madeCells #[.int .u8 0, .string ⟨#[]⟩, .string ⟨#[]⟩, .int .u8 0, .int .i64 0, .string ⟨#[]⟩, .slice none 0 0, .slice none 0 0, .slice none 0 0, .int .u8 0, .slice none 0 0, .slice none 0 0, .string ⟨#[]⟩, .slice none 0 0, .slice none 0 0, .slice none 0 0, .slice none 0 0] ((n + 1) * 17)) 63) := ⟨_, rfl⟩
 have hG0 : Grow w S twinM mkS 63 17 es 0 (.slice (some ⟨w.heap.size, 0, none⟩) 0 (n + 1)) := by
  rw [hS]
  exact Grow.start ((Below.refl _ _).alloc (Nat.le_refl _) _) (World.ownsRow_made _ _ _ (Nat.le_refl _) (by unfold maxLen; omega) (by simp [madeCells]))
 replace hS := hi_ hS
 replace hG0 := hi_ hG0
 replace hl := hi_ hl
 replace hll := hi_ hll
 replace h1 := hi_ h1
 replace hT := hi_ hT
 replace hwt := hi_ hwt
 replace hes := hi_ hes
 go_enter Tryz.func47, Tryz.ntmps47
 go_wp2_with (first | (rw [← hS.out]) | fail)
 go_loopw [3, 4] (fun u i wr => ∃ k : Nat, k ≤ n ∧ i = .int .i64 (k : Nat) ∧ Grow w wr twinM mkS 63 17 es k u) (fun _ i _ => n - (intOf i).toNat)
 case atStart => exact ⟨0, Nat.zero_le _, rfl, hG0.out⟩
 case round =>
  obtain ⟨k, hk, rfl, hb, _, cc, RR, hcc, hown, helt, hap⟩ := hrel
  clear hmk
  by_cases hlt : k < n
  ·have hlt9 : Hid (k + 1 ≤ n) := hlt
   obtain ⟨b1, o1, v, q1, rfl, hb1, hg1, hc1, hv1⟩ := StLs.elem (h1.out.kept hb) k hlt
   obtain ⟨x0, x1, x2, x3, x4, x5, x6, x7, x8, x9, x10, x11, x12, x13, x14, x15, x16⟩ := eSt_ hc1
   have hke : k < es.length := by have := hl.out; omega
   have hgt : es[k] = v.tr := by
    have : es[k]? = some v.tr := by rw [hes.out, List.getElem?_map, hg1]; rfl
    rw [List.getElem?_eq_getElem hke] at this
    exact Option.some.inj this
   have hwv : v.tr.wt ≤ 1048576 := by
    have := wts_mem (List.getElem_mem hke)
    rw [hgt] at this
    have := hwt.out; omega
   have cT := hT.out v (List.mem_of_getElem? hg1) hwv q1 wr (hv1.mono hb.size)
   replace cT := hi_ cT
   replace hb := hi_ hb
   replace hcc := hi_ hcc
   replace hown := hi_ hown
   replace helt := hi_ helt
   replace hap := hi_ hap
   replace hgt := hi_ hgt
   clear hc1 hv1 hg1
   go_wp2_with (go_at_call 76; refine cT.out.mono ?_)
   rintro e W1 ⟨q', R, rfl, ho, hR, hbW⟩
   have hzW := hbW.size
   have hzb := hb.out.size
   have hown1 : Hid (W1.ownsRow w.heap.size 63 17 u3 k ((List.range k).flatMap cc)) := hown.out.kept (grown_none hbW) (Classical.em _)
   replace ho := hi_ ho
   replace hR := hi_ hR
   replace hbW := hi_ hbW
   clear cT
   go_wp2_with (at_builtin; refine wpList_append_own_at _ rfl _ _ 43 rfl w.heap.size 63 i0 _ 17 312 Tryz.underlying43 hi hz0 hz1 hz2 rfl (by decide) _ _ _ rfl (hown1.out.alloc _) ⟨W1.heap.size, 0, none⟩ 1 1 [.int .u8 v.kind, .string v.name, .string v.ctx, .int .u8 v.expr.kind, .int .i64 v.expr.n, .string v.expr.s, .slice q'.expr.argsa q'.expr.argsn q'.expr.argsc, .slice q'.expr.namesa q'.expr.namesn q'.expr.namesc, .slice q'.expr.valsa q'.expr.valsn q'.expr.valsc, .int .u8 v.expr.elem, .slice q'.expr.keya q'.expr.keyn q'.expr.keyc, .slice q'.expr.actsa q'.expr.actsn q'.expr.actsc, .string v.expr.site, .slice q'.depsa q'.depsn q'.depsc, .slice q'.dosa q'.dosn q'.dosc, .slice q'.undoa q'.undon q'.undoc, .slice q'.bodya q'.bodyn q'.bodyc] rfl rfl (World.news_of_block (cs := #[.int .u8 v.kind, .string v.name, .string v.ctx, .int .u8 v.expr.kind, .int .i64 v.expr.n, .string v.expr.s, .slice q'.expr.argsa q'.expr.argsn q'.expr.argsc, .slice q'.expr.namesa q'.expr.namesn q'.expr.namesc, .slice q'.expr.valsa q'.expr.valsn q'.expr.valsc, .int .u8 v.expr.elem, .slice q'.expr.keya q'.expr.keyn q'.expr.keyc, .slice q'.expr.actsa q'.expr.actsn q'.expr.actsc, .string v.expr.site, .slice q'.depsa q'.depsn q'.depsc, .slice q'.dosa q'.dosn q'.dosc, .slice q'.undoa q'.undon q'.undoc, .slice q'.bodya q'.bodyn q'.bodyc]) (t := 63) (fr := (0, 0)) (heap_alloc_new W1 _)) (by simp [Value.oneCell']) (by unfold maxLen; omega) (by omega) (by simp; omega) ?_)
   intro v' W2 hown2 hgrow2 _ hloc2
   have hG : Hid (Grow w W2 twinM mkS 63 17 es (k + 1) v') := grow_step hb.out hcc.out hown.out helt.out hap.out hke hbW.out (by rw [hgt.out]; exact ho.out) hR.out rfl _ hgrow2 hloc2 hown2
   clear hown2 hgrow2 hloc2 hown1 ho hR hbW hown helt hap hcc hb
   go_wp2_with fail
   go_roundw
   case rel => exact ⟨k + 1, hlt9.out, by go_num, hG.out⟩
   case measure => simp [intOf]; have := hlt9.out; omega
  ·obtain rfl : k = n := by omega
   obtain ⟨m, hm⟩ : ∃ m, m = es.length := ⟨_, rfl⟩
   obtain rfl : k = m := by have := hl.out; omega
   rw [hm] at hcc hown helt hap
   replace hb := hi_ hb
   replace hcc := hi_ hcc
   replace hown := hi_ hown
   replace helt := hi_ helt
   replace hap := hi_ hap
   have hown9 : Hid (wr.ownsRow w.heap.size 63 17 u3 k ((List.range es.length).flatMap cc)) := by show wr.ownsRow _ _ _ _ _ _; rw [hm]; exact hown.out
   have hzb := hb.out.size
   replace hm := hi_ hm
   go_wp2_with (at_builtin; refine wpList_append_own_at _ rfl _ _ 43 rfl w.heap.size 63 i0 _ 17 312 Tryz.underlying43 hi hz0 hz1 hz2 rfl (by decide) _ _ _ rfl (hown9.out.alloc _) ⟨wr.heap.size, 0, none⟩ 1 1 [.int .u8 0, .string ⟨#[115, 112, 97, 114, 101]⟩, .string ⟨#[]⟩, .int .u8 0, .int .i64 0, .string ⟨#[]⟩, .slice none 0 0, .slice none 0 0, .slice none 0 0, .int .u8 0, .slice none 0 0, .slice none 0 0, .string ⟨#[]⟩, .slice none 0 0, .slice none 0 0, .slice none 0 0, .slice none 0 0] rfl rfl (World.news_of_block (cs := #[.int .u8 0, .string ⟨#[115, 112, 97, 114, 101]⟩, .string ⟨#[]⟩, .int .u8 0, .int .i64 0, .string ⟨#[]⟩, .slice none 0 0, .slice none 0 0, .slice none 0 0, .int .u8 0, .slice none 0 0, .slice none 0 0, .string ⟨#[]⟩, .slice none 0 0, .slice none 0 0, .slice none 0 0, .slice none 0 0]) (t := 63) (fr := (0, 0)) (heap_alloc_new wr _)) (by simp [Value.oneCell']) (by unfold maxLen; omega) (by omega) (by simp; omega) ?_)
   intro v' W2 hown2 hgrow2 _ hloc2
   obtain ⟨g, cap, hv', _, _⟩ := hown2.form (by omega)
   subst hv'
   have hcap := (ownsRow_cap hown2).1
   rw [hm.out] at hown2 hloc2
   obtain ⟨R, hO, hA, hB⟩ := grow_mark hb.out hcc.out hown.out helt.out hap.out _ rfl (by have := hm.out; omega) hgrow2 hloc2 hown2
   have hfin : Hid (ListTwin 63 17 es k w (.returned (.slice (some ⟨g, 0, none⟩) k cap)) W2) := by
    refine ⟨g, cap, R, rfl, ?_, hA, hB⟩
    rw [← hm.out] at hO
    exact hO
   have hkc : (k : Int) ≤ (cap : Int) := by omega
   clear hown2 hgrow2 hloc2 hO hA hB hown9 hown helt hap hcc hb
   go_wp2_with fail
   go_ret
   exact hfin.out
theorem twinComponents_any (L : List Co) (hT : ∀ v ∈ L, TwinCo v) (a : Option Addr) (n c : Nat) (w : World) (hwt : L.length + wts (L.map Co.tr) ≤ 1048576) (h1 : CoLs w w.heap.size L a n) :
  Calls Tryz.prog 11 #[.slice a n c] w fun e w' => ListTwin 52 13 (L.map Co.tr) n w e w' := by
 obtain ⟨i0, hi, hz0, hz1, hz2⟩ := info_parts infoCo
 have hl := h1.len.1
 have hll := hl
 rw [List.length_map] at hll
 have hn : n ≤ 1048576 := by omega
 obtain ⟨es, hes⟩ : ∃ es, es = L.map Co.tr := ⟨_, rfl⟩
 rw [← hes] at hl hwt ⊢
 have hmk : ∀ u : World, (Instr.makeSlice 22 (.int .i64 0) (.int .i64 ((n : Int) + 1))).run Tryz.prog u = .ok (.slice (some ⟨u.heap.size, 0, none⟩) 0 (n + 1)) (u.alloc (.cells (madeCells #[.string ⟨#[]⟩, .string ⟨#[]⟩, .slice none 0 0, .int .u8 0, .int .i64 0, .string ⟨#[]⟩, .slice none 0 0, .slice none 0 0, .slice none 0 0, .int .u8 0, .slice none 0 0, .slice none 0 0, .string ⟨#[]⟩] ((n + 1) * 13)) 52)) := fun u => by
  have h := run_make (P := Tryz.prog) u 22 52 i0 (.agg #[.string ⟨#[]⟩, .string ⟨#[]⟩, .slice none 0 0, .int .u8 0, .int .i64 0, .string ⟨#[]⟩, .slice none 0 0, .slice none 0 0, .slice none 0 0, .int .u8 0, .slice none 0 0, .slice none 0 0, .string ⟨#[]⟩]) Tryz.underlying22 hi hz0 .i64 .i64 0 ((n : Int) + 1) (by omega) (by omega) (by rw [hz2]; omega) (by omega)
  have e : ((n : Int) + 1).toNat = n + 1 := by omega
  rw [e, hz1] at h
  exact h
 obtain ⟨S, hS⟩ : ∃ S, S = w.alloc (.cells (madeCells #[.string ⟨#[]⟩, .string ⟨#[]⟩, .slice none 0 0, .int .u8 0, .int .i64 0, .string ⟨#[]⟩, .slice none 0 0, .slice none 0 0, .slice none 0 0, .int .u8 0, .slice none 0 0, .slice none 0 0, .string ⟨#[]⟩] ((n + 1) * 13)) 52) := ⟨_, rfl⟩
 have hG0 : Grow w S twinM mkS 52 13 es 0 (.slice (some ⟨w.heap.size, 0, none⟩) 0 (n + 1)) := by
  rw [hS]
  exact Grow.start ((Below.refl _ _).alloc (Nat.le_refl _) _) (World.ownsRow_made _ _ _ (Nat.le_refl _) (by unfold maxLen; omega) (by simp [madeCells]))
 replace hS := hi_ hS
 replace hG0 := hi_ hG0
 replace hl := hi_ hl
 replace hll := hi_ hll
 replace h1 := hi_ h1
 replace hT := hi_ hT
 replace hwt := hi_ hwt
 replace hes := hi_ hes
 go_enter Tryz.func11, Tryz.ntmps11
 go_wp2_with (first | (rw [← hS.out]) | fail)
 go_loopw [3, 4] (fun u i wr => ∃ k : Nat, k ≤ n ∧ i = .int .i64 (k : Nat) ∧ Grow w wr twinM mkS 52 13 es k u) (fun _ i _ => n - (intOf i).toNat)
 case atStart => exact ⟨0, Nat.zero_le _, rfl, hG0.out⟩
 case round =>
  obtain ⟨k, hk, rfl, hb, _, cc, RR, hcc, hown, helt, hap⟩ := hrel
  clear hmk
  by_cases hlt : k < n
  ·have hlt9 : Hid (k + 1 ≤ n) := hlt
   obtain ⟨b1, o1, v, q1, rfl, hb1, hg1, hc1, hv1⟩ := CoLs.elem (h1.out.kept hb) k hlt
   obtain ⟨x0, x1, x2, x3, x4, x5, x6, x7, x8, x9, x10, x11, x12⟩ := eCo_ hc1
   have hke : k < es.length := by have := hl.out; omega
   have hgt : es[k] = v.tr := by
    have : es[k]? = some v.tr := by rw [hes.out, List.getElem?_map, hg1]; rfl
    rw [List.getElem?_eq_getElem hke] at this
    exact Option.some.inj this
   have hwv : v.tr.wt ≤ 1048576 := by
    have := wts_mem (List.getElem_mem hke)
    rw [hgt] at this
    have := hwt.out; omega
   have cT := hT.out v (List.mem_of_getElem? hg1) hwv q1 wr (hv1.mono hb.size)
   replace cT := hi_ cT
   replace hb := hi_ hb
   replace hcc := hi_ hcc
   replace hown := hi_ hown
   replace helt := hi_ helt
   replace hap := hi_ hap
   replace hgt := hi_ hgt
   clear hc1 hv1 hg1
   go_wp2_with (go_at_call 24; refine cT.out.mono ?_)
   rintro e W1 ⟨q', R, rfl, ho, hR, hbW⟩
   have hzW := hbW.size
   have hzb := hb.out.size
   have hown1 : Hid (W1.ownsRow w.heap.size 52 13 u3 k ((List.range k).flatMap cc)) := hown.out.kept (grown_none hbW) (Classical.em _)
   replace ho := hi_ ho
   replace hR := hi_ hR
   replace hbW := hi_ hbW
   clear cT
   go_wp2_with (at_builtin; refine wpList_append_own_at _ rfl _ _ 22 rfl w.heap.size 52 i0 _ 13 232 Tryz.underlying22 hi hz0 hz1 hz2 rfl (by decide) _ _ _ rfl (hown1.out.alloc _) ⟨W1.heap.size, 0, none⟩ 1 1 [.string v.name, .string v.param, .slice q'.bodya q'.bodyn q'.bodyc, .int .u8 v.out.kind, .int .i64 v.out.n, .string v.out.s, .slice q'.out.argsa q'.out.argsn q'.out.argsc, .slice q'.out.namesa q'.out.namesn q'.out.namesc, .slice q'.out.valsa q'.out.valsn q'.out.valsc, .int .u8 v.out.elem, .slice q'.out.keya q'.out.keyn q'.out.keyc, .slice q'.out.actsa q'.out.actsn q'.out.actsc, .string v.out.site] rfl rfl (World.news_of_block (cs := #[.string v.name, .string v.param, .slice q'.bodya q'.bodyn q'.bodyc, .int .u8 v.out.kind, .int .i64 v.out.n, .string v.out.s, .slice q'.out.argsa q'.out.argsn q'.out.argsc, .slice q'.out.namesa q'.out.namesn q'.out.namesc, .slice q'.out.valsa q'.out.valsn q'.out.valsc, .int .u8 v.out.elem, .slice q'.out.keya q'.out.keyn q'.out.keyc, .slice q'.out.actsa q'.out.actsn q'.out.actsc, .string v.out.site]) (t := 52) (fr := (0, 0)) (heap_alloc_new W1 _)) (by simp [Value.oneCell']) (by unfold maxLen; omega) (by omega) (by simp; omega) ?_)
   intro v' W2 hown2 hgrow2 _ hloc2
   have hG : Hid (Grow w W2 twinM mkS 52 13 es (k + 1) v') := grow_step hb.out hcc.out hown.out helt.out hap.out hke hbW.out (by rw [hgt.out]; exact ho.out) hR.out rfl _ hgrow2 hloc2 hown2
   clear hown2 hgrow2 hloc2 hown1 ho hR hbW hown helt hap hcc hb
   go_wp2_with fail
   go_roundw
   case rel => exact ⟨k + 1, hlt9.out, by go_num, hG.out⟩
   case measure => simp [intOf]; have := hlt9.out; omega
  ·obtain rfl : k = n := by omega
   obtain ⟨m, hm⟩ : ∃ m, m = es.length := ⟨_, rfl⟩
   obtain rfl : k = m := by have := hl.out; omega
   rw [hm] at hcc hown helt hap
   replace hb := hi_ hb
   replace hcc := hi_ hcc
   replace hown := hi_ hown
   replace helt := hi_ helt
   replace hap := hi_ hap
   have hown9 : Hid (wr.ownsRow w.heap.size 52 13 u3 k ((List.range es.length).flatMap cc)) := by show wr.ownsRow _ _ _ _ _ _; rw [hm]; exact hown.out
   have hzb := hb.out.size
   replace hm := hi_ hm
   go_wp2_with (at_builtin; refine wpList_append_own_at _ rfl _ _ 22 rfl w.heap.size 52 i0 _ 13 232 Tryz.underlying22 hi hz0 hz1 hz2 rfl (by decide) _ _ _ rfl (hown9.out.alloc _) ⟨wr.heap.size, 0, none⟩ 1 1 [.string ⟨#[115, 112, 97, 114, 101]⟩, .string ⟨#[]⟩, .slice none 0 0, .int .u8 0, .int .i64 0, .string ⟨#[]⟩, .slice none 0 0, .slice none 0 0, .slice none 0 0, .int .u8 0, .slice none 0 0, .slice none 0 0, .string ⟨#[]⟩] rfl rfl (World.news_of_block (cs := #[.string ⟨#[115, 112, 97, 114, 101]⟩, .string ⟨#[]⟩, .slice none 0 0, .int .u8 0, .int .i64 0, .string ⟨#[]⟩, .slice none 0 0, .slice none 0 0, .slice none 0 0, .int .u8 0, .slice none 0 0, .slice none 0 0, .string ⟨#[]⟩]) (t := 52) (fr := (0, 0)) (heap_alloc_new wr _)) (by simp [Value.oneCell']) (by unfold maxLen; omega) (by omega) (by simp; omega) ?_)
   intro v' W2 hown2 hgrow2 _ hloc2
   obtain ⟨g, cap, hv', _, _⟩ := hown2.form (by omega)
   subst hv'
   have hcap := (ownsRow_cap hown2).1
   rw [hm.out] at hown2 hloc2
   obtain ⟨R, hO, hA, hB⟩ := grow_mark hb.out hcc.out hown.out helt.out hap.out _ rfl (by have := hm.out; omega) hgrow2 hloc2 hown2
   have hfin : Hid (ListTwin 52 13 es k w (.returned (.slice (some ⟨g, 0, none⟩) k cap)) W2) := by
    refine ⟨g, cap, R, rfl, ?_, hA, hB⟩
    rw [← hm.out] at hO
    exact hO
   have hkc : (k : Int) ≤ (cap : Int) := by omega
   clear hown2 hgrow2 hloc2 hO hA hB hown9 hown helt hap hcc hb
   go_wp2_with fail
   go_ret
   exact hfin.out
end Go.Proofs.YtlppklbmdedipaaGreatDoor
