/- A list of things done, as a row reads it. -/
import Derived.Test.YtimdkdengdhglaaBgO
import Derived.ProofKit
import Derived.Deep.Slices
namespace Go.Proofs.Ytimdkdengdhglaa
open Go Go.RowKit Go.ChangeShapes Go.WideShapes Go.ChangeAt

section
variable {H : Type} {enc : TypeId × Value → H} {W : World} {base : Nat} {sp : Nat → Bool} {held : Bool}
theorem one_cell_slice {t e : TypeId} (ht : Try.prog.underlying t = some (.slice e)) {fuel : Nat} {c : Value} {x : DataW H × List MemPlace} (h : DataW.trod enc Try.prog W base sp held fuel t [c] = some x) : ∃ a n cap, c = .slice a n cap := by
  rcases DataW.trod_slice ht h with ⟨hc, _⟩ | ⟨a, len, cap, _, _, _, _, hc, _⟩
  · simp at hc; exact ⟨_, _, _, hc⟩
  · simp at hc; exact ⟨_, _, _, hc⟩
theorem one_cell_int {t : TypeId} {k : IntKind} (ht : Try.prog.underlying t = some (.int k)) {fuel : Nat} {c : Value} {x : DataW H × List MemPlace} (h : DataW.trod enc Try.prog W base sp held fuel t [c] = some x) : ∃ n, c = .int k n ∧ (Lit.int k n).wf = true := by
  obtain ⟨n, hc, _, hw⟩ := DataW.trod_int ht h
  simp at hc; exact ⟨n, hc, hw⟩
theorem one_cell_string {fuel : Nat} {c : Value} {x : DataW H × List MemPlace} (h : DataW.trod enc Try.prog W base sp held fuel 9 [c] = some x) : ∃ s, c = .string s := by
  obtain ⟨s, hc, _, _⟩ := DataW.trod_string Try.underlying9 h
  simp at hc; exact ⟨s, hc⟩
theorem one_cell_bool {fuel : Nat} {c : Value} {x : DataW H × List MemPlace} (h : DataW.trod enc Try.prog W base sp held fuel 4 [c] = some x) : ∃ b, c = .bool b := by
  obtain ⟨b, hc, _⟩ := DataW.trod_bool Try.underlying4 h
  simp at hc; exact ⟨b, hc⟩
theorem k1 : Try.prog.cellsOf 58 = 1 := by kernel_rfl
theorem k2 : Try.prog.cellsOf 3 = 1 := by kernel_rfl
theorem k3 : Try.prog.cellsOf 9 = 1 := by kernel_rfl
theorem k4 : Try.prog.cellsOf 43 = 8 := by kernel_rfl
theorem k5 : Try.prog.cellsOf 39 = 1 := by kernel_rfl
theorem k6 : Try.prog.cellsOf 2 = 1 := by kernel_rfl
theorem k7 : Try.prog.cellsOf 40 = 1 := by kernel_rfl
theorem k8 : Try.prog.cellsOf 36 = 1 := by kernel_rfl
theorem k9 : Try.prog.cellsOf 41 = 1 := by kernel_rfl
theorem k10 : Try.prog.cellsOf 4 = 1 := by kernel_rfl
theorem k11 : Try.prog.cellsOf 60 = 14 := by kernel_rfl
theorem at_some {α : Type} {xs : List α} {n i : Nat} (h : xs.length = n) (hi : i < n) : ∃ y, xs[i]? = some y := ⟨xs[i]'(by omega), List.getElem?_eq_getElem (by omega)⟩
/-- A value's eight cells. -/
theorem open_value {fuel : Nat} {c0 c1 c2 c3 c4 c5 c6 c7 : Value} {x : DataW H × List MemPlace} (h : DataW.trod enc Try.prog W base sp held fuel 43 [c0, c1, c2, c3, c4, c5, c6, c7] = some x) :
    ∃ vk vn vs la ln lc fa fn fc el key hk, c0 = .int .u8 vk ∧ c1 = .int .i64 vn ∧ c2 = .string vs ∧ c3 = .slice la ln lc ∧ c4 = .slice fa fn fc ∧ c5 = .int .u8 el ∧ c6 = .string key ∧ c7 = .bool hk := by
  obtain ⟨xs, n, _, _, _, hlen, hf⟩ := DataW.trod_struct Try.underlying43 h
  have hl8 : xs.length = 8 := hlen
  obtain ⟨y0, e0⟩ := at_some hl8 (i := 0) (by omega)
  obtain ⟨y1, e1⟩ := at_some hl8 (i := 1) (by omega)
  obtain ⟨y2, e2⟩ := at_some hl8 (i := 2) (by omega)
  obtain ⟨y3, e3⟩ := at_some hl8 (i := 3) (by omega)
  obtain ⟨y4, e4⟩ := at_some hl8 (i := 4) (by omega)
  obtain ⟨y5, e5⟩ := at_some hl8 (i := 5) (by omega)
  obtain ⟨y6, e6⟩ := at_some hl8 (i := 6) (by omega)
  obtain ⟨y7, e7⟩ := at_some hl8 (i := 7) (by omega)
  have f0 : DataW.trod enc Try.prog W base sp held n 39 (([c0, c1, c2, c3, c4, c5, c6, c7].drop 0).take (Try.prog.cellsOf 39)) = xs[0]? := hf 0 _ rfl
  have f1 : DataW.trod enc Try.prog W base sp held n 2 (([c0, c1, c2, c3, c4, c5, c6, c7].drop 1).take (Try.prog.cellsOf 2)) = xs[1]? := hf 1 _ rfl
  have f2 : DataW.trod enc Try.prog W base sp held n 9 (([c0, c1, c2, c3, c4, c5, c6, c7].drop 2).take (Try.prog.cellsOf 9)) = xs[2]? := hf 2 _ rfl
  have f3 : DataW.trod enc Try.prog W base sp held n 40 (([c0, c1, c2, c3, c4, c5, c6, c7].drop 3).take (Try.prog.cellsOf 40)) = xs[3]? := hf 3 _ rfl
  have f4 : DataW.trod enc Try.prog W base sp held n 36 (([c0, c1, c2, c3, c4, c5, c6, c7].drop 4).take (Try.prog.cellsOf 36)) = xs[4]? := hf 4 _ rfl
  have f5 : DataW.trod enc Try.prog W base sp held n 41 (([c0, c1, c2, c3, c4, c5, c6, c7].drop 5).take (Try.prog.cellsOf 41)) = xs[5]? := hf 5 _ rfl
  have f6 : DataW.trod enc Try.prog W base sp held n 9 (([c0, c1, c2, c3, c4, c5, c6, c7].drop 6).take (Try.prog.cellsOf 9)) = xs[6]? := hf 6 _ rfl
  have f7 : DataW.trod enc Try.prog W base sp held n 4 (([c0, c1, c2, c3, c4, c5, c6, c7].drop 7).take (Try.prog.cellsOf 4)) = xs[7]? := hf 7 _ rfl
  rw [e0] at f0; rw [e1] at f1; rw [e2] at f2; rw [e3] at f3; rw [e4] at f4; rw [e5] at f5; rw [e6] at f6; rw [e7] at f7
  simp only [k5, k6, k3, k7, k8, k9, k10, List.drop_zero, List.drop_succ_cons, List.take_succ_cons, List.take_zero] at f0 f1 f2 f3 f4 f5 f6 f7
  obtain ⟨a0, g0, _⟩ := one_cell_int Try.underlying39 f0
  obtain ⟨a1, g1, _⟩ := one_cell_int Try.underlying2 f1
  obtain ⟨a2, g2⟩ := one_cell_string f2
  obtain ⟨a3, b3, d3, g3⟩ := one_cell_slice Try.underlying40 f3
  obtain ⟨a4, b4, d4, g4⟩ := one_cell_slice Try.underlying36 f4
  obtain ⟨a5, g5, _⟩ := one_cell_int Try.underlying41 f5
  obtain ⟨a6, g6⟩ := one_cell_string f6
  obtain ⟨a7, g7⟩ := one_cell_bool f7
  exact ⟨a0, a1, a2, a3, b3, d3, a4, b4, d4, a5, a6, a7, g0, g1, g2, g3, g4, g5, g6, g7⟩
/-- A thing done: fourteen cells. -/
theorem open_op {fuel : Nat} {cs : List Value} {x : DataW H × List MemPlace} (h : DataW.trod enc Try.prog W base sp held fuel 60 cs = some x) : ∃ q : OpR, cs = q.cells := by
  obtain ⟨xs, n, _, _, hl, hlen, hf⟩ := DataW.trod_struct Try.underlying60 h
  rw [k11] at hl
  have hl7 : xs.length = 7 := hlen
  match cs, hl with
  | [c0, c1, c2, c3, c4, c5, c6, c7, c8, c9, c10, c11, c12, c13], _ =>
    obtain ⟨y0, e0⟩ := at_some hl7 (i := 0) (by omega)
    obtain ⟨y1, e1⟩ := at_some hl7 (i := 1) (by omega)
    obtain ⟨y2, e2⟩ := at_some hl7 (i := 2) (by omega)
    obtain ⟨y3, e3⟩ := at_some hl7 (i := 3) (by omega)
    obtain ⟨y4, e4⟩ := at_some hl7 (i := 4) (by omega)
    obtain ⟨y5, e5⟩ := at_some hl7 (i := 5) (by omega)
    obtain ⟨y6, e6⟩ := at_some hl7 (i := 6) (by omega)
    have f0 : DataW.trod enc Try.prog W base sp held n 58 (([c0, c1, c2, c3, c4, c5, c6, c7, c8, c9, c10, c11, c12, c13].drop 0).take (Try.prog.cellsOf 58)) = xs[0]? := hf 0 _ rfl
    have f1 : DataW.trod enc Try.prog W base sp held n 3 (([c0, c1, c2, c3, c4, c5, c6, c7, c8, c9, c10, c11, c12, c13].drop 1).take (Try.prog.cellsOf 3)) = xs[1]? := hf 1 _ rfl
    have f2 : DataW.trod enc Try.prog W base sp held n 3 (([c0, c1, c2, c3, c4, c5, c6, c7, c8, c9, c10, c11, c12, c13].drop 2).take (Try.prog.cellsOf 3)) = xs[2]? := hf 2 _ rfl
    have f3 : DataW.trod enc Try.prog W base sp held n 9 (([c0, c1, c2, c3, c4, c5, c6, c7, c8, c9, c10, c11, c12, c13].drop 3).take (Try.prog.cellsOf 9)) = xs[3]? := hf 3 _ rfl
    have f4 : DataW.trod enc Try.prog W base sp held n 3 (([c0, c1, c2, c3, c4, c5, c6, c7, c8, c9, c10, c11, c12, c13].drop 4).take (Try.prog.cellsOf 3)) = xs[4]? := hf 4 _ rfl
    have f5 : DataW.trod enc Try.prog W base sp held n 9 (([c0, c1, c2, c3, c4, c5, c6, c7, c8, c9, c10, c11, c12, c13].drop 5).take (Try.prog.cellsOf 9)) = xs[5]? := hf 5 _ rfl
    have f6 : DataW.trod enc Try.prog W base sp held n 43 (([c0, c1, c2, c3, c4, c5, c6, c7, c8, c9, c10, c11, c12, c13].drop 6).take (Try.prog.cellsOf 43)) = xs[6]? := hf 6 _ rfl
    rw [e0] at f0; rw [e1] at f1; rw [e2] at f2; rw [e3] at f3; rw [e4] at f4; rw [e5] at f5; rw [e6] at f6
    simp only [k1, k2, k3, k4, List.drop_zero, List.drop_succ_cons, List.take_succ_cons, List.take_zero] at f0 f1 f2 f3 f4 f5 f6
    obtain ⟨a0, g0, w0⟩ := one_cell_int Try.underlying58 f0
    obtain ⟨a1, g1, _⟩ := one_cell_int Try.underlying3 f1
    obtain ⟨a2, g2, _⟩ := one_cell_int Try.underlying3 f2
    obtain ⟨a3, g3⟩ := one_cell_string f3
    obtain ⟨a4, g4, _⟩ := one_cell_int Try.underlying3 f4
    obtain ⟨a5, g5⟩ := one_cell_string f5
    obtain ⟨vk, vn, vs, la, ln, lc, fa, fn, fc, el, key, hk, v0, v1, v2, v3, v4, v5, v6, v7⟩ := open_value f6
    have hk0 : 0 ≤ a0 := by
      simp [Lit.wf] at w0
      have : IntKind.u8.min = 0 := rfl
      omega
    refine ⟨⟨a0.toNat, a1, a2, a3, a4, a5, vk, vn, vs, la, ln, lc, fa, fn, fc, el, key, hk⟩, ?_⟩
    subst g0 g1 g2 g3 g4 g5 v0 v1 v2 v3 v4 v5 v6 v7
    simp [OpR.cells, Int.toNat_of_nonneg hk0]
end
end Go.Proofs.Ytimdkdengdhglaa
