/- What a list of things done costs: the program's count and the reference's; same. -/
import Derived.Test.YtimdkdengdhglaaBgA
namespace Go.Proofs.Ytimdkdengdhglaa
open Go Go.RowKit Go.Maps

/-- Five costs, by the kinds in order. -/
structure C5 where
  a : Int
  b : Int
  c : Int
  d : Int
  e : Int
def C5.zero : C5 := ⟨0, 0, 0, 0, 0⟩
def C5.step (x : C5) (k : Nat) : C5 :=
  if k = 1 ∨ k = 2 then { x with a := wrap64 (x.a + 1) } else if k = 7 then { x with b := wrap64 (x.b + 1) } else if k = 3 ∨ k = 4 then { x with c := wrap64 (x.c + 1) } else if k = 5 then { x with d := wrap64 (x.d + 1) } else if k = 6 then { x with e := wrap64 (x.e + 1) } else x
def C5.of (ks : Nat → Nat) : Nat → C5
  | 0 => C5.zero
  | n + 1 => (C5.of ks n).step (ks n)
def C5.val (x : C5) : Value := .agg #[.int .i64 x.a, .int .i64 x.b, .int .i64 x.c, .int .i64 x.d, .int .i64 x.e]
def C5Row (W : World) (C : Nat) (t : TypeId) (x : C5) : Prop := W.heap[C]? = some (.cells #[.int .i64 x.a, .int .i64 x.b, .int .i64 x.c, .int .i64 x.d, .int .i64 x.e] t (0, 0))
theorem C5Row.cells {W : World} {C : Nat} {t : TypeId} {x : C5} (h : C5Row W C t x) : W.cell? ⟨C, 0, none⟩ = some (.int .i64 x.a) ∧ W.cell? ⟨C, 1, none⟩ = some (.int .i64 x.b) ∧ W.cell? ⟨C, 2, none⟩ = some (.int .i64 x.c) ∧ W.cell? ⟨C, 3, none⟩ = some (.int .i64 x.d) ∧ W.cell? ⟨C, 4, none⟩ = some (.int .i64 x.e) := by
  simp [World.cell?, show W.heap[C]? = _ from h]
theorem C5Row.fr {W : World} {C : Nat} {t : TypeId} {x : C5} (h : C5Row W C t x) (j : Nat) : W.frozen? ⟨C, j, none⟩ = false := by simp [World.frozen?, show W.heap[C]? = _ from h]
theorem C5Row.lt {W : World} {C : Nat} {t : TypeId} {x : C5} (h : C5Row W C t x) : C < W.heap.size := (Array.getElem?_eq_some_iff.1 (show W.heap[C]? = _ from h)).1
theorem C5Row.set {W : World} {C : Nat} {t : TypeId} {x : C5} (h : C5Row W C t x) :
    (∀ n, C5Row (W.setCell ⟨C, 0, none⟩ (.int .i64 n)) C t { x with a := n }) ∧ (∀ n, C5Row (W.setCell ⟨C, 1, none⟩ (.int .i64 n)) C t { x with b := n }) ∧ (∀ n, C5Row (W.setCell ⟨C, 2, none⟩ (.int .i64 n)) C t { x with c := n }) ∧
    (∀ n, C5Row (W.setCell ⟨C, 3, none⟩ (.int .i64 n)) C t { x with d := n }) ∧ (∀ n, C5Row (W.setCell ⟨C, 4, none⟩ (.int .i64 n)) C t { x with e := n }) := by
  refine ⟨fun n => ?_, fun n => ?_, fun n => ?_, fun n => ?_, fun n => ?_⟩
  · have := blk_set (show W.heap[C]? = _ from h) 0 (.int .i64 n); exact this
  · have := blk_set (show W.heap[C]? = _ from h) 1 (.int .i64 n); exact this
  · have := blk_set (show W.heap[C]? = _ from h) 2 (.int .i64 n); exact this
  · have := blk_set (show W.heap[C]? = _ from h) 3 (.int .i64 n); exact this
  · have := blk_set (show W.heap[C]? = _ from h) 4 (.int .i64 n); exact this

theorem results_cellO {P : Program} {fn : Func} {p : Tmp} {ty : TypeId} (h : fn.results = #[.cell p ty]) (tmps : Array Value) (w : World) (g : Nat) (t : TypeId) (cs : Array Value) (fr : Nat × Nat) (d : TypeDesc)
    (hp : tmps.getD p undef = .pointer (some ⟨g, 0, none⟩)) (hg : w.heap[g]? = some (.cells cs t fr))
    (hu : P.underlying ty = some d) (hd : (match d with | .struct _ | .array _ _ => true | _ => false) = true) (hi : (P.info? ty).map (·.size) = some cs.size) :
    (results fn tmps).run P w = .ok (.agg cs) w := by
  have hp' : tmps[p]?.getD undef = .pointer (some ⟨g, 0, none⟩) := by simpa using hp
  simp [results, h, hp', asAddr, run_loadVar_row w g t ty cs fr d hg hu hd hi]
structure OpR where
  kind : Nat
  node : Int
  parent : Int
  place : ByteArray
  before : Int
  name : ByteArray
  vk : Int
  vn : Int
  vs : ByteArray
  la : Option Addr
  ln : Nat
  lc : Nat
  fa : Option Addr
  fn : Nat
  fc : Nat
  elem : Int
  key : ByteArray
  hk : Bool
def OpR.cells (q : OpR) : List Value := [.int .u8 (q.kind : Nat), .int .i64 q.node, .int .i64 q.parent, .string q.place, .int .i64 q.before, .string q.name, .int .u8 q.vk, .int .i64 q.vn, .string q.vs, .slice q.la q.ln q.lc, .slice q.fa q.fn q.fc, .int .u8 q.elem, .string q.key, .bool q.hk]
/-- The elements of a list of things done. -/
def OpsAt (w : World) (b o n : Nat) (r : Nat → OpR) : Prop := ∀ i, i < n → ∀ j, j < 14 → w.cell? ⟨b, o + (i * 14 + j), none⟩ = (r i).cells[j]?

set_option maxHeartbeats 4000000 in
set_option maxRecDepth 100000 in
theorem same_any (x : C5) (w : World) : Calls Try.prog 9 #[x.val, x.val] w fun e w' => e = .returned (.bool true) ∧ Below w.heap.size w w' := by
  obtain ⟨a, b, c, d, e⟩ := x
  unfold C5.val
  go_enter Try.func9, Try.ntmps9
  go_wp2_with fail
  go_ret
  exact ⟨rfl, ((Below.refl _ w).alloc (Nat.le_refl _) _).alloc (by simp) _⟩
theorem ofB_any_info : (Try.prog.info? 27).map (·.size) = some (#[Value.int .i64 0, .int .i64 0, .int .i64 0, .int .i64 0, .int .i64 0] : Array Value).size := by kernel_rfl

set_option maxHeartbeats 8000000 in
set_option maxRecDepth 100000 in
theorem ofB_any (ao : Option Addr) (b o n cap : Nat) (r : Nat → OpR) (w : World) (hn : n ≤ 9223372036854775807) (hao : 0 < n → ao = some ⟨b, o, none⟩ ∧ b < w.heap.size) (hc : OpsAt w b o n r) :
    Calls Try.prog 10 #[.slice ao n cap] w fun e w' => e = .returned (C5.of (fun i => (r i).kind) n).val ∧ Below w.heap.size w w' := by
  replace hc := Lib.hid hc
  obtain ⟨w2, hw2⟩ : ∃ w2, w2 = (w.alloc (.cells #[.int .i64 0, .int .i64 0, .int .i64 0, .int .i64 0, .int .i64 0] 27)).alloc (.cells #[.int .i64 0, .int .i64 0, .int .i64 0, .int .i64 0, .int .i64 0] 27) := ⟨_, rfl⟩
  have hb2 : Below w.heap.size w w2 := by rw [hw2]; exact ((Below.refl _ w).alloc (Nat.le_refl _) _).alloc (by simp) _
  have hz2 : w2.heap.size = w.heap.size + 2 := by rw [hw2]; simp
  have hr2 : C5Row w2 w.heap.size 27 C5.zero := by rw [hw2]; exact (Below.heap_alloc _ _ _ (by simp)).trans (heap_alloc_new w _)
  have hc2 : C5Row w2 (w.heap.size + 1) 27 C5.zero := by
    rw [hw2]
    have := heap_alloc_new (w.alloc (.cells #[.int .i64 0, .int .i64 0, .int .i64 0, .int .i64 0, .int .i64 0] 27)) (.cells #[.int .i64 0, .int .i64 0, .int .i64 0, .int .i64 0, .int .i64 0] 27)
    rw [show (w.alloc (.cells #[.int .i64 0, .int .i64 0, .int .i64 0, .int .i64 0, .int .i64 0] 27)).heap.size = w.heap.size + 1 by simp] at this
    exact this
  replace hw2 := Lib.hid hw2
  replace hb2 := Lib.hid hb2
  replace hr2 := Lib.hid hr2
  replace hc2 := Lib.hid hc2
  go_enter Try.func10, Try.ntmps10
  go_wp2_with (first | (rw [← hw2.out]) | fail)
  go_loopw [8] (fun i wr => ∃ k : Nat, k ≤ n ∧ i = .int .i64 (k : Nat) ∧ C5Row wr (w.heap.size + 1) 27 (C5.of (fun i => (r i).kind) k) ∧ C5Row wr w.heap.size 27 C5.zero ∧ Below w.heap.size w wr) (fun i _ => n - (intOf i).toNat)
  case atStart => exact ⟨0, Nat.zero_le _, rfl, hc2.out, hr2.out, hb2.out⟩
  case round =>
    obtain ⟨k, hk, rfl, hcr, hre, hb⟩ := hrel
    obtain ⟨d0, d1, d2, d3, d4⟩ := hcr.cells
    have f0 := hcr.fr 0
    have f1 := hcr.fr 1
    have f2 := hcr.fr 2
    have f3 := hcr.fr 3
    have f4 := hcr.fr 4
    have hCl := hcr.lt
    by_cases hlt : k < n
    · obtain ⟨rfl, hbl⟩ := hao (by omega)
      obtain ⟨q, hq⟩ : ∃ q, q = r k := ⟨_, rfl⟩
      have gc : ∀ j, j < 14 → wr.cell? ⟨b, o + (k * 14 + j), none⟩ = q.cells[j]? := fun j hj => by rw [hq]; exact (hb.cell (p := ⟨b, o + (k * 14 + j), none⟩) hbl).trans (hc.out k hlt j hj)
      have x0 : wr.cell? ⟨b, o + k * 14, none⟩ = some (.int .u8 (q.kind : Nat)) := gc 0 (by omega)
      have x1 : wr.cell? ⟨b, o + k * 14 + 1, none⟩ = some (.int .i64 q.node) := by rw [Nat.add_assoc]; exact gc 1 (by omega)
      have x2 : wr.cell? ⟨b, o + k * 14 + 2, none⟩ = some (.int .i64 q.parent) := by rw [Nat.add_assoc]; exact gc 2 (by omega)
      have x3 : wr.cell? ⟨b, o + k * 14 + 3, none⟩ = some (.string q.place) := by rw [Nat.add_assoc]; exact gc 3 (by omega)
      have x4 : wr.cell? ⟨b, o + k * 14 + 4, none⟩ = some (.int .i64 q.before) := by rw [Nat.add_assoc]; exact gc 4 (by omega)
      have x5 : wr.cell? ⟨b, o + k * 14 + 5, none⟩ = some (.string q.name) := by rw [Nat.add_assoc]; exact gc 5 (by omega)
      have x6 : wr.cell? ⟨b, o + k * 14 + 6, none⟩ = some (.int .u8 q.vk) := by rw [Nat.add_assoc]; exact gc 6 (by omega)
      have x7 : wr.cell? ⟨b, o + k * 14 + 7, none⟩ = some (.int .i64 q.vn) := by rw [Nat.add_assoc]; exact gc 7 (by omega)
      have x8 : wr.cell? ⟨b, o + k * 14 + 8, none⟩ = some (.string q.vs) := by rw [Nat.add_assoc]; exact gc 8 (by omega)
      have x9 : wr.cell? ⟨b, o + k * 14 + 9, none⟩ = some (.slice q.la q.ln q.lc) := by rw [Nat.add_assoc]; exact gc 9 (by omega)
      have x10 : wr.cell? ⟨b, o + k * 14 + 10, none⟩ = some (.slice q.fa q.fn q.fc) := by rw [Nat.add_assoc]; exact gc 10 (by omega)
      have x11 : wr.cell? ⟨b, o + k * 14 + 11, none⟩ = some (.int .u8 q.elem) := by rw [Nat.add_assoc]; exact gc 11 (by omega)
      have x12 : wr.cell? ⟨b, o + k * 14 + 12, none⟩ = some (.string q.key) := by rw [Nat.add_assoc]; exact gc 12 (by omega)
      have x13 : wr.cell? ⟨b, o + k * 14 + 13, none⟩ = some (.bool q.hk) := by rw [Nat.add_assoc]; exact gc 13 (by omega)
      obtain ⟨X, hX⟩ : ∃ X, X = C5.of (fun i => (r i).kind) k := ⟨_, rfl⟩
      have hXs : Hid (C5.of (fun i => (r i).kind) (k + 1) = X.step q.kind) := by show C5.of _ (k + 1) = _; rw [hX, hq]; rfl
      rw [← hX] at d0 d1 d2 d3 d4 hcr
      replace hX := Lib.hid hX
      replace hq := Lib.hid hq
      clear gc
      obtain ⟨S, hS⟩ : ∃ S, S = wr.alloc (.cells #[.int .u8 (q.kind : Nat), .int .i64 q.node, .int .i64 q.parent, .string q.place, .int .i64 q.before, .string q.name, .int .u8 q.vk, .int .i64 q.vn, .string q.vs, .slice q.la q.ln q.lc, .slice q.fa q.fn q.fc, .int .u8 q.elem, .string q.key, .bool q.hk] 60) := ⟨_, rfl⟩
      have hbS : Below wr.heap.size wr S := by rw [hS]; exact (Below.refl _ _).alloc (Nat.le_refl _) _
      have hcS := (hbS.block _ hCl).trans hcr
      have hrS := (hbS.block _ hre.lt).trans hre
      replace hcr := Lib.hid (show C5Row S (w.heap.size + 1) 27 X from hcS)
      replace hre := Lib.hid (show C5Row S w.heap.size 27 C5.zero from hrS)
      have s0 : S.cell? ⟨wr.heap.size, 0, none⟩ = some (.int .u8 (q.kind : Nat)) := by
        rw [hS]
        have := heap_alloc_new wr (.cells #[.int .u8 (q.kind : Nat), .int .i64 q.node, .int .i64 q.parent, .string q.place, .int .i64 q.before, .string q.name, .int .u8 q.vk, .int .i64 q.vn, .string q.vs, .slice q.la q.ln q.lc, .slice q.fa q.fn q.fc, .int .u8 q.elem, .string q.key, .bool q.hk] 60)
        simp only [World.cell?, this]
        rfl
      obtain ⟨d0, d1, d2, d3, d4⟩ := hcr.out.cells
      have f0 := hcr.out.fr 0
      have f1 := hcr.out.fr 1
      have f2 := hcr.out.fr 2
      have f3 := hcr.out.fr 3
      have f4 := hcr.out.fr 4
      have hbE := Lib.hid (hb.trans (hbS.mono hb.size))
      replace hS := Lib.hid hS
      clear hcS hrS hb hbS
      by_cases hk1 : q.kind = 1
      · have hkk := Lib.hid hk1
        rw [hk1] at s0
        rw [hk1] at x0
        have hS' : Hid (S = wr.alloc (.cells #[.int .u8 1, .int .i64 q.node, .int .i64 q.parent, .string q.place, .int .i64 q.before, .string q.name, .int .u8 q.vk, .int .i64 q.vn, .string q.vs, .slice q.la q.ln q.lc, .slice q.fa q.fn q.fc, .int .u8 q.elem, .string q.key, .bool q.hk] 60)) := hS.out.trans (by rw [hk1]; rfl)
        clear hk1
        go_wp2_with (first | (rw [← hS'.out]) | fail)
        have hc9 := Lib.hid (hcr.out.set.1 (wrap64 (X.a + 1)))
        have hr9 : Hid (C5Row (S.setCell ⟨w.heap.size + 1, 0, none⟩ (.int .i64 (wrap64 (X.a + 1)))) w.heap.size 27 C5.zero) := (Below.heap_setCell _ _ _ _ (by show w.heap.size ≠ w.heap.size + 1; omega)).trans hre.out
        have hb9 := Lib.hid (hbE.out.setCell (p := ⟨w.heap.size + 1, 0, none⟩) (Nat.le_succ _) (.int .i64 (wrap64 (X.a + 1))))
        go_roundw
        case rel => exact ⟨k + 1, by omega, by go_num, by rw [hXs.out]; simpa [C5.step, hkk.out] using hc9.out, hr9.out, hb9.out⟩
        case measure => simp [intOf]; omega
      have hn1 : ((q.kind : Int) == 1) = false := by rw [beq_eq_false_iff_ne]; omega
      by_cases hk2 : q.kind = 2
      · have hkk := Lib.hid hk2
        rw [hk2] at s0
        rw [hk2] at x0
        have hS' : Hid (S = wr.alloc (.cells #[.int .u8 2, .int .i64 q.node, .int .i64 q.parent, .string q.place, .int .i64 q.before, .string q.name, .int .u8 q.vk, .int .i64 q.vn, .string q.vs, .slice q.la q.ln q.lc, .slice q.fa q.fn q.fc, .int .u8 q.elem, .string q.key, .bool q.hk] 60)) := hS.out.trans (by rw [hk2]; rfl)
        clear hk2 hn1
        go_wp2_with (first | (rw [← hS'.out]) | fail)
        have hc9 := Lib.hid (hcr.out.set.1 (wrap64 (X.a + 1)))
        have hr9 : Hid (C5Row (S.setCell ⟨w.heap.size + 1, 0, none⟩ (.int .i64 (wrap64 (X.a + 1)))) w.heap.size 27 C5.zero) := (Below.heap_setCell _ _ _ _ (by show w.heap.size ≠ w.heap.size + 1; omega)).trans hre.out
        have hb9 := Lib.hid (hbE.out.setCell (p := ⟨w.heap.size + 1, 0, none⟩) (Nat.le_succ _) (.int .i64 (wrap64 (X.a + 1))))
        go_roundw
        case rel => exact ⟨k + 1, by omega, by go_num, by rw [hXs.out]; simpa [C5.step, hkk.out] using hc9.out, hr9.out, hb9.out⟩
        case measure => simp [intOf]; omega
      have hn2 : ((q.kind : Int) == 2) = false := by rw [beq_eq_false_iff_ne]; omega
      by_cases hk7 : q.kind = 7
      · have hkk := Lib.hid hk7
        rw [hk7] at s0
        rw [hk7] at x0
        have hS' : Hid (S = wr.alloc (.cells #[.int .u8 7, .int .i64 q.node, .int .i64 q.parent, .string q.place, .int .i64 q.before, .string q.name, .int .u8 q.vk, .int .i64 q.vn, .string q.vs, .slice q.la q.ln q.lc, .slice q.fa q.fn q.fc, .int .u8 q.elem, .string q.key, .bool q.hk] 60)) := hS.out.trans (by rw [hk7]; rfl)
        clear hk7 hn1 hn2
        go_wp2_with (first | (rw [← hS'.out]) | fail)
        have hc9 := Lib.hid (hcr.out.set.2.1 (wrap64 (X.b + 1)))
        have hr9 : Hid (C5Row (S.setCell ⟨w.heap.size + 1, 1, none⟩ (.int .i64 (wrap64 (X.b + 1)))) w.heap.size 27 C5.zero) := (Below.heap_setCell _ _ _ _ (by show w.heap.size ≠ w.heap.size + 1; omega)).trans hre.out
        have hb9 := Lib.hid (hbE.out.setCell (p := ⟨w.heap.size + 1, 1, none⟩) (Nat.le_succ _) (.int .i64 (wrap64 (X.b + 1))))
        go_roundw
        case rel => exact ⟨k + 1, by omega, by go_num, by rw [hXs.out]; simpa [C5.step, hkk.out] using hc9.out, hr9.out, hb9.out⟩
        case measure => simp [intOf]; omega
      have hn7 : ((q.kind : Int) == 7) = false := by rw [beq_eq_false_iff_ne]; omega
      by_cases hk3 : q.kind = 3
      · have hkk := Lib.hid hk3
        rw [hk3] at s0
        rw [hk3] at x0
        have hS' : Hid (S = wr.alloc (.cells #[.int .u8 3, .int .i64 q.node, .int .i64 q.parent, .string q.place, .int .i64 q.before, .string q.name, .int .u8 q.vk, .int .i64 q.vn, .string q.vs, .slice q.la q.ln q.lc, .slice q.fa q.fn q.fc, .int .u8 q.elem, .string q.key, .bool q.hk] 60)) := hS.out.trans (by rw [hk3]; rfl)
        clear hk3 hn1 hn2 hn7
        go_wp2_with (first | (rw [← hS'.out]) | fail)
        have hc9 := Lib.hid (hcr.out.set.2.2.1 (wrap64 (X.c + 1)))
        have hr9 : Hid (C5Row (S.setCell ⟨w.heap.size + 1, 2, none⟩ (.int .i64 (wrap64 (X.c + 1)))) w.heap.size 27 C5.zero) := (Below.heap_setCell _ _ _ _ (by show w.heap.size ≠ w.heap.size + 1; omega)).trans hre.out
        have hb9 := Lib.hid (hbE.out.setCell (p := ⟨w.heap.size + 1, 2, none⟩) (Nat.le_succ _) (.int .i64 (wrap64 (X.c + 1))))
        go_roundw
        case rel => exact ⟨k + 1, by omega, by go_num, by rw [hXs.out]; simpa [C5.step, hkk.out] using hc9.out, hr9.out, hb9.out⟩
        case measure => simp [intOf]; omega
      have hn3 : ((q.kind : Int) == 3) = false := by rw [beq_eq_false_iff_ne]; omega
      by_cases hk4 : q.kind = 4
      · have hkk := Lib.hid hk4
        rw [hk4] at s0
        rw [hk4] at x0
        have hS' : Hid (S = wr.alloc (.cells #[.int .u8 4, .int .i64 q.node, .int .i64 q.parent, .string q.place, .int .i64 q.before, .string q.name, .int .u8 q.vk, .int .i64 q.vn, .string q.vs, .slice q.la q.ln q.lc, .slice q.fa q.fn q.fc, .int .u8 q.elem, .string q.key, .bool q.hk] 60)) := hS.out.trans (by rw [hk4]; rfl)
        clear hk4 hn1 hn2 hn7 hn3
        go_wp2_with (first | (rw [← hS'.out]) | fail)
        have hc9 := Lib.hid (hcr.out.set.2.2.1 (wrap64 (X.c + 1)))
        have hr9 : Hid (C5Row (S.setCell ⟨w.heap.size + 1, 2, none⟩ (.int .i64 (wrap64 (X.c + 1)))) w.heap.size 27 C5.zero) := (Below.heap_setCell _ _ _ _ (by show w.heap.size ≠ w.heap.size + 1; omega)).trans hre.out
        have hb9 := Lib.hid (hbE.out.setCell (p := ⟨w.heap.size + 1, 2, none⟩) (Nat.le_succ _) (.int .i64 (wrap64 (X.c + 1))))
        go_roundw
        case rel => exact ⟨k + 1, by omega, by go_num, by rw [hXs.out]; simpa [C5.step, hkk.out] using hc9.out, hr9.out, hb9.out⟩
        case measure => simp [intOf]; omega
      have hn4 : ((q.kind : Int) == 4) = false := by rw [beq_eq_false_iff_ne]; omega
      by_cases hk5 : q.kind = 5
      · have hkk := Lib.hid hk5
        rw [hk5] at s0
        rw [hk5] at x0
        have hS' : Hid (S = wr.alloc (.cells #[.int .u8 5, .int .i64 q.node, .int .i64 q.parent, .string q.place, .int .i64 q.before, .string q.name, .int .u8 q.vk, .int .i64 q.vn, .string q.vs, .slice q.la q.ln q.lc, .slice q.fa q.fn q.fc, .int .u8 q.elem, .string q.key, .bool q.hk] 60)) := hS.out.trans (by rw [hk5]; rfl)
        clear hk5 hn1 hn2 hn7 hn3 hn4
        go_wp2_with (first | (rw [← hS'.out]) | fail)
        have hc9 := Lib.hid (hcr.out.set.2.2.2.1 (wrap64 (X.d + 1)))
        have hr9 : Hid (C5Row (S.setCell ⟨w.heap.size + 1, 3, none⟩ (.int .i64 (wrap64 (X.d + 1)))) w.heap.size 27 C5.zero) := (Below.heap_setCell _ _ _ _ (by show w.heap.size ≠ w.heap.size + 1; omega)).trans hre.out
        have hb9 := Lib.hid (hbE.out.setCell (p := ⟨w.heap.size + 1, 3, none⟩) (Nat.le_succ _) (.int .i64 (wrap64 (X.d + 1))))
        go_roundw
        case rel => exact ⟨k + 1, by omega, by go_num, by rw [hXs.out]; simpa [C5.step, hkk.out] using hc9.out, hr9.out, hb9.out⟩
        case measure => simp [intOf]; omega
      have hn5 : ((q.kind : Int) == 5) = false := by rw [beq_eq_false_iff_ne]; omega
      by_cases hk6 : q.kind = 6
      · have hkk := Lib.hid hk6
        rw [hk6] at s0
        rw [hk6] at x0
        have hS' : Hid (S = wr.alloc (.cells #[.int .u8 6, .int .i64 q.node, .int .i64 q.parent, .string q.place, .int .i64 q.before, .string q.name, .int .u8 q.vk, .int .i64 q.vn, .string q.vs, .slice q.la q.ln q.lc, .slice q.fa q.fn q.fc, .int .u8 q.elem, .string q.key, .bool q.hk] 60)) := hS.out.trans (by rw [hk6]; rfl)
        clear hk6 hn1 hn2 hn7 hn3 hn4 hn5
        go_wp2_with (first | (rw [← hS'.out]) | fail)
        have hc9 := Lib.hid (hcr.out.set.2.2.2.2 (wrap64 (X.e + 1)))
        have hr9 : Hid (C5Row (S.setCell ⟨w.heap.size + 1, 4, none⟩ (.int .i64 (wrap64 (X.e + 1)))) w.heap.size 27 C5.zero) := (Below.heap_setCell _ _ _ _ (by show w.heap.size ≠ w.heap.size + 1; omega)).trans hre.out
        have hb9 := Lib.hid (hbE.out.setCell (p := ⟨w.heap.size + 1, 4, none⟩) (Nat.le_succ _) (.int .i64 (wrap64 (X.e + 1))))
        go_roundw
        case rel => exact ⟨k + 1, by omega, by go_num, by rw [hXs.out]; simpa [C5.step, hkk.out] using hc9.out, hr9.out, hb9.out⟩
        case measure => simp [intOf]; omega
      have hn6 : ((q.kind : Int) == 6) = false := by rw [beq_eq_false_iff_ne]; omega
      go_wp2_with (first | (rw [← hS.out]) | fail)
      go_roundw
      case rel => exact ⟨k + 1, by omega, by go_num, by rw [hXs.out]; simpa [C5.step, hk1, hk2, hk3, hk4, hk5, hk6, hk7] using hcr.out, hre.out, hbE.out⟩
      case measure => simp [intOf]; omega
    · obtain rfl : k = n := by omega
      obtain ⟨X, hX⟩ : ∃ X, X = C5.of (fun i => (r i).kind) k := ⟨_, rfl⟩
      rw [← hX] at d0 d1 d2 d3 d4 hcr
      obtain ⟨y0, y1, y2, y3, y4⟩ := hre.cells
      have g0 := hre.fr 0
      have g1 := hre.fr 1
      have g2 := hre.fr 2
      have g3 := hre.fr 3
      have g4 := hre.fr 4
      have hg5 : Hid ((((((wr.setCell ⟨w.heap.size, 0, none⟩ (.int .i64 X.a)).setCell ⟨w.heap.size, 1, none⟩ (.int .i64 X.b)).setCell ⟨w.heap.size, 2, none⟩ (.int .i64 X.c)).setCell ⟨w.heap.size, 3, none⟩ (.int .i64 X.d)).setCell ⟨w.heap.size, 4, none⟩ (.int .i64 X.e)).heap[w.heap.size]? = some (.cells #[.int .i64 X.a, .int .i64 X.b, .int .i64 X.c, .int .i64 X.d, .int .i64 X.e] 27 (0, 0))) :=
        blk_set (blk_set (blk_set (blk_set (blk_set hre 0 _) 1 _) 2 _) 3 _) 4 _
      have hbE : Hid (Below w.heap.size w (((((wr.setCell ⟨w.heap.size, 0, none⟩ (.int .i64 X.a)).setCell ⟨w.heap.size, 1, none⟩ (.int .i64 X.b)).setCell ⟨w.heap.size, 2, none⟩ (.int .i64 X.c)).setCell ⟨w.heap.size, 3, none⟩ (.int .i64 X.d)).setCell ⟨w.heap.size, 4, none⟩ (.int .i64 X.e))) :=
        ((((hb.setCell (p := ⟨w.heap.size, 0, none⟩) (Nat.le_refl _) _).setCell (p := ⟨w.heap.size, 1, none⟩) (Nat.le_refl _) _).setCell (p := ⟨w.heap.size, 2, none⟩) (Nat.le_refl _) _).setCell (p := ⟨w.heap.size, 3, none⟩) (Nat.le_refl _) _).setCell (p := ⟨w.heap.size, 4, none⟩) (Nat.le_refl _) _
      replace hX := Lib.hid hX
      replace hcr := Lib.hid hcr
      replace hre := Lib.hid hre
      replace hb := Lib.hid hb
      go_wp2_with fail
      refine bodyPost_ret (results_cellO (fn := Try.f10) (p := 2) (ty := 27) (by kernel_rfl) _ _ _ _ _ _ _ rfl hg5.out Try.underlying27 rfl ofB_any_info) rfl ⟨?_, hbE.out⟩
      rw [← hX.out]; rfl
theorem ofR_any_info : (Try.prog.info? 33).map (·.size) = some (#[Value.int .i64 0, .int .i64 0, .int .i64 0, .int .i64 0, .int .i64 0] : Array Value).size := by kernel_rfl

set_option maxHeartbeats 8000000 in
set_option maxRecDepth 100000 in
theorem ofR_any (ao : Option Addr) (b o n cap : Nat) (r : Nat → OpR) (w : World) (hn : n ≤ 9223372036854775807) (hao : 0 < n → ao = some ⟨b, o, none⟩ ∧ b < w.heap.size) (hc : OpsAt w b o n r) :
    Calls Try.prog 11 #[.slice ao n cap] w fun e w' => e = .returned (C5.of (fun i => (r i).kind) n).val ∧ Below w.heap.size w w' := by
  replace hc := Lib.hid hc
  obtain ⟨w2, hw2⟩ : ∃ w2, w2 = (w.alloc (.cells #[.int .i64 0, .int .i64 0, .int .i64 0, .int .i64 0, .int .i64 0] 33)).alloc (.cells #[.int .i64 0, .int .i64 0, .int .i64 0, .int .i64 0, .int .i64 0] 33) := ⟨_, rfl⟩
  have hb2 : Below w.heap.size w w2 := by rw [hw2]; exact ((Below.refl _ w).alloc (Nat.le_refl _) _).alloc (by simp) _
  have hz2 : w2.heap.size = w.heap.size + 2 := by rw [hw2]; simp
  have hr2 : C5Row w2 w.heap.size 33 C5.zero := by rw [hw2]; exact (Below.heap_alloc _ _ _ (by simp)).trans (heap_alloc_new w _)
  have hc2 : C5Row w2 (w.heap.size + 1) 33 C5.zero := by
    rw [hw2]
    have := heap_alloc_new (w.alloc (.cells #[.int .i64 0, .int .i64 0, .int .i64 0, .int .i64 0, .int .i64 0] 33)) (.cells #[.int .i64 0, .int .i64 0, .int .i64 0, .int .i64 0, .int .i64 0] 33)
    rw [show (w.alloc (.cells #[.int .i64 0, .int .i64 0, .int .i64 0, .int .i64 0, .int .i64 0] 33)).heap.size = w.heap.size + 1 by simp] at this
    exact this
  replace hw2 := Lib.hid hw2
  replace hb2 := Lib.hid hb2
  replace hr2 := Lib.hid hr2
  replace hc2 := Lib.hid hc2
  go_enter Try.func11, Try.ntmps11
  go_wp2_with (first | (rw [← hw2.out]) | fail)
  go_loopw [4] (fun i wr => ∃ k : Nat, k ≤ n ∧ i = .int .i64 (k : Nat) ∧ C5Row wr (w.heap.size + 1) 33 (C5.of (fun i => (r i).kind) k) ∧ C5Row wr w.heap.size 33 C5.zero ∧ Below w.heap.size w wr) (fun i _ => n - (intOf i).toNat)
  case atStart => exact ⟨0, Nat.zero_le _, rfl, hc2.out, hr2.out, hb2.out⟩
  case round =>
    obtain ⟨k, hk, rfl, hcr, hre, hb⟩ := hrel
    obtain ⟨d0, d1, d2, d3, d4⟩ := hcr.cells
    have f0 := hcr.fr 0
    have f1 := hcr.fr 1
    have f2 := hcr.fr 2
    have f3 := hcr.fr 3
    have f4 := hcr.fr 4
    have hCl := hcr.lt
    by_cases hlt : k < n
    · obtain ⟨rfl, hbl⟩ := hao (by omega)
      obtain ⟨q, hq⟩ : ∃ q, q = r k := ⟨_, rfl⟩
      have gc : ∀ j, j < 14 → wr.cell? ⟨b, o + (k * 14 + j), none⟩ = q.cells[j]? := fun j hj => by rw [hq]; exact (hb.cell (p := ⟨b, o + (k * 14 + j), none⟩) hbl).trans (hc.out k hlt j hj)
      have x0 : wr.cell? ⟨b, o + k * 14, none⟩ = some (.int .u8 (q.kind : Nat)) := gc 0 (by omega)
      obtain ⟨X, hX⟩ : ∃ X, X = C5.of (fun i => (r i).kind) k := ⟨_, rfl⟩
      have hXs : Hid (C5.of (fun i => (r i).kind) (k + 1) = X.step q.kind) := by show C5.of _ (k + 1) = _; rw [hX, hq]; rfl
      rw [← hX] at d0 d1 d2 d3 d4 hcr
      replace hX := Lib.hid hX
      replace hq := Lib.hid hq
      clear gc
      replace hcr := Lib.hid hcr
      replace hre := Lib.hid hre
      have hbE := Lib.hid hb
      clear hb
      by_cases hk1 : q.kind = 1
      · have hkk := Lib.hid hk1
        rw [hk1] at x0
        clear hk1
        go_wp2_with fail
        have hc9 := Lib.hid (hcr.out.set.1 (wrap64 (X.a + 1)))
        have hr9 : Hid (C5Row (wr.setCell ⟨w.heap.size + 1, 0, none⟩ (.int .i64 (wrap64 (X.a + 1)))) w.heap.size 33 C5.zero) := (Below.heap_setCell _ _ _ _ (by show w.heap.size ≠ w.heap.size + 1; omega)).trans hre.out
        have hb9 := Lib.hid (hbE.out.setCell (p := ⟨w.heap.size + 1, 0, none⟩) (Nat.le_succ _) (.int .i64 (wrap64 (X.a + 1))))
        go_roundw
        case rel => exact ⟨k + 1, by omega, by go_num, by rw [hXs.out]; simpa [C5.step, hkk.out] using hc9.out, hr9.out, hb9.out⟩
        case measure => simp [intOf]; omega
      have hn1 : ((q.kind : Int) == 1) = false := by rw [beq_eq_false_iff_ne]; omega
      by_cases hk2 : q.kind = 2
      · have hkk := Lib.hid hk2
        rw [hk2] at x0
        clear hk2 hn1
        go_wp2_with fail
        have hc9 := Lib.hid (hcr.out.set.1 (wrap64 (X.a + 1)))
        have hr9 : Hid (C5Row (wr.setCell ⟨w.heap.size + 1, 0, none⟩ (.int .i64 (wrap64 (X.a + 1)))) w.heap.size 33 C5.zero) := (Below.heap_setCell _ _ _ _ (by show w.heap.size ≠ w.heap.size + 1; omega)).trans hre.out
        have hb9 := Lib.hid (hbE.out.setCell (p := ⟨w.heap.size + 1, 0, none⟩) (Nat.le_succ _) (.int .i64 (wrap64 (X.a + 1))))
        go_roundw
        case rel => exact ⟨k + 1, by omega, by go_num, by rw [hXs.out]; simpa [C5.step, hkk.out] using hc9.out, hr9.out, hb9.out⟩
        case measure => simp [intOf]; omega
      have hn2 : ((q.kind : Int) == 2) = false := by rw [beq_eq_false_iff_ne]; omega
      by_cases hk7 : q.kind = 7
      · have hkk := Lib.hid hk7
        rw [hk7] at x0
        clear hk7 hn1 hn2
        go_wp2_with fail
        have hc9 := Lib.hid (hcr.out.set.2.1 (wrap64 (X.b + 1)))
        have hr9 : Hid (C5Row (wr.setCell ⟨w.heap.size + 1, 1, none⟩ (.int .i64 (wrap64 (X.b + 1)))) w.heap.size 33 C5.zero) := (Below.heap_setCell _ _ _ _ (by show w.heap.size ≠ w.heap.size + 1; omega)).trans hre.out
        have hb9 := Lib.hid (hbE.out.setCell (p := ⟨w.heap.size + 1, 1, none⟩) (Nat.le_succ _) (.int .i64 (wrap64 (X.b + 1))))
        go_roundw
        case rel => exact ⟨k + 1, by omega, by go_num, by rw [hXs.out]; simpa [C5.step, hkk.out] using hc9.out, hr9.out, hb9.out⟩
        case measure => simp [intOf]; omega
      have hn7 : ((q.kind : Int) == 7) = false := by rw [beq_eq_false_iff_ne]; omega
      by_cases hk3 : q.kind = 3
      · have hkk := Lib.hid hk3
        rw [hk3] at x0
        clear hk3 hn1 hn2 hn7
        go_wp2_with fail
        have hc9 := Lib.hid (hcr.out.set.2.2.1 (wrap64 (X.c + 1)))
        have hr9 : Hid (C5Row (wr.setCell ⟨w.heap.size + 1, 2, none⟩ (.int .i64 (wrap64 (X.c + 1)))) w.heap.size 33 C5.zero) := (Below.heap_setCell _ _ _ _ (by show w.heap.size ≠ w.heap.size + 1; omega)).trans hre.out
        have hb9 := Lib.hid (hbE.out.setCell (p := ⟨w.heap.size + 1, 2, none⟩) (Nat.le_succ _) (.int .i64 (wrap64 (X.c + 1))))
        go_roundw
        case rel => exact ⟨k + 1, by omega, by go_num, by rw [hXs.out]; simpa [C5.step, hkk.out] using hc9.out, hr9.out, hb9.out⟩
        case measure => simp [intOf]; omega
      have hn3 : ((q.kind : Int) == 3) = false := by rw [beq_eq_false_iff_ne]; omega
      by_cases hk4 : q.kind = 4
      · have hkk := Lib.hid hk4
        rw [hk4] at x0
        clear hk4 hn1 hn2 hn7 hn3
        go_wp2_with fail
        have hc9 := Lib.hid (hcr.out.set.2.2.1 (wrap64 (X.c + 1)))
        have hr9 : Hid (C5Row (wr.setCell ⟨w.heap.size + 1, 2, none⟩ (.int .i64 (wrap64 (X.c + 1)))) w.heap.size 33 C5.zero) := (Below.heap_setCell _ _ _ _ (by show w.heap.size ≠ w.heap.size + 1; omega)).trans hre.out
        have hb9 := Lib.hid (hbE.out.setCell (p := ⟨w.heap.size + 1, 2, none⟩) (Nat.le_succ _) (.int .i64 (wrap64 (X.c + 1))))
        go_roundw
        case rel => exact ⟨k + 1, by omega, by go_num, by rw [hXs.out]; simpa [C5.step, hkk.out] using hc9.out, hr9.out, hb9.out⟩
        case measure => simp [intOf]; omega
      have hn4 : ((q.kind : Int) == 4) = false := by rw [beq_eq_false_iff_ne]; omega
      by_cases hk5 : q.kind = 5
      · have hkk := Lib.hid hk5
        rw [hk5] at x0
        clear hk5 hn1 hn2 hn7 hn3 hn4
        go_wp2_with fail
        have hc9 := Lib.hid (hcr.out.set.2.2.2.1 (wrap64 (X.d + 1)))
        have hr9 : Hid (C5Row (wr.setCell ⟨w.heap.size + 1, 3, none⟩ (.int .i64 (wrap64 (X.d + 1)))) w.heap.size 33 C5.zero) := (Below.heap_setCell _ _ _ _ (by show w.heap.size ≠ w.heap.size + 1; omega)).trans hre.out
        have hb9 := Lib.hid (hbE.out.setCell (p := ⟨w.heap.size + 1, 3, none⟩) (Nat.le_succ _) (.int .i64 (wrap64 (X.d + 1))))
        go_roundw
        case rel => exact ⟨k + 1, by omega, by go_num, by rw [hXs.out]; simpa [C5.step, hkk.out] using hc9.out, hr9.out, hb9.out⟩
        case measure => simp [intOf]; omega
      have hn5 : ((q.kind : Int) == 5) = false := by rw [beq_eq_false_iff_ne]; omega
      by_cases hk6 : q.kind = 6
      · have hkk := Lib.hid hk6
        rw [hk6] at x0
        clear hk6 hn1 hn2 hn7 hn3 hn4 hn5
        go_wp2_with fail
        have hc9 := Lib.hid (hcr.out.set.2.2.2.2 (wrap64 (X.e + 1)))
        have hr9 : Hid (C5Row (wr.setCell ⟨w.heap.size + 1, 4, none⟩ (.int .i64 (wrap64 (X.e + 1)))) w.heap.size 33 C5.zero) := (Below.heap_setCell _ _ _ _ (by show w.heap.size ≠ w.heap.size + 1; omega)).trans hre.out
        have hb9 := Lib.hid (hbE.out.setCell (p := ⟨w.heap.size + 1, 4, none⟩) (Nat.le_succ _) (.int .i64 (wrap64 (X.e + 1))))
        go_roundw
        case rel => exact ⟨k + 1, by omega, by go_num, by rw [hXs.out]; simpa [C5.step, hkk.out] using hc9.out, hr9.out, hb9.out⟩
        case measure => simp [intOf]; omega
      have hn6 : ((q.kind : Int) == 6) = false := by rw [beq_eq_false_iff_ne]; omega
      go_wp2_with fail
      go_roundw
      case rel => exact ⟨k + 1, by omega, by go_num, by rw [hXs.out]; simpa [C5.step, hk1, hk2, hk3, hk4, hk5, hk6, hk7] using hcr.out, hre.out, hbE.out⟩
      case measure => simp [intOf]; omega
    · obtain rfl : k = n := by omega
      obtain ⟨X, hX⟩ : ∃ X, X = C5.of (fun i => (r i).kind) k := ⟨_, rfl⟩
      rw [← hX] at d0 d1 d2 d3 d4 hcr
      obtain ⟨y0, y1, y2, y3, y4⟩ := hre.cells
      have g0 := hre.fr 0
      have g1 := hre.fr 1
      have g2 := hre.fr 2
      have g3 := hre.fr 3
      have g4 := hre.fr 4
      have hg5 : Hid ((((((wr.setCell ⟨w.heap.size, 0, none⟩ (.int .i64 X.a)).setCell ⟨w.heap.size, 1, none⟩ (.int .i64 X.b)).setCell ⟨w.heap.size, 2, none⟩ (.int .i64 X.c)).setCell ⟨w.heap.size, 3, none⟩ (.int .i64 X.d)).setCell ⟨w.heap.size, 4, none⟩ (.int .i64 X.e)).heap[w.heap.size]? = some (.cells #[.int .i64 X.a, .int .i64 X.b, .int .i64 X.c, .int .i64 X.d, .int .i64 X.e] 33 (0, 0))) :=
        blk_set (blk_set (blk_set (blk_set (blk_set hre 0 _) 1 _) 2 _) 3 _) 4 _
      have hbE : Hid (Below w.heap.size w (((((wr.setCell ⟨w.heap.size, 0, none⟩ (.int .i64 X.a)).setCell ⟨w.heap.size, 1, none⟩ (.int .i64 X.b)).setCell ⟨w.heap.size, 2, none⟩ (.int .i64 X.c)).setCell ⟨w.heap.size, 3, none⟩ (.int .i64 X.d)).setCell ⟨w.heap.size, 4, none⟩ (.int .i64 X.e))) :=
        ((((hb.setCell (p := ⟨w.heap.size, 0, none⟩) (Nat.le_refl _) _).setCell (p := ⟨w.heap.size, 1, none⟩) (Nat.le_refl _) _).setCell (p := ⟨w.heap.size, 2, none⟩) (Nat.le_refl _) _).setCell (p := ⟨w.heap.size, 3, none⟩) (Nat.le_refl _) _).setCell (p := ⟨w.heap.size, 4, none⟩) (Nat.le_refl _) _
      replace hX := Lib.hid hX
      replace hcr := Lib.hid hcr
      replace hre := Lib.hid hre
      replace hb := Lib.hid hb
      go_wp2_with fail
      refine bodyPost_ret (results_cellO (fn := Try.f11) (p := 2) (ty := 33) (by kernel_rfl) _ _ _ _ _ _ _ rfl hg5.out Try.underlying33 rfl ofR_any_info) rfl ⟨?_, hbE.out⟩
      rw [← hX.out]; rfl
end Go.Proofs.Ytimdkdengdhglaa
