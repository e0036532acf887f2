/- value.Same at one value twice. -/
import Derived.Test.YtehcbicngbibgaaBgA
namespace Go.Proofs.Ytehcbicngbibgaa
open Go Go.RowKit Go.Maps

/-- A value's eight cells. -/
structure Val where
  kind : Int
  n : Int
  s : ByteArray
  la : Option Addr
  ln : Nat
  lc : Nat
  fa : Option Addr
  fn : Nat
  fc : Nat
  elem : Int
  key : ByteArray
  hk : Bool
def Val.cells (q : Val) : List Value := [.int .u8 q.kind, .int .i64 q.n, .string q.s, .slice q.la q.ln q.lc, .slice q.fa q.fn q.fc, .int .u8 q.elem, .string q.key, .bool q.hk]
def Val.val (q : Val) : Value := .agg #[.int .u8 q.kind, .int .i64 q.n, .string q.s, .slice q.la q.ln q.lc, .slice q.fa q.fn q.fc, .int .u8 q.elem, .string q.key, .bool q.hk]
def fieldCells (nm : ByteArray) (q : Val) : List Value := .string nm :: q.cells
/-- A value in memory, in blocks below B. -/
inductive ValAt (w : World) (B : Nat) : Val → Prop
  | mk (q : Val) (lb lo fb fo : Nat) (L : Nat → Val) (N : Nat → ByteArray) (F : Nat → Val) (hln : q.ln ≤ 1152921504606846976) (hfn : q.fn ≤ 1152921504606846976)
      (hla : 0 < q.ln → q.la = some ⟨lb, lo, none⟩ ∧ lb < B) (hfa : 0 < q.fn → q.fa = some ⟨fb, fo, none⟩ ∧ fb < B)
      (hlc : ∀ i, i < q.ln → ∀ j, j < 8 → w.cell? ⟨lb, lo + (i * 8 + j), none⟩ = (L i).cells[j]?)
      (hfc : ∀ i, i < q.fn → ∀ j, j < 9 → w.cell? ⟨fb, fo + (i * 9 + j), none⟩ = (fieldCells (N i) (F i))[j]?)
      (hL : ∀ i, i < q.ln → ValAt w B (L i)) (hF : ∀ i, i < q.fn → ValAt w B (F i)) : ValAt w B q
/-- Same says yes at q, in whatever world that keeps what lies below B. -/
def Refl (w0 : World) (B : Nat) (q : Val) : Prop := ∀ W, Below B w0 W → B ≤ W.heap.size → Calls Try.prog 10 #[q.val, q.val] W fun e w' => e = .returned (.bool true) ∧ Below W.heap.size W w'

set_option maxHeartbeats 4000000 in
set_option maxRecDepth 100000 in
theorem equalL_any (w0 : World) (B : Nat) (ao : Option Addr) (b o n cap : Nat) (L : Nat → Val) (hn : n ≤ 1152921504606846976) (hao : 0 < n → ao = some ⟨b, o, none⟩ ∧ b < B)
    (hc : ∀ i, i < n → ∀ j, j < 8 → w0.cell? ⟨b, o + (i * 8 + j), none⟩ = (L i).cells[j]?) (hR : ∀ i, i < n → Refl w0 B (L i)) (w : World) (hw : Below B w0 w) (hB : B ≤ w.heap.size) :
    Calls Try.prog 15 #[.slice ao n cap, .slice ao n cap, .func (.func 10) #[] #[]] w fun e w' => e = .returned (.bool true) ∧ Below w.heap.size w w' := by
  replace hc := Lib.hid hc
  replace hR := Lib.hid hR
  replace hw := Lib.hid hw
  go_enter Try.func15, Try.ntmps15
  go_wp2_with fail
  go_loopw [17] (fun i wr => ∃ k : Nat, k ≤ n ∧ i = .int .i64 (k : Nat) ∧ Below w.heap.size w wr) (fun i _ => n - (intOf i).toNat)
  case atStart => exact ⟨0, Nat.zero_le _, rfl, Below.refl _ _⟩
  case round =>
    obtain ⟨k, hk, rfl, hb⟩ := hrel
    by_cases hlt : k < n
    · obtain ⟨rfl, hbB⟩ := hao (by omega)
      have hbr : Below B w0 wr := hw.out.trans (hb.mono hB)
      obtain ⟨q, hq⟩ : ∃ q, q = L k := ⟨_, rfl⟩
      have gc : ∀ j, j < 8 → wr.cell? ⟨b, o + (k * 8 + j), none⟩ = q.cells[j]? := fun j hj => by rw [hq]; exact (hbr.cell (p := ⟨b, o + (k * 8 + j), none⟩) hbB).trans (hc.out k hlt j hj)
      have x0 : wr.cell? ⟨b, o + k * 8, none⟩ = some (.int .u8 q.kind) := gc 0 (by omega)
      have x1 : wr.cell? ⟨b, o + k * 8 + 1, none⟩ = some (.int .i64 q.n) := by rw [Nat.add_assoc]; exact gc 1 (by omega)
      have x2 : wr.cell? ⟨b, o + k * 8 + 2, none⟩ = some (.string q.s) := by rw [Nat.add_assoc]; exact gc 2 (by omega)
      have x3 : wr.cell? ⟨b, o + k * 8 + 3, none⟩ = some (.slice q.la q.ln q.lc) := by rw [Nat.add_assoc]; exact gc 3 (by omega)
      have x4 : wr.cell? ⟨b, o + k * 8 + 4, none⟩ = some (.slice q.fa q.fn q.fc) := by rw [Nat.add_assoc]; exact gc 4 (by omega)
      have x5 : wr.cell? ⟨b, o + k * 8 + 5, none⟩ = some (.int .u8 q.elem) := by rw [Nat.add_assoc]; exact gc 5 (by omega)
      have x6 : wr.cell? ⟨b, o + k * 8 + 6, none⟩ = some (.string q.key) := by rw [Nat.add_assoc]; exact gc 6 (by omega)
      have x7 : wr.cell? ⟨b, o + k * 8 + 7, none⟩ = some (.bool q.hk) := by rw [Nat.add_assoc]; exact gc 7 (by omega)
      have hRk : Hid (Refl w0 B q) := by rw [hq]; exact hR.out k hlt
      obtain ⟨S1, hS1⟩ : ∃ S1, S1 = wr.alloc (.cells #[.int .u8 q.kind, .int .i64 q.n, .string q.s, .slice q.la q.ln q.lc, .slice q.fa q.fn q.fc, .int .u8 q.elem, .string q.key, .bool q.hk] 37) := ⟨_, rfl⟩
      have hbS1 : Below wr.heap.size wr S1 := by rw [hS1]; exact (Below.refl _ _).alloc (Nat.le_refl _) _
      have hrow1 : S1.heap[wr.heap.size]? = some (.cells #[.int .u8 q.kind, .int .i64 q.n, .string q.s, .slice q.la q.ln q.lc, .slice q.fa q.fn q.fc, .int .u8 q.elem, .string q.key, .bool q.hk] 37 (0, 0)) := by rw [hS1]; exact heap_alloc_new wr _
      have hzS1 : S1.heap.size = wr.heap.size + 1 := by rw [hS1]; simp
      have y0 : S1.cell? ⟨b, o + k * 8, none⟩ = some (.int .u8 q.kind) := (hbS1.cell (p := ⟨b, o + k * 8, none⟩) (by show b < _; have := hb.size; omega)).trans x0
      have y1 : S1.cell? ⟨b, o + k * 8 + 1, none⟩ = some (.int .i64 q.n) := (hbS1.cell (p := ⟨b, o + k * 8 + 1, none⟩) (by show b < _; have := hb.size; omega)).trans x1
      have y2 : S1.cell? ⟨b, o + k * 8 + 2, none⟩ = some (.string q.s) := (hbS1.cell (p := ⟨b, o + k * 8 + 2, none⟩) (by show b < _; have := hb.size; omega)).trans x2
      have y3 : S1.cell? ⟨b, o + k * 8 + 3, none⟩ = some (.slice q.la q.ln q.lc) := (hbS1.cell (p := ⟨b, o + k * 8 + 3, none⟩) (by show b < _; have := hb.size; omega)).trans x3
      have y4 : S1.cell? ⟨b, o + k * 8 + 4, none⟩ = some (.slice q.fa q.fn q.fc) := (hbS1.cell (p := ⟨b, o + k * 8 + 4, none⟩) (by show b < _; have := hb.size; omega)).trans x4
      have y5 : S1.cell? ⟨b, o + k * 8 + 5, none⟩ = some (.int .u8 q.elem) := (hbS1.cell (p := ⟨b, o + k * 8 + 5, none⟩) (by show b < _; have := hb.size; omega)).trans x5
      have y6 : S1.cell? ⟨b, o + k * 8 + 6, none⟩ = some (.string q.key) := (hbS1.cell (p := ⟨b, o + k * 8 + 6, none⟩) (by show b < _; have := hb.size; omega)).trans x6
      have y7 : S1.cell? ⟨b, o + k * 8 + 7, none⟩ = some (.bool q.hk) := (hbS1.cell (p := ⟨b, o + k * 8 + 7, none⟩) (by show b < _; have := hb.size; omega)).trans x7
      obtain ⟨S, hS⟩ : ∃ S, S = S1.alloc (.cells #[.int .u8 q.kind, .int .i64 q.n, .string q.s, .slice q.la q.ln q.lc, .slice q.fa q.fn q.fc, .int .u8 q.elem, .string q.key, .bool q.hk] 37) := ⟨_, rfl⟩
      have hbS2 : Below S1.heap.size S1 S := by rw [hS]; exact (Below.refl _ _).alloc (Nat.le_refl _) _
      have hrow2 : S.heap[wr.heap.size + 1]? = some (.cells #[.int .u8 q.kind, .int .i64 q.n, .string q.s, .slice q.la q.ln q.lc, .slice q.fa q.fn q.fc, .int .u8 q.elem, .string q.key, .bool q.hk] 37 (0, 0)) := by rw [hS, ← hzS1]; exact heap_alloc_new S1 _
      have hrow3 : S.heap[wr.heap.size]? = some (.cells #[.int .u8 q.kind, .int .i64 q.n, .string q.s, .slice q.la q.ln q.lc, .slice q.fa q.fn q.fc, .int .u8 q.elem, .string q.key, .bool q.hk] 37 (0, 0)) := (hbS2.block _ (by omega)).trans hrow1
      have hbS : Below wr.heap.size wr S := hbS1.trans (hbS2.mono hbS1.size)
      have z0 : S.cell? ⟨wr.heap.size, 0, none⟩ = some (.int .u8 q.kind) := by simp [World.cell?, hrow3]
      have v0 : S.cell? ⟨wr.heap.size + 1, 0, none⟩ = some (.int .u8 q.kind) := by simp [World.cell?, hrow2]
      have z1 : S.cell? ⟨wr.heap.size, 1, none⟩ = some (.int .i64 q.n) := by simp [World.cell?, hrow3]
      have v1 : S.cell? ⟨wr.heap.size + 1, 1, none⟩ = some (.int .i64 q.n) := by simp [World.cell?, hrow2]
      have z2 : S.cell? ⟨wr.heap.size, 2, none⟩ = some (.string q.s) := by simp [World.cell?, hrow3]
      have v2 : S.cell? ⟨wr.heap.size + 1, 2, none⟩ = some (.string q.s) := by simp [World.cell?, hrow2]
      have z3 : S.cell? ⟨wr.heap.size, 3, none⟩ = some (.slice q.la q.ln q.lc) := by simp [World.cell?, hrow3]
      have v3 : S.cell? ⟨wr.heap.size + 1, 3, none⟩ = some (.slice q.la q.ln q.lc) := by simp [World.cell?, hrow2]
      have z4 : S.cell? ⟨wr.heap.size, 4, none⟩ = some (.slice q.fa q.fn q.fc) := by simp [World.cell?, hrow3]
      have v4 : S.cell? ⟨wr.heap.size + 1, 4, none⟩ = some (.slice q.fa q.fn q.fc) := by simp [World.cell?, hrow2]
      have z5 : S.cell? ⟨wr.heap.size, 5, none⟩ = some (.int .u8 q.elem) := by simp [World.cell?, hrow3]
      have v5 : S.cell? ⟨wr.heap.size + 1, 5, none⟩ = some (.int .u8 q.elem) := by simp [World.cell?, hrow2]
      have z6 : S.cell? ⟨wr.heap.size, 6, none⟩ = some (.string q.key) := by simp [World.cell?, hrow3]
      have v6 : S.cell? ⟨wr.heap.size + 1, 6, none⟩ = some (.string q.key) := by simp [World.cell?, hrow2]
      have z7 : S.cell? ⟨wr.heap.size, 7, none⟩ = some (.bool q.hk) := by simp [World.cell?, hrow3]
      have v7 : S.cell? ⟨wr.heap.size + 1, 7, none⟩ = some (.bool q.hk) := by simp [World.cell?, hrow2]
      have cS := hRk.out S (hbr.trans (hbS.mono (by have := hb.size; omega))) (by have := hb.size; have := hbS.size; omega)
      unfold Val.val at cS
      have hbE := Lib.hid (hb.trans (hbS.mono hb.size))
      have hzE := hbE.out.size
      replace hS := Lib.hid hS
      replace hS1 := Lib.hid hS1
      replace hq := Lib.hid hq
      clear gc hb hbr hbS hbS1 hbS2 hrow1 hrow2 hrow3
      go_wp2_with (first | (rw [← hS1.out]) | (rw [← hS.out]) | (go_at_call 10; refine cS.mono ?_))
      first | rintro e W2 rfl hb2 | rintro e W2 ⟨rfl, hb2⟩
      have hb3 := Lib.hid (hbE.out.trans (hb2.mono hzE))
      clear hb2 cS
      go_wp2_with fail
      go_roundw
      case rel => exact ⟨k + 1, by omega, by go_num, hb3.out⟩
      case measure => simp [intOf]; omega
    · obtain rfl : k = n := by omega
      go_wp2_with fail
      go_ret
      exact ⟨rfl, hb⟩

/-- sameFields's closure says yes at a field twice. -/
def ReflF (w0 : World) (B : Nat) (nm : ByteArray) (q : Val) : Prop := ∀ W, Below B w0 W → B ≤ W.heap.size → Calls Try.prog 20 #[.agg #[.string nm, .int .u8 q.kind, .int .i64 q.n, .string q.s, .slice q.la q.ln q.lc, .slice q.fa q.fn q.fc, .int .u8 q.elem, .string q.key, .bool q.hk], .agg #[.string nm, .int .u8 q.kind, .int .i64 q.n, .string q.s, .slice q.la q.ln q.lc, .slice q.fa q.fn q.fc, .int .u8 q.elem, .string q.key, .bool q.hk]] W fun e w' => e = .returned (.bool true) ∧ Below W.heap.size W w'
set_option maxRecDepth 100000 in
theorem sf_any (w0 : World) (B : Nat) (nm : ByteArray) (q : Val) (hR : Refl w0 B q) : ReflF w0 B nm q := by
  intro w hw hB
  obtain ⟨S1, hS1⟩ : ∃ S1, S1 = w.alloc (.cells #[.string nm, .int .u8 q.kind, .int .i64 q.n, .string q.s, .slice q.la q.ln q.lc, .slice q.fa q.fn q.fc, .int .u8 q.elem, .string q.key, .bool q.hk] 39) := ⟨_, rfl⟩
  have hbS1 : Below w.heap.size w S1 := by rw [hS1]; exact (Below.refl _ _).alloc (Nat.le_refl _) _
  have hrow1 : S1.heap[w.heap.size]? = some (.cells #[.string nm, .int .u8 q.kind, .int .i64 q.n, .string q.s, .slice q.la q.ln q.lc, .slice q.fa q.fn q.fc, .int .u8 q.elem, .string q.key, .bool q.hk] 39 (0, 0)) := by rw [hS1]; exact heap_alloc_new w _
  have hzS1 : S1.heap.size = w.heap.size + 1 := by rw [hS1]; simp
  obtain ⟨S, hS⟩ : ∃ S, S = S1.alloc (.cells #[.string nm, .int .u8 q.kind, .int .i64 q.n, .string q.s, .slice q.la q.ln q.lc, .slice q.fa q.fn q.fc, .int .u8 q.elem, .string q.key, .bool q.hk] 39) := ⟨_, rfl⟩
  have hbS2 : Below S1.heap.size S1 S := by rw [hS]; exact (Below.refl _ _).alloc (Nat.le_refl _) _
  have hrow2 : S.heap[w.heap.size + 1]? = some (.cells #[.string nm, .int .u8 q.kind, .int .i64 q.n, .string q.s, .slice q.la q.ln q.lc, .slice q.fa q.fn q.fc, .int .u8 q.elem, .string q.key, .bool q.hk] 39 (0, 0)) := by rw [hS, ← hzS1]; exact heap_alloc_new S1 _
  have hrow3 : S.heap[w.heap.size]? = some (.cells #[.string nm, .int .u8 q.kind, .int .i64 q.n, .string q.s, .slice q.la q.ln q.lc, .slice q.fa q.fn q.fc, .int .u8 q.elem, .string q.key, .bool q.hk] 39 (0, 0)) := (hbS2.block _ (by omega)).trans hrow1
  have hbS : Below w.heap.size w S := hbS1.trans (hbS2.mono hbS1.size)
  have z0 : S.cell? ⟨w.heap.size, 0, none⟩ = some (.string nm) := by simp [World.cell?, hrow3]
  have v0 : S.cell? ⟨w.heap.size + 1, 0, none⟩ = some (.string nm) := by simp [World.cell?, hrow2]
  have z1 : S.cell? ⟨w.heap.size, 1, none⟩ = some (.int .u8 q.kind) := by simp [World.cell?, hrow3]
  have v1 : S.cell? ⟨w.heap.size + 1, 1, none⟩ = some (.int .u8 q.kind) := by simp [World.cell?, hrow2]
  have z2 : S.cell? ⟨w.heap.size, 2, none⟩ = some (.int .i64 q.n) := by simp [World.cell?, hrow3]
  have v2 : S.cell? ⟨w.heap.size + 1, 2, none⟩ = some (.int .i64 q.n) := by simp [World.cell?, hrow2]
  have z3 : S.cell? ⟨w.heap.size, 3, none⟩ = some (.string q.s) := by simp [World.cell?, hrow3]
  have v3 : S.cell? ⟨w.heap.size + 1, 3, none⟩ = some (.string q.s) := by simp [World.cell?, hrow2]
  have z4 : S.cell? ⟨w.heap.size, 4, none⟩ = some (.slice q.la q.ln q.lc) := by simp [World.cell?, hrow3]
  have v4 : S.cell? ⟨w.heap.size + 1, 4, none⟩ = some (.slice q.la q.ln q.lc) := by simp [World.cell?, hrow2]
  have z5 : S.cell? ⟨w.heap.size, 5, none⟩ = some (.slice q.fa q.fn q.fc) := by simp [World.cell?, hrow3]
  have v5 : S.cell? ⟨w.heap.size + 1, 5, none⟩ = some (.slice q.fa q.fn q.fc) := by simp [World.cell?, hrow2]
  have z6 : S.cell? ⟨w.heap.size, 6, none⟩ = some (.int .u8 q.elem) := by simp [World.cell?, hrow3]
  have v6 : S.cell? ⟨w.heap.size + 1, 6, none⟩ = some (.int .u8 q.elem) := by simp [World.cell?, hrow2]
  have z7 : S.cell? ⟨w.heap.size, 7, none⟩ = some (.string q.key) := by simp [World.cell?, hrow3]
  have v7 : S.cell? ⟨w.heap.size + 1, 7, none⟩ = some (.string q.key) := by simp [World.cell?, hrow2]
  have z8 : S.cell? ⟨w.heap.size, 8, none⟩ = some (.bool q.hk) := by simp [World.cell?, hrow3]
  have v8 : S.cell? ⟨w.heap.size + 1, 8, none⟩ = some (.bool q.hk) := by simp [World.cell?, hrow2]
  have cS := hR S (hw.trans (hbS.mono hB)) (Nat.le_trans hB hbS.size)
  unfold Val.val at cS
  replace hS := Lib.hid hS
  replace hS1 := Lib.hid hS1
  replace hbS := Lib.hid hbS
  clear hbS1 hbS2 hrow1 hrow2 hrow3
  go_enter Try.func20, Try.ntmps20
  go_wp2_with (first | (rw [← hS1.out]) | (rw [← hS.out]) | (go_at_call 10; refine cS.mono ?_))
  first | rintro e W2 rfl hb2 | rintro e W2 ⟨rfl, hb2⟩
  have hb3 := Lib.hid (hbS.out.trans (hb2.mono hbS.out.size))
  clear hb2 cS
  go_wp2_with fail
  go_ret
  exact ⟨rfl, hb3.out⟩

set_option maxHeartbeats 4000000 in
set_option maxRecDepth 100000 in
theorem equalF_any (w0 : World) (B : Nat) (ao : Option Addr) (b o n cap : Nat) (N : Nat → ByteArray) (L : Nat → Val) (hn : n ≤ 1152921504606846976) (hao : 0 < n → ao = some ⟨b, o, none⟩ ∧ b < B)
    (hc : ∀ i, i < n → ∀ j, j < 9 → w0.cell? ⟨b, o + (i * 9 + j), none⟩ = (fieldCells (N i) (L i))[j]?) (hR : ∀ i, i < n → ReflF w0 B (N i) (L i)) (w : World) (hw : Below B w0 w) (hB : B ≤ w.heap.size) :
    Calls Try.prog 19 #[.slice ao n cap, .slice ao n cap, .func (.func 20) #[] #[]] w fun e w' => e = .returned (.bool true) ∧ Below w.heap.size w w' := by
  replace hc := Lib.hid hc
  replace hR := Lib.hid hR
  replace hw := Lib.hid hw
  go_enter Try.func19, Try.ntmps19
  go_wp2_with fail
  go_loopw [17] (fun i wr => ∃ k : Nat, k ≤ n ∧ i = .int .i64 (k : Nat) ∧ Below w.heap.size w wr) (fun i _ => n - (intOf i).toNat)
  case atStart => exact ⟨0, Nat.zero_le _, rfl, Below.refl _ _⟩
  case round =>
    obtain ⟨k, hk, rfl, hb⟩ := hrel
    by_cases hlt : k < n
    · obtain ⟨rfl, hbB⟩ := hao (by omega)
      have hbr : Below B w0 wr := hw.out.trans (hb.mono hB)
      obtain ⟨q, hq⟩ : ∃ q, q = L k := ⟨_, rfl⟩
      obtain ⟨nm, hnm⟩ : ∃ nm, nm = N k := ⟨_, rfl⟩
      have gc : ∀ j, j < 9 → wr.cell? ⟨b, o + (k * 9 + j), none⟩ = (fieldCells nm q)[j]? := fun j hj => by rw [hq, hnm]; exact (hbr.cell (p := ⟨b, o + (k * 9 + j), none⟩) hbB).trans (hc.out k hlt j hj)
      have x0 : wr.cell? ⟨b, o + k * 9, none⟩ = some (.string nm) := gc 0 (by omega)
      have x1 : wr.cell? ⟨b, o + k * 9 + 1, none⟩ = some (.int .u8 q.kind) := by rw [Nat.add_assoc]; exact gc 1 (by omega)
      have x2 : wr.cell? ⟨b, o + k * 9 + 2, none⟩ = some (.int .i64 q.n) := by rw [Nat.add_assoc]; exact gc 2 (by omega)
      have x3 : wr.cell? ⟨b, o + k * 9 + 3, none⟩ = some (.string q.s) := by rw [Nat.add_assoc]; exact gc 3 (by omega)
      have x4 : wr.cell? ⟨b, o + k * 9 + 4, none⟩ = some (.slice q.la q.ln q.lc) := by rw [Nat.add_assoc]; exact gc 4 (by omega)
      have x5 : wr.cell? ⟨b, o + k * 9 + 5, none⟩ = some (.slice q.fa q.fn q.fc) := by rw [Nat.add_assoc]; exact gc 5 (by omega)
      have x6 : wr.cell? ⟨b, o + k * 9 + 6, none⟩ = some (.int .u8 q.elem) := by rw [Nat.add_assoc]; exact gc 6 (by omega)
      have x7 : wr.cell? ⟨b, o + k * 9 + 7, none⟩ = some (.string q.key) := by rw [Nat.add_assoc]; exact gc 7 (by omega)
      have x8 : wr.cell? ⟨b, o + k * 9 + 8, none⟩ = some (.bool q.hk) := by rw [Nat.add_assoc]; exact gc 8 (by omega)
      have hRk : Hid (ReflF w0 B nm q) := by rw [hq, hnm]; exact hR.out k hlt
      obtain ⟨S1, hS1⟩ : ∃ S1, S1 = wr.alloc (.cells #[.string nm, .int .u8 q.kind, .int .i64 q.n, .string q.s, .slice q.la q.ln q.lc, .slice q.fa q.fn q.fc, .int .u8 q.elem, .string q.key, .bool q.hk] 39) := ⟨_, rfl⟩
      have hbS1 : Below wr.heap.size wr S1 := by rw [hS1]; exact (Below.refl _ _).alloc (Nat.le_refl _) _
      have hrow1 : S1.heap[wr.heap.size]? = some (.cells #[.string nm, .int .u8 q.kind, .int .i64 q.n, .string q.s, .slice q.la q.ln q.lc, .slice q.fa q.fn q.fc, .int .u8 q.elem, .string q.key, .bool q.hk] 39 (0, 0)) := by rw [hS1]; exact heap_alloc_new wr _
      have hzS1 : S1.heap.size = wr.heap.size + 1 := by rw [hS1]; simp
      have y0 : S1.cell? ⟨b, o + k * 9, none⟩ = some (.string nm) := (hbS1.cell (p := ⟨b, o + k * 9, none⟩) (by show b < _; have := hb.size; omega)).trans x0
      have y1 : S1.cell? ⟨b, o + k * 9 + 1, none⟩ = some (.int .u8 q.kind) := (hbS1.cell (p := ⟨b, o + k * 9 + 1, none⟩) (by show b < _; have := hb.size; omega)).trans x1
      have y2 : S1.cell? ⟨b, o + k * 9 + 2, none⟩ = some (.int .i64 q.n) := (hbS1.cell (p := ⟨b, o + k * 9 + 2, none⟩) (by show b < _; have := hb.size; omega)).trans x2
      have y3 : S1.cell? ⟨b, o + k * 9 + 3, none⟩ = some (.string q.s) := (hbS1.cell (p := ⟨b, o + k * 9 + 3, none⟩) (by show b < _; have := hb.size; omega)).trans x3
      have y4 : S1.cell? ⟨b, o + k * 9 + 4, none⟩ = some (.slice q.la q.ln q.lc) := (hbS1.cell (p := ⟨b, o + k * 9 + 4, none⟩) (by show b < _; have := hb.size; omega)).trans x4
      have y5 : S1.cell? ⟨b, o + k * 9 + 5, none⟩ = some (.slice q.fa q.fn q.fc) := (hbS1.cell (p := ⟨b, o + k * 9 + 5, none⟩) (by show b < _; have := hb.size; omega)).trans x5
      have y6 : S1.cell? ⟨b, o + k * 9 + 6, none⟩ = some (.int .u8 q.elem) := (hbS1.cell (p := ⟨b, o + k * 9 + 6, none⟩) (by show b < _; have := hb.size; omega)).trans x6
      have y7 : S1.cell? ⟨b, o + k * 9 + 7, none⟩ = some (.string q.key) := (hbS1.cell (p := ⟨b, o + k * 9 + 7, none⟩) (by show b < _; have := hb.size; omega)).trans x7
      have y8 : S1.cell? ⟨b, o + k * 9 + 8, none⟩ = some (.bool q.hk) := (hbS1.cell (p := ⟨b, o + k * 9 + 8, none⟩) (by show b < _; have := hb.size; omega)).trans x8
      obtain ⟨S, hS⟩ : ∃ S, S = S1.alloc (.cells #[.string nm, .int .u8 q.kind, .int .i64 q.n, .string q.s, .slice q.la q.ln q.lc, .slice q.fa q.fn q.fc, .int .u8 q.elem, .string q.key, .bool q.hk] 39) := ⟨_, rfl⟩
      have hbS2 : Below S1.heap.size S1 S := by rw [hS]; exact (Below.refl _ _).alloc (Nat.le_refl _) _
      have hrow2 : S.heap[wr.heap.size + 1]? = some (.cells #[.string nm, .int .u8 q.kind, .int .i64 q.n, .string q.s, .slice q.la q.ln q.lc, .slice q.fa q.fn q.fc, .int .u8 q.elem, .string q.key, .bool q.hk] 39 (0, 0)) := by rw [hS, ← hzS1]; exact heap_alloc_new S1 _
      have hrow3 : S.heap[wr.heap.size]? = some (.cells #[.string nm, .int .u8 q.kind, .int .i64 q.n, .string q.s, .slice q.la q.ln q.lc, .slice q.fa q.fn q.fc, .int .u8 q.elem, .string q.key, .bool q.hk] 39 (0, 0)) := (hbS2.block _ (by omega)).trans hrow1
      have hbS : Below wr.heap.size wr S := hbS1.trans (hbS2.mono hbS1.size)
      have z0 : S.cell? ⟨wr.heap.size, 0, none⟩ = some (.string nm) := by simp [World.cell?, hrow3]
      have v0 : S.cell? ⟨wr.heap.size + 1, 0, none⟩ = some (.string nm) := by simp [World.cell?, hrow2]
      have z1 : S.cell? ⟨wr.heap.size, 1, none⟩ = some (.int .u8 q.kind) := by simp [World.cell?, hrow3]
      have v1 : S.cell? ⟨wr.heap.size + 1, 1, none⟩ = some (.int .u8 q.kind) := by simp [World.cell?, hrow2]
      have z2 : S.cell? ⟨wr.heap.size, 2, none⟩ = some (.int .i64 q.n) := by simp [World.cell?, hrow3]
      have v2 : S.cell? ⟨wr.heap.size + 1, 2, none⟩ = some (.int .i64 q.n) := by simp [World.cell?, hrow2]
      have z3 : S.cell? ⟨wr.heap.size, 3, none⟩ = some (.string q.s) := by simp [World.cell?, hrow3]
      have v3 : S.cell? ⟨wr.heap.size + 1, 3, none⟩ = some (.string q.s) := by simp [World.cell?, hrow2]
      have z4 : S.cell? ⟨wr.heap.size, 4, none⟩ = some (.slice q.la q.ln q.lc) := by simp [World.cell?, hrow3]
      have v4 : S.cell? ⟨wr.heap.size + 1, 4, none⟩ = some (.slice q.la q.ln q.lc) := by simp [World.cell?, hrow2]
      have z5 : S.cell? ⟨wr.heap.size, 5, none⟩ = some (.slice q.fa q.fn q.fc) := by simp [World.cell?, hrow3]
      have v5 : S.cell? ⟨wr.heap.size + 1, 5, none⟩ = some (.slice q.fa q.fn q.fc) := by simp [World.cell?, hrow2]
      have z6 : S.cell? ⟨wr.heap.size, 6, none⟩ = some (.int .u8 q.elem) := by simp [World.cell?, hrow3]
      have v6 : S.cell? ⟨wr.heap.size + 1, 6, none⟩ = some (.int .u8 q.elem) := by simp [World.cell?, hrow2]
      have z7 : S.cell? ⟨wr.heap.size, 7, none⟩ = some (.string q.key) := by simp [World.cell?, hrow3]
      have v7 : S.cell? ⟨wr.heap.size + 1, 7, none⟩ = some (.string q.key) := by simp [World.cell?, hrow2]
      have z8 : S.cell? ⟨wr.heap.size, 8, none⟩ = some (.bool q.hk) := by simp [World.cell?, hrow3]
      have v8 : S.cell? ⟨wr.heap.size + 1, 8, none⟩ = some (.bool q.hk) := by simp [World.cell?, hrow2]
      have cS := hRk.out S (hbr.trans (hbS.mono (by have := hb.size; omega))) (by have := hb.size; have := hbS.size; omega)
      have hbE := Lib.hid (hb.trans (hbS.mono hb.size))
      have hzE := hbE.out.size
      replace hS := Lib.hid hS
      replace hS1 := Lib.hid hS1
      replace hq := Lib.hid hq
      replace hnm := Lib.hid hnm
      clear gc hb hbr hbS hbS1 hbS2 hrow1 hrow2 hrow3
      go_wp2_with (first | (rw [← hS1.out]) | (rw [← hS.out]) | (go_at_call 20; refine cS.mono ?_))
      first | rintro e W2 rfl hb2 | rintro e W2 ⟨rfl, hb2⟩
      have hb3 := Lib.hid (hbE.out.trans (hb2.mono hzE))
      clear hb2 cS
      go_wp2_with fail
      go_roundw
      case rel => exact ⟨k + 1, by omega, by go_num, hb3.out⟩
      case measure => simp [intOf]; omega
    · obtain rfl : k = n := by omega
      go_wp2_with fail
      go_ret
      exact ⟨rfl, hb⟩

set_option maxRecDepth 100000 in
theorem sameF_any (w0 : World) (B : Nat) (ao : Option Addr) (b o n cap : Nat) (N : Nat → ByteArray) (L : Nat → Val) (hn : n ≤ 1152921504606846976) (hao : 0 < n → ao = some ⟨b, o, none⟩ ∧ b < B)
    (hc : ∀ i, i < n → ∀ j, j < 9 → w0.cell? ⟨b, o + (i * 9 + j), none⟩ = (fieldCells (N i) (L i))[j]?) (hR : ∀ i, i < n → ReflF w0 B (N i) (L i)) (w : World) (hw : Below B w0 w) (hB : B ≤ w.heap.size) :
    Calls Try.prog 16 #[.slice ao n cap, .slice ao n cap] w fun e w' => e = .returned (.bool true) ∧ Below w.heap.size w w' := by
  have cE := equalF_any w0 B ao b o n cap N L hn hao hc hR w hw hB
  replace hc := Lib.hid hc
  replace hR := Lib.hid hR
  replace hw := Lib.hid hw
  go_enter Try.func16, Try.ntmps16
  go_wp2_with (go_at_call 19; refine cE.mono ?_)
  first | rintro e W2 rfl hb2 | rintro e W2 ⟨rfl, hb2⟩
  replace hb2 := Lib.hid hb2
  go_wp2_with fail
  go_ret
  exact ⟨rfl, hb2.out⟩

set_option maxHeartbeats 4000000 in
set_option maxRecDepth 100000 in
/-- A value is the same as itself. -/
theorem refl_any (w0 : World) (B : Nat) (q : Val) (h : ValAt w0 B q) : Refl w0 B q := by
  induction h with
  | mk q lb lo fb fo L N F hln hfn hla hfa hlc hfc _ _ ihL ihF =>
    intro w hw hB
    obtain ⟨S1, hS1⟩ : ∃ S1, S1 = w.alloc (.cells #[.int .u8 q.kind, .int .i64 q.n, .string q.s, .slice q.la q.ln q.lc, .slice q.fa q.fn q.fc, .int .u8 q.elem, .string q.key, .bool q.hk] 37) := ⟨_, rfl⟩
    have hbS1 : Below w.heap.size w S1 := by rw [hS1]; exact (Below.refl _ _).alloc (Nat.le_refl _) _
    have hrow1 : S1.heap[w.heap.size]? = some (.cells #[.int .u8 q.kind, .int .i64 q.n, .string q.s, .slice q.la q.ln q.lc, .slice q.fa q.fn q.fc, .int .u8 q.elem, .string q.key, .bool q.hk] 37 (0, 0)) := by rw [hS1]; exact heap_alloc_new w _
    have hzS1 : S1.heap.size = w.heap.size + 1 := by rw [hS1]; simp
    obtain ⟨S, hS⟩ : ∃ S, S = S1.alloc (.cells #[.int .u8 q.kind, .int .i64 q.n, .string q.s, .slice q.la q.ln q.lc, .slice q.fa q.fn q.fc, .int .u8 q.elem, .string q.key, .bool q.hk] 37) := ⟨_, rfl⟩
    have hbS2 : Below S1.heap.size S1 S := by rw [hS]; exact (Below.refl _ _).alloc (Nat.le_refl _) _
    have hrow2 : S.heap[w.heap.size + 1]? = some (.cells #[.int .u8 q.kind, .int .i64 q.n, .string q.s, .slice q.la q.ln q.lc, .slice q.fa q.fn q.fc, .int .u8 q.elem, .string q.key, .bool q.hk] 37 (0, 0)) := by rw [hS, ← hzS1]; exact heap_alloc_new S1 _
    have hrow3 : S.heap[w.heap.size]? = some (.cells #[.int .u8 q.kind, .int .i64 q.n, .string q.s, .slice q.la q.ln q.lc, .slice q.fa q.fn q.fc, .int .u8 q.elem, .string q.key, .bool q.hk] 37 (0, 0)) := (hbS2.block _ (by omega)).trans hrow1
    have hbS : Below w.heap.size w S := hbS1.trans (hbS2.mono hbS1.size)
    have z0 : S.cell? ⟨w.heap.size, 0, none⟩ = some (.int .u8 q.kind) := by simp [World.cell?, hrow3]
    have v0 : S.cell? ⟨w.heap.size + 1, 0, none⟩ = some (.int .u8 q.kind) := by simp [World.cell?, hrow2]
    have z1 : S.cell? ⟨w.heap.size, 1, none⟩ = some (.int .i64 q.n) := by simp [World.cell?, hrow3]
    have v1 : S.cell? ⟨w.heap.size + 1, 1, none⟩ = some (.int .i64 q.n) := by simp [World.cell?, hrow2]
    have z2 : S.cell? ⟨w.heap.size, 2, none⟩ = some (.string q.s) := by simp [World.cell?, hrow3]
    have v2 : S.cell? ⟨w.heap.size + 1, 2, none⟩ = some (.string q.s) := by simp [World.cell?, hrow2]
    have z3 : S.cell? ⟨w.heap.size, 3, none⟩ = some (.slice q.la q.ln q.lc) := by simp [World.cell?, hrow3]
    have v3 : S.cell? ⟨w.heap.size + 1, 3, none⟩ = some (.slice q.la q.ln q.lc) := by simp [World.cell?, hrow2]
    have z4 : S.cell? ⟨w.heap.size, 4, none⟩ = some (.slice q.fa q.fn q.fc) := by simp [World.cell?, hrow3]
    have v4 : S.cell? ⟨w.heap.size + 1, 4, none⟩ = some (.slice q.fa q.fn q.fc) := by simp [World.cell?, hrow2]
    have z5 : S.cell? ⟨w.heap.size, 5, none⟩ = some (.int .u8 q.elem) := by simp [World.cell?, hrow3]
    have v5 : S.cell? ⟨w.heap.size + 1, 5, none⟩ = some (.int .u8 q.elem) := by simp [World.cell?, hrow2]
    have z6 : S.cell? ⟨w.heap.size, 6, none⟩ = some (.string q.key) := by simp [World.cell?, hrow3]
    have v6 : S.cell? ⟨w.heap.size + 1, 6, none⟩ = some (.string q.key) := by simp [World.cell?, hrow2]
    have z7 : S.cell? ⟨w.heap.size, 7, none⟩ = some (.bool q.hk) := by simp [World.cell?, hrow3]
    have v7 : S.cell? ⟨w.heap.size + 1, 7, none⟩ = some (.bool q.hk) := by simp [World.cell?, hrow2]
    have hw2 : Below B w0 S := hw.trans (hbS.mono hB)
    have hzw := hbS.size
    have hzS : S.heap.size = S1.heap.size + 1 := by rw [hS]; simp
    have cL := equalL_any w0 B q.la lb lo q.ln q.lc L hln hla hlc ihL S hw2 (by omega)
    have cF : Hid (∀ W, Below S.heap.size S W → Calls Try.prog 16 #[.slice q.fa q.fn q.fc, .slice q.fa q.fn q.fc] W fun e w' => e = .returned (.bool true) ∧ Below W.heap.size W w') := fun W hW =>
      sameF_any w0 B q.fa fb fo q.fn q.fc N F hfn hfa hfc (fun i hi => sf_any w0 B (N i) (F i) (ihF i hi)) W (hw2.trans (hW.mono (by omega))) (by have := hW.size; omega)
    replace hS := Lib.hid hS
    replace hS1 := Lib.hid hS1
    replace hbS := Lib.hid hbS
    replace hlc := Lib.hid hlc
    replace hfc := Lib.hid hfc
    replace hla := Lib.hid hla
    replace hfa := Lib.hid hfa
    replace ihL := Lib.hid ihL
    replace ihF := Lib.hid ihF
    replace hw := Lib.hid hw
    replace hw2 := Lib.hid hw2
    clear hbS1 hbS2 hrow1 hrow2 hrow3
    unfold Val.val
    go_enter Try.func10, Try.ntmps10
    go_wp2_with (first | (rw [← hS1.out]) | (rw [← hS.out]) | (go_at_call 15; refine cL.mono ?_))
    first | rintro e W2 rfl hb2 | rintro e W2 ⟨rfl, hb2⟩
    have cF2 := cF.out W2 hb2
    have u4 := (hb2.cell (p := ⟨w.heap.size, 4, none⟩) (by show w.heap.size < _; omega)).trans z4
    have u5 := (hb2.cell (p := ⟨w.heap.size + 1, 4, none⟩) (by show w.heap.size + 1 < _; omega)).trans v4
    have hb3 := Lib.hid (hbS.out.trans (hb2.mono hbS.out.size))
    clear hb2 cL cF
    go_wp2_with (go_at_call 16; refine cF2.mono ?_)
    first | rintro e W3 rfl hb4 | rintro e W3 ⟨rfl, hb4⟩
    have hb5 := Lib.hid (hb3.out.trans (hb4.mono hb3.out.size))
    clear hb4 cF2
    go_wp2_with fail
    go_ret
    exact ⟨rfl, hb5.out⟩
end Go.Proofs.Ytehcbicngbibgaa
