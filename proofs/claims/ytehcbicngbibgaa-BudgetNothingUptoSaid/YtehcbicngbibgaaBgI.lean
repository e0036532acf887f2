/- attr: an attribute by its name. -/
import Derived.Test.YtehcbicngbibgaaBgM
namespace Go.Proofs.Ytehcbicngbibgaa
open Go Go.RowKit Go.Maps

/-- Fields in memory, below B. -/
structure FieldsAt (w : World) (B : Nat) (ao : Option Addr) (n : Nat) (N : Nat → ByteArray) (L : Nat → Val) : Prop where
  le : n ≤ 1152921504606846976
  at_ : 0 < n → ∃ b o, ao = some ⟨b, o, none⟩ ∧ b < B ∧ ∀ i, i < n → ∀ j, j < 9 → w.cell? ⟨b, o + (i * 9 + j), none⟩ = (fieldCells (N i) (L i))[j]?
theorem FieldsAt.kept {w w' : World} {B : Nat} {ao : Option Addr} {n : Nat} {N : Nat → ByteArray} {L : Nat → Val} (h : FieldsAt w B ao n N L) (hb : Below B w w') : FieldsAt w' B ao n N L :=
  ⟨h.le, fun h0 => by
    obtain ⟨b, o, e1, e2, e3⟩ := h.at_ h0
    exact ⟨b, o, e1, e2, fun i hi j hj => (hb.cell (p := ⟨b, o + (i * 9 + j), none⟩) e2).trans (e3 i hi j hj)⟩⟩

set_option maxRecDepth 100000 in
theorem pick_any (X : Nat) (a nm : ByteArray) (q : Val) (w : World) (hX : w.cell? ⟨X, 0, none⟩ = some (.string nm)) (hXl : X < w.heap.size) (b : Bool) (hb : (a.toList == nm.toList) = b) :
    Calls Try.prog 14 #[.agg #[.string a, .int .u8 q.kind, .int .i64 q.n, .string q.s, .slice q.la q.ln q.lc, .slice q.fa q.fn q.fc, .int .u8 q.elem, .string q.key, .bool q.hk], .pointer (some ⟨X, 0, none⟩)] w fun e w' => e = .returned (.bool b) ∧ Below w.heap.size w w' := by
  obtain ⟨S, hS⟩ : ∃ S, S = w.alloc (.cells #[.string a, .int .u8 q.kind, .int .i64 q.n, .string q.s, .slice q.la q.ln q.lc, .slice q.fa q.fn q.fc, .int .u8 q.elem, .string q.key, .bool q.hk] 39) := ⟨_, rfl⟩
  have hbS : Below w.heap.size w S := by rw [hS]; exact (Below.refl _ _).alloc (Nat.le_refl _) _
  have hrow : S.heap[w.heap.size]? = some (.cells #[.string a, .int .u8 q.kind, .int .i64 q.n, .string q.s, .slice q.la q.ln q.lc, .slice q.fa q.fn q.fc, .int .u8 q.elem, .string q.key, .bool q.hk] 39 (0, 0)) := by rw [hS]; exact heap_alloc_new w _
  have z0 : S.cell? ⟨w.heap.size, 0, none⟩ = some (.string a) := by simp [World.cell?, hrow]
  have zX : S.cell? ⟨X, 0, none⟩ = some (.string nm) := (hbS.cell (p := ⟨X, 0, none⟩) hXl).trans hX
  replace hS := Lib.hid hS
  replace hbS := Lib.hid hbS
  clear hrow
  go_enter Try.func14, Try.ntmps14
  go_wp2_with (first | (rw [← hS.out]) | fail)
  go_ret
  exact ⟨by rw [← hb]; rfl, hbS.out⟩

set_option maxHeartbeats 1000000 in
set_option maxRecDepth 100000 in
theorem index_any (w0 : World) (B : Nat) (ao : Option Addr) (n cap X : Nat) (N : Nat → ByteArray) (L : Nat → Val) (nm : ByteArray) (hf : FieldsAt w0 B ao n N L) (w : World) (hw : Below B w0 w) (hB : B ≤ w.heap.size) (hX : w.cell? ⟨X, 0, none⟩ = some (.string nm)) (hXl : X < w.heap.size) :
    Calls Try.prog 13 #[.slice ao n cap, .func (.func 14) #[] #[.pointer (some ⟨X, 0, none⟩)]] w fun e w' =>
      ((∃ j : Nat, j < n ∧ (N j).toList = nm.toList ∧ (∀ i, i < j → (N i).toList ≠ nm.toList) ∧ e = .returned (.int .i64 (j : Nat))) ∨ ((∀ i, i < n → (N i).toList ≠ nm.toList) ∧ e = .returned (.int .i64 (-1)))) ∧ Below w.heap.size w w' := by
  have hn := hf.le
  replace hf := Lib.hid hf
  replace hw := Lib.hid hw
  go_enter Try.func13, Try.ntmps13
  go_wp2_with fail
  go_loopw [8] (fun i wr => ∃ k : Nat, k ≤ n ∧ i = .int .i64 (k : Nat) ∧ (∀ i, i < k → (N i).toList ≠ nm.toList) ∧ Below w.heap.size w wr) (fun i _ => n - (intOf i).toNat)
  case atStart => exact ⟨0, Nat.zero_le _, rfl, fun i hi => by omega, Below.refl _ _⟩
  case round =>
    obtain ⟨k, hk, rfl, hne, hb⟩ := hrel
    replace hne := Lib.hid hne
    by_cases hlt : k < n
    · obtain ⟨b, o, rfl, hbB, hc⟩ := hf.out.at_ (by omega)
      have hbr : Below B w0 wr := hw.out.trans (hb.mono hB)
      obtain ⟨q, hq⟩ : ∃ q, q = L k := ⟨_, rfl⟩
      have gc : ∀ j, j < 9 → wr.cell? ⟨b, o + (k * 9 + j), none⟩ = (fieldCells (N k) q)[j]? := fun j hj => by rw [hq]; exact (hbr.cell (p := ⟨b, o + (k * 9 + j), none⟩) hbB).trans (hc k hlt j hj)
      have x0 : wr.cell? ⟨b, o + k * 9, none⟩ = some (.string (N k)) := gc 0 (by omega)
      have x1 : wr.cell? ⟨b, o + k * 9 + 1, none⟩ = some (.int .u8 q.kind) := by rw [Nat.add_assoc]; exact gc 1 (by omega)
      have x2 : wr.cell? ⟨b, o + k * 9 + 2, none⟩ = some (.int .i64 q.n) := by rw [Nat.add_assoc]; exact gc 2 (by omega)
      have x3 : wr.cell? ⟨b, o + k * 9 + 3, none⟩ = some (.string q.s) := by rw [Nat.add_assoc]; exact gc 3 (by omega)
      have x4 : wr.cell? ⟨b, o + k * 9 + 4, none⟩ = some (.slice q.la q.ln q.lc) := by rw [Nat.add_assoc]; exact gc 4 (by omega)
      have x5 : wr.cell? ⟨b, o + k * 9 + 5, none⟩ = some (.slice q.fa q.fn q.fc) := by rw [Nat.add_assoc]; exact gc 5 (by omega)
      have x6 : wr.cell? ⟨b, o + k * 9 + 6, none⟩ = some (.int .u8 q.elem) := by rw [Nat.add_assoc]; exact gc 6 (by omega)
      have x7 : wr.cell? ⟨b, o + k * 9 + 7, none⟩ = some (.string q.key) := by rw [Nat.add_assoc]; exact gc 7 (by omega)
      have x8 : wr.cell? ⟨b, o + k * 9 + 8, none⟩ = some (.bool q.hk) := by rw [Nat.add_assoc]; exact gc 8 (by omega)
      have hXr := (hb.cell (p := ⟨X, 0, none⟩) hXl).trans hX
      have hzr := hb.size
      have cC : ∀ bb, ((N k).toList == nm.toList) = bb → _ := fun bb hbb => pick_any X (N k) nm q wr hXr (by omega) bb hbb
      replace hq := Lib.hid hq
      replace hb := Lib.hid hb
      clear gc hbr hc
      by_cases hp : (N k).toList = nm.toList
      · have cT := cC true (by simpa using hp)
        replace hp := Lib.hid hp
        go_wp2_with (go_at_call 14; refine cT.mono ?_)
        first | rintro e W2 rfl hb2 | rintro e W2 ⟨rfl, hb2⟩
        have hb3 := Lib.hid (hb.out.trans (hb2.mono hzr))
        clear hb2 cT cC
        go_wp2_with fail
        go_ret
        exact ⟨.inl ⟨k, hlt, hp.out, hne.out, rfl⟩, hb3.out⟩
      · have cT := cC false (by simpa using hp)
        replace hp := Lib.hid hp
        go_wp2_with (go_at_call 14; refine cT.mono ?_)
        first | rintro e W2 rfl hb2 | rintro e W2 ⟨rfl, hb2⟩
        have hb3 := Lib.hid (hb.out.trans (hb2.mono hzr))
        clear hb2 cT cC
        go_wp2_with fail
        go_roundw
        case rel => exact ⟨k + 1, by omega, by go_num, fun i hi => by
          by_cases e : i = k
          · rw [e]; exact hp.out
          · exact hne.out i (by omega), hb3.out⟩
        case measure => simp [intOf]; omega
    · obtain rfl : k = n := by omega
      replace hb := Lib.hid hb
      go_wp2_with fail
      go_ret
      exact ⟨.inr ⟨hne.out, rfl⟩, hb.out⟩

def zeroVal : Value := .agg #[.int .u8 0, .int .i64 0, .string ⟨#[]⟩, .slice none 0 0, .slice none 0 0, .int .u8 0, .string ⟨#[]⟩, .bool false]
theorem results_cell_tmp {P : Program} {fn : Func} {p q : Tmp} {ty : TypeId} (h : fn.results = #[.cell p ty, .tmp q]) (tmps : Array Value) (w : World) (g : Nat) (t : TypeId) (cs : Array Value) (fr : Nat × Nat) (d : TypeDesc)
    (hp : tmps.getD p undef = .pointer (some ⟨g, 0, none⟩)) (hg : w.heap[g]? = some (.cells cs t fr))
    (hu : P.underlying ty = some d) (hd : (match d with | .struct _ | .array _ _ => true | _ => false) = true) (hi : (P.info? ty).map (·.size) = some cs.size) (v : Value) (hq : tmps.getD q undef = v) :
    (results fn tmps).run P w = .ok (.tuple #[.agg cs, v]) w := by
  have hp' : tmps[p]?.getD undef = .pointer (some ⟨g, 0, none⟩) := by simpa using hp
  have hq' : tmps[q]?.getD undef = v := by simpa using hq
  simp [results, h, hp', hq', asAddr, run_loadVar_row w g t ty cs fr d hg hu hd hi]
theorem set8 {W : World} {g : Nat} {t : TypeId} {a0 a1 a2 a3 a4 a5 a6 a7 : Value} (h : W.heap[g]? = some (.cells #[a0, a1, a2, a3, a4, a5, a6, a7] t (0, 0))) (b0 b1 b2 b3 b4 b5 b6 b7 : Value) :
    ((((((((W.setCell ⟨g, 0, none⟩ b0).setCell ⟨g, 1, none⟩ b1).setCell ⟨g, 2, none⟩ b2).setCell ⟨g, 3, none⟩ b3).setCell ⟨g, 4, none⟩ b4).setCell ⟨g, 5, none⟩ b5).setCell ⟨g, 6, none⟩ b6).setCell ⟨g, 7, none⟩ b7).heap[g]? = some (.cells #[b0, b1, b2, b3, b4, b5, b6, b7] t (0, 0)) := by
  have h0 : (W.setCell ⟨g, 0, none⟩ b0).heap[g]? = some (.cells #[b0, a1, a2, a3, a4, a5, a6, a7] t (0, 0)) := blk_set h 0 b0
  have h1 : ((W.setCell ⟨g, 0, none⟩ b0).setCell ⟨g, 1, none⟩ b1).heap[g]? = some (.cells #[b0, b1, a2, a3, a4, a5, a6, a7] t (0, 0)) := blk_set h0 1 b1
  generalize (W.setCell ⟨g, 0, none⟩ b0).setCell ⟨g, 1, none⟩ b1 = W1 at *
  have h2 : (W1.setCell ⟨g, 2, none⟩ b2).heap[g]? = some (.cells #[b0, b1, b2, a3, a4, a5, a6, a7] t (0, 0)) := blk_set h1 2 b2
  have h3 : ((W1.setCell ⟨g, 2, none⟩ b2).setCell ⟨g, 3, none⟩ b3).heap[g]? = some (.cells #[b0, b1, b2, b3, a4, a5, a6, a7] t (0, 0)) := blk_set h2 3 b3
  generalize (W1.setCell ⟨g, 2, none⟩ b2).setCell ⟨g, 3, none⟩ b3 = W2 at *
  have h4 : (W2.setCell ⟨g, 4, none⟩ b4).heap[g]? = some (.cells #[b0, b1, b2, b3, b4, a5, a6, a7] t (0, 0)) := blk_set h3 4 b4
  have h5 : ((W2.setCell ⟨g, 4, none⟩ b4).setCell ⟨g, 5, none⟩ b5).heap[g]? = some (.cells #[b0, b1, b2, b3, b4, b5, a6, a7] t (0, 0)) := blk_set h4 5 b5
  generalize (W2.setCell ⟨g, 4, none⟩ b4).setCell ⟨g, 5, none⟩ b5 = W3 at *
  have h6 : (W3.setCell ⟨g, 6, none⟩ b6).heap[g]? = some (.cells #[b0, b1, b2, b3, b4, b5, b6, a7] t (0, 0)) := blk_set h5 6 b6
  exact blk_set h6 7 b7
theorem val_info : (Try.prog.info? 37).map (·.size) = some (#[.int .u8 0, .int .i64 0, .string ⟨#[]⟩, .slice none 0 0, .slice none 0 0, .int .u8 0, .string ⟨#[]⟩, .bool false] : Array Value).size := by kernel_rfl

set_option maxHeartbeats 2000000 in
set_option maxRecDepth 100000 in
theorem attr_any (w0 : World) (B : Nat) (ao : Option Addr) (n cap : Nat) (N : Nat → ByteArray) (L : Nat → Val) (nm : ByteArray) (hf : FieldsAt w0 B ao n N L) (w : World) (hw : Below B w0 w) (hB : B ≤ w.heap.size) :
    Calls Try.prog 9 #[.slice ao n cap, .string nm] w fun e w' =>
      ((∃ j : Nat, j < n ∧ (N j).toList = nm.toList ∧ (∀ i, i < j → (N i).toList ≠ nm.toList) ∧ e = .returned (.tuple #[(L j).val, .bool true])) ∨ ((∀ i, i < n → (N i).toList ≠ nm.toList) ∧ e = .returned (.tuple #[zeroVal, .bool false]))) ∧ Below w.heap.size w w' := by
  have hn := hf.le
  obtain ⟨S, hS⟩ : ∃ S, S = (w.alloc (.cells #[.string nm] 9)).alloc (.cells #[.int .u8 0, .int .i64 0, .string ⟨#[]⟩, .slice none 0 0, .slice none 0 0, .int .u8 0, .string ⟨#[]⟩, .bool false] 37) := ⟨_, rfl⟩
  have hbS : Below w.heap.size w S := by rw [hS]; exact ((Below.refl _ w).alloc (Nat.le_refl _) _).alloc (by simp) _
  have hzS : S.heap.size = w.heap.size + 2 := by rw [hS]; simp
  have hnmS : S.heap[w.heap.size]? = some (.cells #[.string nm] 9 (0, 0)) := by rw [hS]; exact (Below.heap_alloc _ _ _ (by simp)).trans (heap_alloc_new w _)
  have hrowS : S.heap[w.heap.size + 1]? = some (.cells #[.int .u8 0, .int .i64 0, .string ⟨#[]⟩, .slice none 0 0, .slice none 0 0, .int .u8 0, .string ⟨#[]⟩, .bool false] 37 (0, 0)) := by
    rw [hS]
    have := heap_alloc_new (w.alloc (.cells #[.string nm] 9)) (.cells #[.int .u8 0, .int .i64 0, .string ⟨#[]⟩, .slice none 0 0, .slice none 0 0, .int .u8 0, .string ⟨#[]⟩, .bool false] 37)
    rw [show (w.alloc (.cells #[.string nm] 9)).heap.size = w.heap.size + 1 by simp] at this
    exact this
  have hXS : S.cell? ⟨w.heap.size, 0, none⟩ = some (.string nm) := by simp [World.cell?, hnmS]
  have cI := index_any w0 B ao n cap w.heap.size N L nm hf S (hw.trans (hbS.mono hB)) (by omega) hXS (by omega)
  replace hS := Lib.hid hS
  replace hrowS := Lib.hid hrowS
  replace hbS := Lib.hid hbS
  replace hf := Lib.hid hf
  replace hw := Lib.hid hw
  clear hnmS hXS
  go_enter Try.func9, Try.ntmps9
  go_wp2_with (first | (rw [← hS.out]) | (go_at_call 13; refine cI.mono ?_))
  first | rintro e W2 hres hb2 | rintro e W2 ⟨hres, hb2⟩
  have hrow2 : W2.heap[w.heap.size + 1]? = some (.cells #[.int .u8 0, .int .i64 0, .string ⟨#[]⟩, .slice none 0 0, .slice none 0 0, .int .u8 0, .string ⟨#[]⟩, .bool false] 37 (0, 0)) := (hb2.block _ (by omega)).trans hrowS.out
  have hbW : Below w.heap.size w W2 := hbS.out.trans (hb2.mono (by omega))
  have hz2 := hb2.size
  have hfr : ∀ k, W2.frozen? ⟨w.heap.size + 1, k, none⟩ = false := fun k => by simp [World.frozen?, hrow2]
  have r0 : W2.cell? ⟨w.heap.size + 1, 0, none⟩ = some (.int .u8 0) := by simp [World.cell?, hrow2]
  have g0 := hfr 0
  have r1 : W2.cell? ⟨w.heap.size + 1, 1, none⟩ = some (.int .i64 0) := by simp [World.cell?, hrow2]
  have g1 := hfr 1
  have r2 : W2.cell? ⟨w.heap.size + 1, 2, none⟩ = some (.string ⟨#[]⟩) := by simp [World.cell?, hrow2]
  have g2 := hfr 2
  have r3 : W2.cell? ⟨w.heap.size + 1, 3, none⟩ = some (.slice none 0 0) := by simp [World.cell?, hrow2]
  have g3 := hfr 3
  have r4 : W2.cell? ⟨w.heap.size + 1, 4, none⟩ = some (.slice none 0 0) := by simp [World.cell?, hrow2]
  have g4 := hfr 4
  have r5 : W2.cell? ⟨w.heap.size + 1, 5, none⟩ = some (.int .u8 0) := by simp [World.cell?, hrow2]
  have g5 := hfr 5
  have r6 : W2.cell? ⟨w.heap.size + 1, 6, none⟩ = some (.string ⟨#[]⟩) := by simp [World.cell?, hrow2]
  have g6 := hfr 6
  have r7 : W2.cell? ⟨w.heap.size + 1, 7, none⟩ = some (.bool false) := by simp [World.cell?, hrow2]
  have g7 := hfr 7
  rcases hres with ⟨j, hj, hj1, hj2, rfl⟩ | ⟨hno, rfl⟩
  · obtain ⟨b, o, rfl, hbB, hc⟩ := hf.out.at_ (by omega)
    obtain ⟨q, hq⟩ : ∃ q, q = L j := ⟨_, rfl⟩
    have gc : ∀ k, k < 9 → W2.cell? ⟨b, o + (j * 9 + k), none⟩ = (fieldCells (N j) q)[k]? := fun k hk => by rw [hq]; exact ((hw.out.trans (hbW.mono hB)).cell (p := ⟨b, o + (j * 9 + k), none⟩) hbB).trans (hc j hj k hk)
    have x1 : W2.cell? ⟨b, o + j * 9 + 1, none⟩ = some (.int .u8 q.kind) := by rw [Nat.add_assoc]; exact gc 1 (by omega)
    have x2 : W2.cell? ⟨b, o + j * 9 + 2, none⟩ = some (.int .i64 q.n) := by rw [Nat.add_assoc]; exact gc 2 (by omega)
    have x3 : W2.cell? ⟨b, o + j * 9 + 3, none⟩ = some (.string q.s) := by rw [Nat.add_assoc]; exact gc 3 (by omega)
    have x4 : W2.cell? ⟨b, o + j * 9 + 4, none⟩ = some (.slice q.la q.ln q.lc) := by rw [Nat.add_assoc]; exact gc 4 (by omega)
    have x5 : W2.cell? ⟨b, o + j * 9 + 5, none⟩ = some (.slice q.fa q.fn q.fc) := by rw [Nat.add_assoc]; exact gc 5 (by omega)
    have x6 : W2.cell? ⟨b, o + j * 9 + 6, none⟩ = some (.int .u8 q.elem) := by rw [Nat.add_assoc]; exact gc 6 (by omega)
    have x7 : W2.cell? ⟨b, o + j * 9 + 7, none⟩ = some (.string q.key) := by rw [Nat.add_assoc]; exact gc 7 (by omega)
    have x8 : W2.cell? ⟨b, o + j * 9 + 8, none⟩ = some (.bool q.hk) := by rw [Nat.add_assoc]; exact gc 8 (by omega)
    have w1 : W2.cell? ⟨b, o + j * 9 + 1 + 1, none⟩ = some (.int .i64 q.n) := x2
    have w2 : W2.cell? ⟨b, o + j * 9 + 1 + 2, none⟩ = some (.string q.s) := x3
    have w3 : W2.cell? ⟨b, o + j * 9 + 1 + 3, none⟩ = some (.slice q.la q.ln q.lc) := x4
    have w4 : W2.cell? ⟨b, o + j * 9 + 1 + 4, none⟩ = some (.slice q.fa q.fn q.fc) := x5
    have w5 : W2.cell? ⟨b, o + j * 9 + 1 + 5, none⟩ = some (.int .u8 q.elem) := x6
    have w6 : W2.cell? ⟨b, o + j * 9 + 1 + 6, none⟩ = some (.string q.key) := x7
    have w7 : W2.cell? ⟨b, o + j * 9 + 1 + 7, none⟩ = some (.bool q.hk) := x8
    have hg5 : Hid (((((((((W2.setCell ⟨w.heap.size + 1, 0, none⟩ (.int .u8 q.kind)).setCell ⟨w.heap.size + 1, 1, none⟩ (.int .i64 q.n)).setCell ⟨w.heap.size + 1, 2, none⟩ (.string q.s)).setCell ⟨w.heap.size + 1, 3, none⟩ (.slice q.la q.ln q.lc)).setCell ⟨w.heap.size + 1, 4, none⟩ (.slice q.fa q.fn q.fc)).setCell ⟨w.heap.size + 1, 5, none⟩ (.int .u8 q.elem)).setCell ⟨w.heap.size + 1, 6, none⟩ (.string q.key)).setCell ⟨w.heap.size + 1, 7, none⟩ (.bool q.hk)).heap[w.heap.size + 1]? = some (.cells #[.int .u8 q.kind, .int .i64 q.n, .string q.s, .slice q.la q.ln q.lc, .slice q.fa q.fn q.fc, .int .u8 q.elem, .string q.key, .bool q.hk] 37 (0, 0))) := set8 hrow2 _ _ _ _ _ _ _ _
    have hbE : Hid (Below w.heap.size w ((((((((W2.setCell ⟨w.heap.size + 1, 0, none⟩ (.int .u8 q.kind)).setCell ⟨w.heap.size + 1, 1, none⟩ (.int .i64 q.n)).setCell ⟨w.heap.size + 1, 2, none⟩ (.string q.s)).setCell ⟨w.heap.size + 1, 3, none⟩ (.slice q.la q.ln q.lc)).setCell ⟨w.heap.size + 1, 4, none⟩ (.slice q.fa q.fn q.fc)).setCell ⟨w.heap.size + 1, 5, none⟩ (.int .u8 q.elem)).setCell ⟨w.heap.size + 1, 6, none⟩ (.string q.key)).setCell ⟨w.heap.size + 1, 7, none⟩ (.bool q.hk))) := ((((((((hbW.setCell (p := ⟨w.heap.size + 1, 0, none⟩) (Nat.le_succ _) _).setCell (p := ⟨w.heap.size + 1, 1, none⟩) (Nat.le_succ _) _).setCell (p := ⟨w.heap.size + 1, 2, none⟩) (Nat.le_succ _) _).setCell (p := ⟨w.heap.size + 1, 3, none⟩) (Nat.le_succ _) _).setCell (p := ⟨w.heap.size + 1, 4, none⟩) (Nat.le_succ _) _).setCell (p := ⟨w.heap.size + 1, 5, none⟩) (Nat.le_succ _) _).setCell (p := ⟨w.heap.size + 1, 6, none⟩) (Nat.le_succ _) _).setCell (p := ⟨w.heap.size + 1, 7, none⟩) (Nat.le_succ _) _)
    replace hq := Lib.hid hq
    replace hj1 := Lib.hid hj1
    replace hj2 := Lib.hid hj2
    have hjI : (j : Int) < (n : Int) := by omega
    have hneg : decide ((j : Int) < 0) = false := by simp
    clear gc hc hfr hb2 hbW hrow2 cI
    go_wp2_with fail
    refine bodyPost_ret (results_cell_tmp (fn := Try.f9) (p := 4) (q := 5) (ty := 37) (by kernel_rfl) _ _ _ _ _ _ _ rfl hg5.out Try.underlying37 rfl val_info _ rfl) rfl ⟨.inl ⟨j, hj, hj1.out, hj2.out, ?_⟩, hbE.out⟩
    rw [← hq.out]; rfl
  · have hg5 : Hid (((((((((W2.setCell ⟨w.heap.size + 1, 0, none⟩ (.int .u8 0)).setCell ⟨w.heap.size + 1, 1, none⟩ (.int .i64 0)).setCell ⟨w.heap.size + 1, 2, none⟩ (.string ⟨#[]⟩)).setCell ⟨w.heap.size + 1, 3, none⟩ (.slice none 0 0)).setCell ⟨w.heap.size + 1, 4, none⟩ (.slice none 0 0)).setCell ⟨w.heap.size + 1, 5, none⟩ (.int .u8 0)).setCell ⟨w.heap.size + 1, 6, none⟩ (.string ⟨#[]⟩)).setCell ⟨w.heap.size + 1, 7, none⟩ (.bool false)).heap[w.heap.size + 1]? = some (.cells #[.int .u8 0, .int .i64 0, .string ⟨#[]⟩, .slice none 0 0, .slice none 0 0, .int .u8 0, .string ⟨#[]⟩, .bool false] 37 (0, 0))) := set8 hrow2 _ _ _ _ _ _ _ _
    have hbE : Hid (Below w.heap.size w ((((((((W2.setCell ⟨w.heap.size + 1, 0, none⟩ (.int .u8 0)).setCell ⟨w.heap.size + 1, 1, none⟩ (.int .i64 0)).setCell ⟨w.heap.size + 1, 2, none⟩ (.string ⟨#[]⟩)).setCell ⟨w.heap.size + 1, 3, none⟩ (.slice none 0 0)).setCell ⟨w.heap.size + 1, 4, none⟩ (.slice none 0 0)).setCell ⟨w.heap.size + 1, 5, none⟩ (.int .u8 0)).setCell ⟨w.heap.size + 1, 6, none⟩ (.string ⟨#[]⟩)).setCell ⟨w.heap.size + 1, 7, none⟩ (.bool false))) := ((((((((hbW.setCell (p := ⟨w.heap.size + 1, 0, none⟩) (Nat.le_succ _) _).setCell (p := ⟨w.heap.size + 1, 1, none⟩) (Nat.le_succ _) _).setCell (p := ⟨w.heap.size + 1, 2, none⟩) (Nat.le_succ _) _).setCell (p := ⟨w.heap.size + 1, 3, none⟩) (Nat.le_succ _) _).setCell (p := ⟨w.heap.size + 1, 4, none⟩) (Nat.le_succ _) _).setCell (p := ⟨w.heap.size + 1, 5, none⟩) (Nat.le_succ _) _).setCell (p := ⟨w.heap.size + 1, 6, none⟩) (Nat.le_succ _) _).setCell (p := ⟨w.heap.size + 1, 7, none⟩) (Nat.le_succ _) _)
    replace hno := Lib.hid hno
    clear hfr hb2 hbW hrow2 cI
    go_wp2_with fail
    refine bodyPost_ret (results_cell_tmp (fn := Try.f9) (p := 4) (q := 5) (ty := 37) (by kernel_rfl) _ _ _ _ _ _ _ rfl hg5.out Try.underlying37 rfl val_info _ rfl) rfl ⟨.inr ⟨hno.out, ?_⟩, hbE.out⟩
    unfold zeroVal; rfl
end Go.Proofs.Ytehcbicngbibgaa
