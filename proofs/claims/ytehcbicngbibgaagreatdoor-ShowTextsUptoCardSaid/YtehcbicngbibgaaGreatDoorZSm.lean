/- Same.. says yes at one thing twice. (By XSm.gen.py.) -/
import Derived.Test.YtehcbicngbibgaaGreatDoorZDt
import Derived.StillTailTactics
namespace Go.Proofs.YtehcbicngbibgaaGreatDoor
open Go Go.RowKit

theorem drew_low (w : World) : Below w.heap.size w w.drew := (Below.refl _ _).drew
def SameV (v : Val) : Prop := ∀ (q1 q2 : VP) (w : World), VAt w w.heap.size v q1 → VAt w w.heap.size v q2 →
  Calls Tryz.prog 164 #[.agg #[.int .u8 v.kind, .int .i64 v.n, .string v.s, .slice q1.la q1.ln q1.lc, .slice q1.fa q1.fn q1.fc, .int .u8 v.elem, .string v.key, .bool v.hk], .agg #[.int .u8 v.kind, .int .i64 v.n, .string v.s, .slice q2.la q2.ln q2.lc, .slice q2.fa q2.fn q2.fc, .int .u8 v.elem, .string v.key, .bool v.hk]] w fun e w' => e = .returned (.bool true) ∧ Below w.heap.size w w'
set_option maxHeartbeats 1000000 in
set_option maxRecDepth 100000 in
theorem sameValues_any (L : List Val) (hS : ∀ v ∈ L, SameV v) (a1 a2 : Option Addr) (n1 n2 c1 c2 : Nat) (w : World) (h1 : VLs w w.heap.size L a1 n1) (h2 : VLs w w.heap.size L a2 n2) :
    Calls Tryz.prog 178 #[.slice a1 n1 c1, .slice a2 n2 c2] w fun e w' => e = .returned (.bool true) ∧ Below w.heap.size w w' := by
  have hn := h1.len.2
  obtain rfl : n1 = n2 := h1.len.1.trans h2.len.1.symm
  replace h1 := Lib.hid h1
  replace h2 := Lib.hid h2
  replace hS := Lib.hid hS
  go_enter Tryz.func178, Tryz.ntmps178
  go_wp2_with fail
  go_loopw [5] (fun i wr => ∃ k : Nat, k ≤ n1 ∧ i = .int .i64 (k : Nat) ∧ Below w.heap.size w wr) (fun i _ => n1 - (intOf i).toNat)
  case atStart => exact ⟨0, Nat.zero_le _, rfl, Below.refl _ _⟩
  case round =>
    obtain ⟨k, hk, rfl, hb⟩ := hrel
    by_cases hlt : k < n1
    · have hlt9 : Hid (k + 1 ≤ n1) := hlt
      obtain ⟨b1, o1, v, q1, rfl, hb1, hg1, hc1, hv1⟩ := VLs.elem (h1.out.kept hb) k hlt
      obtain ⟨b2, o2, v', q2, rfl, hb2, hg2, hc2, hv2⟩ := VLs.elem (h2.out.kept hb) k hlt
      obtain rfl : v = v' := Option.some.inj (hg1.symm.trans hg2)
      have x0 : wr.cell? ⟨b1, o1 + k * 8, none⟩ = some (.int .u8 v.kind) := hc1 0 (by omega)
      have x1 : wr.cell? ⟨b1, o1 + k * 8 + 1, none⟩ = some (.int .i64 v.n) := by rw [Nat.add_assoc]; exact hc1 1 (by omega)
      have x2 : wr.cell? ⟨b1, o1 + k * 8 + 2, none⟩ = some (.string v.s) := by rw [Nat.add_assoc]; exact hc1 2 (by omega)
      have x3 : wr.cell? ⟨b1, o1 + k * 8 + 3, none⟩ = some (.slice q1.la q1.ln q1.lc) := by rw [Nat.add_assoc]; exact hc1 3 (by omega)
      have x4 : wr.cell? ⟨b1, o1 + k * 8 + 4, none⟩ = some (.slice q1.fa q1.fn q1.fc) := by rw [Nat.add_assoc]; exact hc1 4 (by omega)
      have x5 : wr.cell? ⟨b1, o1 + k * 8 + 5, none⟩ = some (.int .u8 v.elem) := by rw [Nat.add_assoc]; exact hc1 5 (by omega)
      have x6 : wr.cell? ⟨b1, o1 + k * 8 + 6, none⟩ = some (.string v.key) := by rw [Nat.add_assoc]; exact hc1 6 (by omega)
      have x7 : wr.cell? ⟨b1, o1 + k * 8 + 7, none⟩ = some (.bool v.hk) := by rw [Nat.add_assoc]; exact hc1 7 (by omega)
      have y0 : wr.cell? ⟨b2, o2 + k * 8, none⟩ = some (.int .u8 v.kind) := hc2 0 (by omega)
      have y1 : wr.cell? ⟨b2, o2 + k * 8 + 1, none⟩ = some (.int .i64 v.n) := by rw [Nat.add_assoc]; exact hc2 1 (by omega)
      have y2 : wr.cell? ⟨b2, o2 + k * 8 + 2, none⟩ = some (.string v.s) := by rw [Nat.add_assoc]; exact hc2 2 (by omega)
      have y3 : wr.cell? ⟨b2, o2 + k * 8 + 3, none⟩ = some (.slice q2.la q2.ln q2.lc) := by rw [Nat.add_assoc]; exact hc2 3 (by omega)
      have y4 : wr.cell? ⟨b2, o2 + k * 8 + 4, none⟩ = some (.slice q2.fa q2.fn q2.fc) := by rw [Nat.add_assoc]; exact hc2 4 (by omega)
      have y5 : wr.cell? ⟨b2, o2 + k * 8 + 5, none⟩ = some (.int .u8 v.elem) := by rw [Nat.add_assoc]; exact hc2 5 (by omega)
      have y6 : wr.cell? ⟨b2, o2 + k * 8 + 6, none⟩ = some (.string v.key) := by rw [Nat.add_assoc]; exact hc2 6 (by omega)
      have y7 : wr.cell? ⟨b2, o2 + k * 8 + 7, none⟩ = some (.bool v.hk) := by rw [Nat.add_assoc]; exact hc2 7 (by omega)
      obtain ⟨wd, hwd⟩ : ∃ wd, wd = wr.drew := ⟨_, rfl⟩
      have hbd : Below wr.heap.size wr wd := by rw [hwd]; exact drew_low wr
      have cS := hS.out v (List.mem_of_getElem? hg1) q1 q2 wd (((hv1.kept (hbd.mono hb.size)).mono hb.size).mono hbd.size) (((hv2.kept (hbd.mono hb.size)).mono hb.size).mono hbd.size)
      have hb' := Lib.hid (hb.trans (hbd.mono hb.size))
      replace cS := Lib.hid cS
      replace hb := Lib.hid hb
      replace hwd := Lib.hid hwd
      clear hc1 hc2 hv1 hv2 hg1 hg2
      go_wp2_with fail
      go_still_tail 8, (by kernel_rfl)
      change wpList _ _ _ _ _ wr.drew
      rw [← hwd.out]
      clear x0 y0
      go_wp2_with (go_at_call 164; refine cS.out.mono ?_)
      first | rintro e w3 rfl hb3 | rintro e w3 ⟨rfl, hb3⟩
      have hb3' := Lib.hid (hb'.out.trans (hb3.mono hb'.out.size))
      clear hb3 cS
      go_wp2_with fail
      go_roundw
      case rel => exact ⟨k + 1, hlt9.out, by go_num, hb3'.out⟩
      case measure => simp [intOf]; have := hlt9.out; omega
    · obtain rfl : k = n1 := by omega
      replace hb := Lib.hid hb
      go_wp2_with fail
      go_ret
      exact ⟨rfl, hb.out⟩
def SameF (v : Fld) : Prop := ∀ (q1 q2 : VP) (w : World), FAt w w.heap.size v q1 → FAt w w.heap.size v q2 →
  Calls Tryz.prog 140 #[.agg #[.string v.name, .int .u8 v.value.kind, .int .i64 v.value.n, .string v.value.s, .slice q1.la q1.ln q1.lc, .slice q1.fa q1.fn q1.fc, .int .u8 v.value.elem, .string v.value.key, .bool v.value.hk], .agg #[.string v.name, .int .u8 v.value.kind, .int .i64 v.value.n, .string v.value.s, .slice q2.la q2.ln q2.lc, .slice q2.fa q2.fn q2.fc, .int .u8 v.value.elem, .string v.value.key, .bool v.value.hk]] w fun e w' => e = .returned (.bool true) ∧ Below w.heap.size w w'
set_option maxHeartbeats 1000000 in
set_option maxRecDepth 100000 in
theorem sameF_of (v : Fld) (hV : SameV v.value) : SameF v := by
  intro q1 q2 w h1 h2
  obtain ⟨S1, hS1⟩ : ∃ S1, S1 = w.alloc (.cells #[.string v.name, .int .u8 v.value.kind, .int .i64 v.value.n, .string v.value.s, .slice q1.la q1.ln q1.lc, .slice q1.fa q1.fn q1.fc, .int .u8 v.value.elem, .string v.value.key, .bool v.value.hk] 61) := ⟨_, rfl⟩
  have hb1 : Below w.heap.size w S1 := by rw [hS1]; exact (Below.refl _ _).alloc (Nat.le_refl _) _
  have hr1 : S1.heap[w.heap.size]? = some (.cells #[.string v.name, .int .u8 v.value.kind, .int .i64 v.value.n, .string v.value.s, .slice q1.la q1.ln q1.lc, .slice q1.fa q1.fn q1.fc, .int .u8 v.value.elem, .string v.value.key, .bool v.value.hk] 61 (0, 0)) := by rw [hS1]; exact heap_alloc_new w _
  have hz1 : S1.heap.size = w.heap.size + 1 := by rw [hS1]; simp
  obtain ⟨S, hS⟩ : ∃ S, S = S1.alloc (.cells #[.string v.name, .int .u8 v.value.kind, .int .i64 v.value.n, .string v.value.s, .slice q2.la q2.ln q2.lc, .slice q2.fa q2.fn q2.fc, .int .u8 v.value.elem, .string v.value.key, .bool v.value.hk] 61) := ⟨_, rfl⟩
  have hb2 : Below S1.heap.size S1 S := by rw [hS]; exact (Below.refl _ _).alloc (Nat.le_refl _) _
  have hr2 : S.heap[w.heap.size + 1]? = some (.cells #[.string v.name, .int .u8 v.value.kind, .int .i64 v.value.n, .string v.value.s, .slice q2.la q2.ln q2.lc, .slice q2.fa q2.fn q2.fc, .int .u8 v.value.elem, .string v.value.key, .bool v.value.hk] 61 (0, 0)) := by rw [hS, ← hz1]; exact heap_alloc_new S1 _
  have hr3 : S.heap[w.heap.size]? = some (.cells #[.string v.name, .int .u8 v.value.kind, .int .i64 v.value.n, .string v.value.s, .slice q1.la q1.ln q1.lc, .slice q1.fa q1.fn q1.fc, .int .u8 v.value.elem, .string v.value.key, .bool v.value.hk] 61 (0, 0)) := (hb2.block _ (by omega)).trans hr1
  have hbS : Below w.heap.size w S := hb1.trans (hb2.mono hb1.size)
  have hzS : S.heap.size = w.heap.size + 2 := by rw [hS]; simp [hz1]
  have x0 : S.cell? ⟨w.heap.size, 0, none⟩ = some (.string v.name) := by simp [World.cell?, hr3]
  have x1 : S.cell? ⟨w.heap.size, 1, none⟩ = some (.int .u8 v.value.kind) := by simp [World.cell?, hr3]
  have x2 : S.cell? ⟨w.heap.size, 2, none⟩ = some (.int .i64 v.value.n) := by simp [World.cell?, hr3]
  have x3 : S.cell? ⟨w.heap.size, 3, none⟩ = some (.string v.value.s) := by simp [World.cell?, hr3]
  have x4 : S.cell? ⟨w.heap.size, 4, none⟩ = some (.slice q1.la q1.ln q1.lc) := by simp [World.cell?, hr3]
  have x5 : S.cell? ⟨w.heap.size, 5, none⟩ = some (.slice q1.fa q1.fn q1.fc) := by simp [World.cell?, hr3]
  have x6 : S.cell? ⟨w.heap.size, 6, none⟩ = some (.int .u8 v.value.elem) := by simp [World.cell?, hr3]
  have x7 : S.cell? ⟨w.heap.size, 7, none⟩ = some (.string v.value.key) := by simp [World.cell?, hr3]
  have x8 : S.cell? ⟨w.heap.size, 8, none⟩ = some (.bool v.value.hk) := by simp [World.cell?, hr3]
  have y0 : S.cell? ⟨w.heap.size + 1, 0, none⟩ = some (.string v.name) := by simp [World.cell?, hr2]
  have y1 : S.cell? ⟨w.heap.size + 1, 1, none⟩ = some (.int .u8 v.value.kind) := by simp [World.cell?, hr2]
  have y2 : S.cell? ⟨w.heap.size + 1, 2, none⟩ = some (.int .i64 v.value.n) := by simp [World.cell?, hr2]
  have y3 : S.cell? ⟨w.heap.size + 1, 3, none⟩ = some (.string v.value.s) := by simp [World.cell?, hr2]
  have y4 : S.cell? ⟨w.heap.size + 1, 4, none⟩ = some (.slice q2.la q2.ln q2.lc) := by simp [World.cell?, hr2]
  have y5 : S.cell? ⟨w.heap.size + 1, 5, none⟩ = some (.slice q2.fa q2.fn q2.fc) := by simp [World.cell?, hr2]
  have y6 : S.cell? ⟨w.heap.size + 1, 6, none⟩ = some (.int .u8 v.value.elem) := by simp [World.cell?, hr2]
  have y7 : S.cell? ⟨w.heap.size + 1, 7, none⟩ = some (.string v.value.key) := by simp [World.cell?, hr2]
  have y8 : S.cell? ⟨w.heap.size + 1, 8, none⟩ = some (.bool v.value.hk) := by simp [World.cell?, hr2]
  have hW : Hid (S = _) := hS.trans (by rw [hS1])
  replace hr2 := Lib.hid hr2
  replace hr3 := Lib.hid hr3
  clear hS hS1 hb1 hb2 hr1 hz1
  have cV := hV q1 q2 S ((h1.val.kept hbS).mono hbS.size) ((h2.val.kept hbS).mono hbS.size)
  replace hbS := Lib.hid hbS
  replace cV := Lib.hid cV
  have ht : (v.name.toList == v.name.toList) = true := by simp
  clear h1 h2
  go_enter Tryz.func140, Tryz.ntmps140
  go_wp2_with (first | (rw [← hW.out]) | (go_at_call 164; refine cV.out.mono ?_))
  first | rintro e w3 rfl hb3 | rintro e w3 ⟨rfl, hb3⟩
  have hb3' := Lib.hid (hbS.out.trans (hb3.mono hbS.out.size))
  clear hb3 cV
  go_wp2_with fail
  go_ret
  exact ⟨rfl, hb3'.out⟩
set_option maxHeartbeats 1000000 in
set_option maxRecDepth 100000 in
theorem sameFields_any (L : List Fld) (hS : ∀ v ∈ L, SameF v) (a1 a2 : Option Addr) (n1 n2 c1 c2 : Nat) (w : World) (h1 : FLs w w.heap.size L a1 n1) (h2 : FLs w w.heap.size L a2 n2) :
    Calls Tryz.prog 93 #[.slice a1 n1 c1, .slice a2 n2 c2] w fun e w' => e = .returned (.bool true) ∧ Below w.heap.size w w' := by
  have hn := h1.len.2
  obtain rfl : n1 = n2 := h1.len.1.trans h2.len.1.symm
  replace h1 := Lib.hid h1
  replace h2 := Lib.hid h2
  replace hS := Lib.hid hS
  go_enter Tryz.func93, Tryz.ntmps93
  go_wp2_with fail
  go_loopw [5] (fun i wr => ∃ k : Nat, k ≤ n1 ∧ i = .int .i64 (k : Nat) ∧ Below w.heap.size w wr) (fun i _ => n1 - (intOf i).toNat)
  case atStart => exact ⟨0, Nat.zero_le _, rfl, Below.refl _ _⟩
  case round =>
    obtain ⟨k, hk, rfl, hb⟩ := hrel
    by_cases hlt : k < n1
    · have hlt9 : Hid (k + 1 ≤ n1) := hlt
      obtain ⟨b1, o1, v, q1, rfl, hb1, hg1, hc1, hv1⟩ := FLs.elem (h1.out.kept hb) k hlt
      obtain ⟨b2, o2, v', q2, rfl, hb2, hg2, hc2, hv2⟩ := FLs.elem (h2.out.kept hb) k hlt
      obtain rfl : v = v' := Option.some.inj (hg1.symm.trans hg2)
      have x0 : wr.cell? ⟨b1, o1 + k * 9, none⟩ = some (.string v.name) := hc1 0 (by omega)
      have x1 : wr.cell? ⟨b1, o1 + k * 9 + 1, none⟩ = some (.int .u8 v.value.kind) := by rw [Nat.add_assoc]; exact hc1 1 (by omega)
      have x2 : wr.cell? ⟨b1, o1 + k * 9 + 2, none⟩ = some (.int .i64 v.value.n) := by rw [Nat.add_assoc]; exact hc1 2 (by omega)
      have x3 : wr.cell? ⟨b1, o1 + k * 9 + 3, none⟩ = some (.string v.value.s) := by rw [Nat.add_assoc]; exact hc1 3 (by omega)
      have x4 : wr.cell? ⟨b1, o1 + k * 9 + 4, none⟩ = some (.slice q1.la q1.ln q1.lc) := by rw [Nat.add_assoc]; exact hc1 4 (by omega)
      have x5 : wr.cell? ⟨b1, o1 + k * 9 + 5, none⟩ = some (.slice q1.fa q1.fn q1.fc) := by rw [Nat.add_assoc]; exact hc1 5 (by omega)
      have x6 : wr.cell? ⟨b1, o1 + k * 9 + 6, none⟩ = some (.int .u8 v.value.elem) := by rw [Nat.add_assoc]; exact hc1 6 (by omega)
      have x7 : wr.cell? ⟨b1, o1 + k * 9 + 7, none⟩ = some (.string v.value.key) := by rw [Nat.add_assoc]; exact hc1 7 (by omega)
      have x8 : wr.cell? ⟨b1, o1 + k * 9 + 8, none⟩ = some (.bool v.value.hk) := by rw [Nat.add_assoc]; exact hc1 8 (by omega)
      have y0 : wr.cell? ⟨b2, o2 + k * 9, none⟩ = some (.string v.name) := hc2 0 (by omega)
      have y1 : wr.cell? ⟨b2, o2 + k * 9 + 1, none⟩ = some (.int .u8 v.value.kind) := by rw [Nat.add_assoc]; exact hc2 1 (by omega)
      have y2 : wr.cell? ⟨b2, o2 + k * 9 + 2, none⟩ = some (.int .i64 v.value.n) := by rw [Nat.add_assoc]; exact hc2 2 (by omega)
      have y3 : wr.cell? ⟨b2, o2 + k * 9 + 3, none⟩ = some (.string v.value.s) := by rw [Nat.add_assoc]; exact hc2 3 (by omega)
      have y4 : wr.cell? ⟨b2, o2 + k * 9 + 4, none⟩ = some (.slice q2.la q2.ln q2.lc) := by rw [Nat.add_assoc]; exact hc2 4 (by omega)
      have y5 : wr.cell? ⟨b2, o2 + k * 9 + 5, none⟩ = some (.slice q2.fa q2.fn q2.fc) := by rw [Nat.add_assoc]; exact hc2 5 (by omega)
      have y6 : wr.cell? ⟨b2, o2 + k * 9 + 6, none⟩ = some (.int .u8 v.value.elem) := by rw [Nat.add_assoc]; exact hc2 6 (by omega)
      have y7 : wr.cell? ⟨b2, o2 + k * 9 + 7, none⟩ = some (.string v.value.key) := by rw [Nat.add_assoc]; exact hc2 7 (by omega)
      have y8 : wr.cell? ⟨b2, o2 + k * 9 + 8, none⟩ = some (.bool v.value.hk) := by rw [Nat.add_assoc]; exact hc2 8 (by omega)
      obtain ⟨wd, hwd⟩ : ∃ wd, wd = wr.drew := ⟨_, rfl⟩
      have hbd : Below wr.heap.size wr wd := by rw [hwd]; exact drew_low wr
      have cS := hS.out v (List.mem_of_getElem? hg1) q1 q2 wd (((hv1.kept (hbd.mono hb.size)).mono hb.size).mono hbd.size) (((hv2.kept (hbd.mono hb.size)).mono hb.size).mono hbd.size)
      have hb' := Lib.hid (hb.trans (hbd.mono hb.size))
      replace cS := Lib.hid cS
      replace hb := Lib.hid hb
      replace hwd := Lib.hid hwd
      clear hc1 hc2 hv1 hv2 hg1 hg2
      go_wp2_with fail
      go_still_tail 8, (by kernel_rfl)
      change wpList _ _ _ _ _ wr.drew
      rw [← hwd.out]
      clear x0 y0
      go_wp2_with (go_at_call 140; refine cS.out.mono ?_)
      first | rintro e w3 rfl hb3 | rintro e w3 ⟨rfl, hb3⟩
      have hb3' := Lib.hid (hb'.out.trans (hb3.mono hb'.out.size))
      clear hb3 cS
      go_wp2_with fail
      go_roundw
      case rel => exact ⟨k + 1, hlt9.out, by go_num, hb3'.out⟩
      case measure => simp [intOf]; have := hlt9.out; omega
    · obtain rfl : k = n1 := by omega
      replace hb := Lib.hid hb
      go_wp2_with fail
      go_ret
      exact ⟨rfl, hb.out⟩
set_option maxHeartbeats 2000000 in
set_option maxRecDepth 100000 in
theorem sameV_of (v : Val) (hL : ∀ x ∈ v.L, SameV x) (hF : ∀ f ∈ v.F, SameF f) : SameV v := by
  intro q1 q2 w h1 h2
  obtain ⟨S1, hS1⟩ : ∃ S1, S1 = w.alloc (.cells #[.int .u8 v.kind, .int .i64 v.n, .string v.s, .slice q1.la q1.ln q1.lc, .slice q1.fa q1.fn q1.fc, .int .u8 v.elem, .string v.key, .bool v.hk] 59) := ⟨_, rfl⟩
  have hb1 : Below w.heap.size w S1 := by rw [hS1]; exact (Below.refl _ _).alloc (Nat.le_refl _) _
  have hr1 : S1.heap[w.heap.size]? = some (.cells #[.int .u8 v.kind, .int .i64 v.n, .string v.s, .slice q1.la q1.ln q1.lc, .slice q1.fa q1.fn q1.fc, .int .u8 v.elem, .string v.key, .bool v.hk] 59 (0, 0)) := by rw [hS1]; exact heap_alloc_new w _
  have hz1 : S1.heap.size = w.heap.size + 1 := by rw [hS1]; simp
  obtain ⟨S, hS⟩ : ∃ S, S = S1.alloc (.cells #[.int .u8 v.kind, .int .i64 v.n, .string v.s, .slice q2.la q2.ln q2.lc, .slice q2.fa q2.fn q2.fc, .int .u8 v.elem, .string v.key, .bool v.hk] 59) := ⟨_, rfl⟩
  have hb2 : Below S1.heap.size S1 S := by rw [hS]; exact (Below.refl _ _).alloc (Nat.le_refl _) _
  have hr2 : S.heap[w.heap.size + 1]? = some (.cells #[.int .u8 v.kind, .int .i64 v.n, .string v.s, .slice q2.la q2.ln q2.lc, .slice q2.fa q2.fn q2.fc, .int .u8 v.elem, .string v.key, .bool v.hk] 59 (0, 0)) := by rw [hS, ← hz1]; exact heap_alloc_new S1 _
  have hr3 : S.heap[w.heap.size]? = some (.cells #[.int .u8 v.kind, .int .i64 v.n, .string v.s, .slice q1.la q1.ln q1.lc, .slice q1.fa q1.fn q1.fc, .int .u8 v.elem, .string v.key, .bool v.hk] 59 (0, 0)) := (hb2.block _ (by omega)).trans hr1
  have hbS : Below w.heap.size w S := hb1.trans (hb2.mono hb1.size)
  have hzS : S.heap.size = w.heap.size + 2 := by rw [hS]; simp [hz1]
  have x0 : S.cell? ⟨w.heap.size, 0, none⟩ = some (.int .u8 v.kind) := by simp [World.cell?, hr3]
  have x1 : S.cell? ⟨w.heap.size, 1, none⟩ = some (.int .i64 v.n) := by simp [World.cell?, hr3]
  have x2 : S.cell? ⟨w.heap.size, 2, none⟩ = some (.string v.s) := by simp [World.cell?, hr3]
  have x3 : S.cell? ⟨w.heap.size, 3, none⟩ = some (.slice q1.la q1.ln q1.lc) := by simp [World.cell?, hr3]
  have x4 : S.cell? ⟨w.heap.size, 4, none⟩ = some (.slice q1.fa q1.fn q1.fc) := by simp [World.cell?, hr3]
  have x5 : S.cell? ⟨w.heap.size, 5, none⟩ = some (.int .u8 v.elem) := by simp [World.cell?, hr3]
  have x6 : S.cell? ⟨w.heap.size, 6, none⟩ = some (.string v.key) := by simp [World.cell?, hr3]
  have x7 : S.cell? ⟨w.heap.size, 7, none⟩ = some (.bool v.hk) := by simp [World.cell?, hr3]
  have y0 : S.cell? ⟨w.heap.size + 1, 0, none⟩ = some (.int .u8 v.kind) := by simp [World.cell?, hr2]
  have y1 : S.cell? ⟨w.heap.size + 1, 1, none⟩ = some (.int .i64 v.n) := by simp [World.cell?, hr2]
  have y2 : S.cell? ⟨w.heap.size + 1, 2, none⟩ = some (.string v.s) := by simp [World.cell?, hr2]
  have y3 : S.cell? ⟨w.heap.size + 1, 3, none⟩ = some (.slice q2.la q2.ln q2.lc) := by simp [World.cell?, hr2]
  have y4 : S.cell? ⟨w.heap.size + 1, 4, none⟩ = some (.slice q2.fa q2.fn q2.fc) := by simp [World.cell?, hr2]
  have y5 : S.cell? ⟨w.heap.size + 1, 5, none⟩ = some (.int .u8 v.elem) := by simp [World.cell?, hr2]
  have y6 : S.cell? ⟨w.heap.size + 1, 6, none⟩ = some (.string v.key) := by simp [World.cell?, hr2]
  have y7 : S.cell? ⟨w.heap.size + 1, 7, none⟩ = some (.bool v.hk) := by simp [World.cell?, hr2]
  have hW : Hid (S = _) := hS.trans (by rw [hS1])
  replace hr2 := Lib.hid hr2
  replace hr3 := Lib.hid hr3
  clear hS hS1 hb1 hb2 hr1 hz1
  have cL := sameValues_any v.L hL q1.la q2.la q1.ln q2.ln q1.lc q2.lc S ((h1.L.kept hbS).mono hbS.size) ((h2.L.kept hbS).mono hbS.size)
  have cF : Hid (∀ W, Below S.heap.size S W → Calls Tryz.prog 93 #[.slice q1.fa q1.fn q1.fc, .slice q2.fa q2.fn q2.fc] W fun e w' => e = .returned (.bool true) ∧ Below W.heap.size W w') := fun W hW =>
    sameFields_any v.F hF q1.fa q2.fa q1.fn q2.fn q1.fc q2.fc W ((h1.F.kept (hbS.trans (hW.mono hbS.size))).mono (Nat.le_trans hbS.size hW.size)) ((h2.F.kept (hbS.trans (hW.mono hbS.size))).mono (Nat.le_trans hbS.size hW.size))
  replace hbS := Lib.hid hbS
  replace cL := Lib.hid cL
  have ht : (v.s.toList == v.s.toList) = true := by simp
  have ht2 : (v.key.toList == v.key.toList) = true := by simp
  clear h1 h2 hL hF
  go_enter Tryz.func164, Tryz.ntmps164
  go_wp2_with (first | (rw [← hW.out]) | (go_at_call 178; refine cL.out.mono ?_))
  first | rintro e w3 rfl hb3 | rintro e w3 ⟨rfl, hb3⟩
  clear cL
  have cF3 := Lib.hid (cF.out w3 hb3)
  have hb3' := Lib.hid (hbS.out.trans (hb3.mono hbS.out.size))
  have x0' := (hb3.cell (p := ⟨w.heap.size, 0, none⟩) (by show w.heap.size < _; omega)).trans x0
  have x1' := (hb3.cell (p := ⟨w.heap.size, 1, none⟩) (by show w.heap.size < _; omega)).trans x1
  have x2' := (hb3.cell (p := ⟨w.heap.size, 2, none⟩) (by show w.heap.size < _; omega)).trans x2
  have x3' := (hb3.cell (p := ⟨w.heap.size, 3, none⟩) (by show w.heap.size < _; omega)).trans x3
  have x4' := (hb3.cell (p := ⟨w.heap.size, 4, none⟩) (by show w.heap.size < _; omega)).trans x4
  have x5' := (hb3.cell (p := ⟨w.heap.size, 5, none⟩) (by show w.heap.size < _; omega)).trans x5
  have x6' := (hb3.cell (p := ⟨w.heap.size, 6, none⟩) (by show w.heap.size < _; omega)).trans x6
  have x7' := (hb3.cell (p := ⟨w.heap.size, 7, none⟩) (by show w.heap.size < _; omega)).trans x7
  have y0' := (hb3.cell (p := ⟨w.heap.size + 1, 0, none⟩) (by show w.heap.size + 1 < _; omega)).trans y0
  have y1' := (hb3.cell (p := ⟨w.heap.size + 1, 1, none⟩) (by show w.heap.size + 1 < _; omega)).trans y1
  have y2' := (hb3.cell (p := ⟨w.heap.size + 1, 2, none⟩) (by show w.heap.size + 1 < _; omega)).trans y2
  have y3' := (hb3.cell (p := ⟨w.heap.size + 1, 3, none⟩) (by show w.heap.size + 1 < _; omega)).trans y3
  have y4' := (hb3.cell (p := ⟨w.heap.size + 1, 4, none⟩) (by show w.heap.size + 1 < _; omega)).trans y4
  have y5' := (hb3.cell (p := ⟨w.heap.size + 1, 5, none⟩) (by show w.heap.size + 1 < _; omega)).trans y5
  have y6' := (hb3.cell (p := ⟨w.heap.size + 1, 6, none⟩) (by show w.heap.size + 1 < _; omega)).trans y6
  have y7' := (hb3.cell (p := ⟨w.heap.size + 1, 7, none⟩) (by show w.heap.size + 1 < _; omega)).trans y7
  clear x0 x1 x2 x3 x4 x5 x6 x7 y0 y1 y2 y3 y4 y5 y6 y7
  replace hb3 := Lib.hid hb3
  go_wp2_with (go_at_call 93; refine cF3.out.mono ?_)
  first | rintro e w4 rfl hb4 | rintro e w4 ⟨rfl, hb4⟩
  have hz3 := hb3.out.size
  have x5 := (hb4.cell (p := ⟨w.heap.size, 5, none⟩) (by show w.heap.size < _; omega)).trans x5'
  have x6 := (hb4.cell (p := ⟨w.heap.size, 6, none⟩) (by show w.heap.size < _; omega)).trans x6'
  have x7 := (hb4.cell (p := ⟨w.heap.size, 7, none⟩) (by show w.heap.size < _; omega)).trans x7'
  have y5 := (hb4.cell (p := ⟨w.heap.size + 1, 5, none⟩) (by show w.heap.size + 1 < _; omega)).trans y5'
  have y6 := (hb4.cell (p := ⟨w.heap.size + 1, 6, none⟩) (by show w.heap.size + 1 < _; omega)).trans y6'
  have y7 := (hb4.cell (p := ⟨w.heap.size + 1, 7, none⟩) (by show w.heap.size + 1 < _; omega)).trans y7'
  have hb4' := Lib.hid (hb3'.out.trans (hb4.mono hb3'.out.size))
  clear hb4 cF3 cF x0' x1' x2' x3' x4' x5' x6' x7' y0' y1' y2' y3' y4' y5' y6' y7'
  go_wp2_with fail
  go_ret
  exact ⟨rfl, hb4'.out⟩
theorem sameV_any (v : Val) : SameV v := Val.ind (fun _ _ _ _ _ _ _ _ hL hF => sameV_of _ hL (fun f hf => sameF_of f (hF f hf))) v
theorem sameF_any (v : Fld) : SameF v := sameF_of v (sameV_any _)
def SameN (v : Nd) : Prop := ∀ (q1 q2 : NP) (w : World), NAt w w.heap.size v q1 → NAt w w.heap.size v q2 →
  Calls Tryz.prog 25 #[.agg #[.int .i64 v.id, .string v.tag, .string v.text, .slice q1.aa q1.an q1.ac, .slice q1.ka q1.kn q1.kc], .agg #[.int .i64 v.id, .string v.tag, .string v.text, .slice q2.aa q2.an q2.ac, .slice q2.ka q2.kn q2.kc]] w fun e w' => e = .returned (.bool true) ∧ Below w.heap.size w w'
set_option maxHeartbeats 1000000 in
set_option maxRecDepth 100000 in
theorem sameNodes_any (L : List Nd) (hS : ∀ v ∈ L, SameN v) (a1 a2 : Option Addr) (n1 n2 c1 c2 : Nat) (w : World) (h1 : NLs w w.heap.size L a1 n1) (h2 : NLs w w.heap.size L a2 n2) :
    Calls Tryz.prog 11 #[.slice a1 n1 c1, .slice a2 n2 c2] w fun e w' => e = .returned (.bool true) ∧ Below w.heap.size w w' := by
  have hn := h1.len.2
  obtain rfl : n1 = n2 := h1.len.1.trans h2.len.1.symm
  replace h1 := Lib.hid h1
  replace h2 := Lib.hid h2
  replace hS := Lib.hid hS
  go_enter Tryz.func11, Tryz.ntmps11
  go_wp2_with fail
  go_loopw [5] (fun i wr => ∃ k : Nat, k ≤ n1 ∧ i = .int .i64 (k : Nat) ∧ Below w.heap.size w wr) (fun i _ => n1 - (intOf i).toNat)
  case atStart => exact ⟨0, Nat.zero_le _, rfl, Below.refl _ _⟩
  case round =>
    obtain ⟨k, hk, rfl, hb⟩ := hrel
    by_cases hlt : k < n1
    · have hlt9 : Hid (k + 1 ≤ n1) := hlt
      obtain ⟨b1, o1, v, q1, rfl, hb1, hg1, hc1, hv1⟩ := NLs.elem (h1.out.kept hb) k hlt
      obtain ⟨b2, o2, v', q2, rfl, hb2, hg2, hc2, hv2⟩ := NLs.elem (h2.out.kept hb) k hlt
      obtain rfl : v = v' := Option.some.inj (hg1.symm.trans hg2)
      have x0 : wr.cell? ⟨b1, o1 + k * 5, none⟩ = some (.int .i64 v.id) := hc1 0 (by omega)
      have x1 : wr.cell? ⟨b1, o1 + k * 5 + 1, none⟩ = some (.string v.tag) := by rw [Nat.add_assoc]; exact hc1 1 (by omega)
      have x2 : wr.cell? ⟨b1, o1 + k * 5 + 2, none⟩ = some (.string v.text) := by rw [Nat.add_assoc]; exact hc1 2 (by omega)
      have x3 : wr.cell? ⟨b1, o1 + k * 5 + 3, none⟩ = some (.slice q1.aa q1.an q1.ac) := by rw [Nat.add_assoc]; exact hc1 3 (by omega)
      have x4 : wr.cell? ⟨b1, o1 + k * 5 + 4, none⟩ = some (.slice q1.ka q1.kn q1.kc) := by rw [Nat.add_assoc]; exact hc1 4 (by omega)
      have y0 : wr.cell? ⟨b2, o2 + k * 5, none⟩ = some (.int .i64 v.id) := hc2 0 (by omega)
      have y1 : wr.cell? ⟨b2, o2 + k * 5 + 1, none⟩ = some (.string v.tag) := by rw [Nat.add_assoc]; exact hc2 1 (by omega)
      have y2 : wr.cell? ⟨b2, o2 + k * 5 + 2, none⟩ = some (.string v.text) := by rw [Nat.add_assoc]; exact hc2 2 (by omega)
      have y3 : wr.cell? ⟨b2, o2 + k * 5 + 3, none⟩ = some (.slice q2.aa q2.an q2.ac) := by rw [Nat.add_assoc]; exact hc2 3 (by omega)
      have y4 : wr.cell? ⟨b2, o2 + k * 5 + 4, none⟩ = some (.slice q2.ka q2.kn q2.kc) := by rw [Nat.add_assoc]; exact hc2 4 (by omega)
      obtain ⟨wd, hwd⟩ : ∃ wd, wd = wr.drew := ⟨_, rfl⟩
      have hbd : Below wr.heap.size wr wd := by rw [hwd]; exact drew_low wr
      have cS := hS.out v (List.mem_of_getElem? hg1) q1 q2 wd (((hv1.kept (hbd.mono hb.size)).mono hb.size).mono hbd.size) (((hv2.kept (hbd.mono hb.size)).mono hb.size).mono hbd.size)
      have hb' := Lib.hid (hb.trans (hbd.mono hb.size))
      replace cS := Lib.hid cS
      replace hb := Lib.hid hb
      replace hwd := Lib.hid hwd
      clear hc1 hc2 hv1 hv2 hg1 hg2
      go_wp2_with fail
      go_still_tail 8, (by kernel_rfl)
      change wpList _ _ _ _ _ wr.drew
      rw [← hwd.out]
      clear x0 y0
      go_wp2_with (go_at_call 25; refine cS.out.mono ?_)
      first | rintro e w3 rfl hb3 | rintro e w3 ⟨rfl, hb3⟩
      have hb3' := Lib.hid (hb'.out.trans (hb3.mono hb'.out.size))
      clear hb3 cS
      go_wp2_with fail
      go_roundw
      case rel => exact ⟨k + 1, hlt9.out, by go_num, hb3'.out⟩
      case measure => simp [intOf]; have := hlt9.out; omega
    · obtain rfl : k = n1 := by omega
      replace hb := Lib.hid hb
      go_wp2_with fail
      go_ret
      exact ⟨rfl, hb.out⟩
set_option maxHeartbeats 2000000 in
set_option maxRecDepth 100000 in
theorem sameN_of (v : Nd) (hK : ∀ x ∈ v.kids, SameN x) : SameN v := by
  intro q1 q2 w h1 h2
  obtain ⟨S1, hS1⟩ : ∃ S1, S1 = w.alloc (.cells #[.int .i64 v.id, .string v.tag, .string v.text, .slice q1.aa q1.an q1.ac, .slice q1.ka q1.kn q1.kc] 53) := ⟨_, rfl⟩
  have hb1 : Below w.heap.size w S1 := by rw [hS1]; exact (Below.refl _ _).alloc (Nat.le_refl _) _
  have hr1 : S1.heap[w.heap.size]? = some (.cells #[.int .i64 v.id, .string v.tag, .string v.text, .slice q1.aa q1.an q1.ac, .slice q1.ka q1.kn q1.kc] 53 (0, 0)) := by rw [hS1]; exact heap_alloc_new w _
  have hz1 : S1.heap.size = w.heap.size + 1 := by rw [hS1]; simp
  obtain ⟨S, hS⟩ : ∃ S, S = S1.alloc (.cells #[.int .i64 v.id, .string v.tag, .string v.text, .slice q2.aa q2.an q2.ac, .slice q2.ka q2.kn q2.kc] 53) := ⟨_, rfl⟩
  have hb2 : Below S1.heap.size S1 S := by rw [hS]; exact (Below.refl _ _).alloc (Nat.le_refl _) _
  have hr2 : S.heap[w.heap.size + 1]? = some (.cells #[.int .i64 v.id, .string v.tag, .string v.text, .slice q2.aa q2.an q2.ac, .slice q2.ka q2.kn q2.kc] 53 (0, 0)) := by rw [hS, ← hz1]; exact heap_alloc_new S1 _
  have hr3 : S.heap[w.heap.size]? = some (.cells #[.int .i64 v.id, .string v.tag, .string v.text, .slice q1.aa q1.an q1.ac, .slice q1.ka q1.kn q1.kc] 53 (0, 0)) := (hb2.block _ (by omega)).trans hr1
  have hbS : Below w.heap.size w S := hb1.trans (hb2.mono hb1.size)
  have hzS : S.heap.size = w.heap.size + 2 := by rw [hS]; simp [hz1]
  have x0 : S.cell? ⟨w.heap.size, 0, none⟩ = some (.int .i64 v.id) := by simp [World.cell?, hr3]
  have x1 : S.cell? ⟨w.heap.size, 1, none⟩ = some (.string v.tag) := by simp [World.cell?, hr3]
  have x2 : S.cell? ⟨w.heap.size, 2, none⟩ = some (.string v.text) := by simp [World.cell?, hr3]
  have x3 : S.cell? ⟨w.heap.size, 3, none⟩ = some (.slice q1.aa q1.an q1.ac) := by simp [World.cell?, hr3]
  have x4 : S.cell? ⟨w.heap.size, 4, none⟩ = some (.slice q1.ka q1.kn q1.kc) := by simp [World.cell?, hr3]
  have y0 : S.cell? ⟨w.heap.size + 1, 0, none⟩ = some (.int .i64 v.id) := by simp [World.cell?, hr2]
  have y1 : S.cell? ⟨w.heap.size + 1, 1, none⟩ = some (.string v.tag) := by simp [World.cell?, hr2]
  have y2 : S.cell? ⟨w.heap.size + 1, 2, none⟩ = some (.string v.text) := by simp [World.cell?, hr2]
  have y3 : S.cell? ⟨w.heap.size + 1, 3, none⟩ = some (.slice q2.aa q2.an q2.ac) := by simp [World.cell?, hr2]
  have y4 : S.cell? ⟨w.heap.size + 1, 4, none⟩ = some (.slice q2.ka q2.kn q2.kc) := by simp [World.cell?, hr2]
  have hW : Hid (S = _) := hS.trans (by rw [hS1])
  replace hr2 := Lib.hid hr2
  replace hr3 := Lib.hid hr3
  clear hS hS1 hb1 hb2 hr1 hz1
  have cA := sameFields_any v.attrs (fun f _ => sameF_any f) q1.aa q2.aa q1.an q2.an q1.ac q2.ac S ((h1.A.kept hbS).mono hbS.size) ((h2.A.kept hbS).mono hbS.size)
  have cK : Hid (∀ W, Below S.heap.size S W → Calls Tryz.prog 11 #[.slice q1.ka q1.kn q1.kc, .slice q2.ka q2.kn q2.kc] W fun e w' => e = .returned (.bool true) ∧ Below W.heap.size W w') := fun W hW =>
    sameNodes_any v.kids hK q1.ka q2.ka q1.kn q2.kn q1.kc q2.kc W ((h1.K.kept (hbS.trans (hW.mono hbS.size))).mono (Nat.le_trans hbS.size hW.size)) ((h2.K.kept (hbS.trans (hW.mono hbS.size))).mono (Nat.le_trans hbS.size hW.size))
  replace hbS := Lib.hid hbS
  replace cA := Lib.hid cA
  have ht : (v.tag.toList == v.tag.toList) = true := by simp
  have ht2 : (v.text.toList == v.text.toList) = true := by simp
  clear h1 h2 hK
  go_enter Tryz.func25, Tryz.ntmps25
  go_wp2_with (first | (rw [← hW.out]) | (go_at_call 93; refine cA.out.mono ?_))
  first | rintro e w3 rfl hb3 | rintro e w3 ⟨rfl, hb3⟩
  clear cA
  have cK3 := Lib.hid (cK.out w3 hb3)
  have hb3' := Lib.hid (hbS.out.trans (hb3.mono hbS.out.size))
  have x0' := (hb3.cell (p := ⟨w.heap.size, 0, none⟩) (by show w.heap.size < _; omega)).trans x0
  have x1' := (hb3.cell (p := ⟨w.heap.size, 1, none⟩) (by show w.heap.size < _; omega)).trans x1
  have x2' := (hb3.cell (p := ⟨w.heap.size, 2, none⟩) (by show w.heap.size < _; omega)).trans x2
  have x3' := (hb3.cell (p := ⟨w.heap.size, 3, none⟩) (by show w.heap.size < _; omega)).trans x3
  have x4' := (hb3.cell (p := ⟨w.heap.size, 4, none⟩) (by show w.heap.size < _; omega)).trans x4
  have y0' := (hb3.cell (p := ⟨w.heap.size + 1, 0, none⟩) (by show w.heap.size + 1 < _; omega)).trans y0
  have y1' := (hb3.cell (p := ⟨w.heap.size + 1, 1, none⟩) (by show w.heap.size + 1 < _; omega)).trans y1
  have y2' := (hb3.cell (p := ⟨w.heap.size + 1, 2, none⟩) (by show w.heap.size + 1 < _; omega)).trans y2
  have y3' := (hb3.cell (p := ⟨w.heap.size + 1, 3, none⟩) (by show w.heap.size + 1 < _; omega)).trans y3
  have y4' := (hb3.cell (p := ⟨w.heap.size + 1, 4, none⟩) (by show w.heap.size + 1 < _; omega)).trans y4
  clear x0 x1 x2 x3 x4 y0 y1 y2 y3 y4
  replace hb3 := Lib.hid hb3
  go_wp2_with (go_at_call 11; refine cK3.out.mono ?_)
  first | rintro e w4 rfl hb4 | rintro e w4 ⟨rfl, hb4⟩
  have hb4' := Lib.hid (hb3'.out.trans (hb4.mono hb3'.out.size))
  clear hb4 cK3 cK
  go_wp2_with fail
  go_ret
  exact ⟨rfl, hb4'.out⟩
theorem sameN_any (v : Nd) : SameN v := Nd.ind (fun _ _ _ _ _ hL => sameN_of _ hL) v
end Go.Proofs.YtehcbicngbibgaaGreatDoor
