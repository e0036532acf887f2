/- ..Size tells how much a tree has in it, if that is not too much. (By XSz.gen.py.) -/
import Derived.Test.YtehcbicngbibgaaGreatDoorZSm
namespace Go.Proofs.YtehcbicngbibgaaGreatDoor
open Go Go.RowKit

mutual
def T.wt : T → Nat
  | .int _ _ => 0
  | .txt s => s.size
  | .yes _ => 0
  | .obj ps => 1 + wts ps
  | .lst _ _ es => es.length + wts es
def wts : List T → Nat
  | [] => 0
  | t :: r => t.wt + wts r
end
theorem wts_append (l r : List T) : wts (l ++ r) = wts l + wts r := by
  induction l with
  | nil => simp [wts]
  | cons t l ih => simp only [List.cons_append, wts, ih]; omega
theorem wts_take {l : List T} {k : Nat} {t : T} (h : l[k]? = some t) : wts (l.take (k + 1)) = wts (l.take k) + t.wt := by
  rw [List.take_add_one, h, wts_append]; simp [wts]
theorem wts_take_le (l : List T) (k : Nat) : wts (l.take k) ≤ wts l := by
  have : wts l = wts (l.take k) + wts (l.drop k) := by rw [← wts_append, List.take_append_drop]
  omega
theorem wts_mem {l : List T} {t : T} (h : t ∈ l) : t.wt ≤ wts l := by
  induction l with
  | nil => cases h
  | cons a l ih =>
    simp only [wts]
    rcases List.mem_cons.1 h with rfl | h
    · omega
    · have := ih h; omega
theorem wt_val (v : Val) : v.tr.wt = 1 + v.s.size + v.key.size + (v.L.length + wts (v.L.map Val.tr)) + (v.F.length + wts (v.F.map Fld.tr)) := by
  rw [Val.tr_eq]; simp only [T.wt, wts, List.length_map]; omega
theorem wt_fld (f : Fld) : f.tr.wt = 1 + f.name.size + f.value.tr.wt := by
  rw [Fld.tr_eq]; simp only [T.wt, wts]; omega
theorem wt_nd (v : Nd) : v.tr.wt = 1 + v.tag.size + v.text.size + (v.attrs.length + wts (v.attrs.map Fld.tr)) + (v.kids.length + wts (v.kids.map Nd.tr)) := by
  rw [Nd.tr_eq]; simp only [T.wt, wts, List.length_map]; omega

def SizeV (v : Val) : Prop := v.tr.wt ≤ 1048576 → ∀ (q : VP) (w : World), VAt w w.heap.size v q →
  Calls Tryz.prog 145 #[.agg #[.int .u8 v.kind, .int .i64 v.n, .string v.s, .slice q.la q.ln q.lc, .slice q.fa q.fn q.fc, .int .u8 v.elem, .string v.key, .bool v.hk]] w fun e w' => e = .returned (.int .i64 (v.tr.wt : Nat)) ∧ Below w.heap.size w w'
set_option maxHeartbeats 1000000 in
set_option maxRecDepth 100000 in
theorem sizeValues_any (L : List Val) (hS : ∀ v ∈ L, SizeV v) (a : Option Addr) (n c : Nat) (w : World) (hwt : L.length + wts (L.map Val.tr) ≤ 1048576) (h1 : VLs w w.heap.size L a n) :
    Calls Tryz.prog 168 #[.slice a n c] w fun e w' => e = .returned (.int .i64 ((L.length + wts (L.map Val.tr) : Nat) : Int)) ∧ Below w.heap.size w w' := by
  have hl := h1.len.1
  rw [List.length_map] at hl
  have hn : n ≤ 1048576 := by omega
  obtain ⟨M, hM⟩ : ∃ M, M = L.length + wts (L.map Val.tr) := ⟨_, rfl⟩
  rw [← hM] at hwt ⊢
  replace hM := Lib.hid hM
  replace hl := Lib.hid hl
  replace h1 := Lib.hid h1
  replace hS := Lib.hid hS
  go_enter Tryz.func168, Tryz.ntmps168
  go_wp2_with fail
  go_loopw [3, 4] (fun u i wr => ∃ k N : Nat, k ≤ n ∧ i = .int .i64 (k : Nat) ∧ u = .int .i64 (N : Nat) ∧ N = L.length + wts ((L.map Val.tr).take k) ∧ Below w.heap.size w wr) (fun _ i _ => n - (intOf i).toNat)
  case atStart => exact ⟨0, n, Nat.zero_le _, rfl, rfl, by simp [wts, hl.out], Below.refl _ _⟩
  case round =>
    obtain ⟨k, N, hk, rfl, rfl, hN, hb⟩ := hrel
    have hle := wts_take_le (L.map Val.tr) k
    have hNM : N ≤ M := by have := hM.out; omega
    have hNm : N ≤ 1048576 := by omega
    clear hle
    by_cases hlt : k < n
    · have hlt9 : Hid (k + 1 ≤ n) := hlt
      obtain ⟨b1, o1, v, q1, rfl, hb1, hg1, hc1, hv1⟩ := VLs.elem (h1.out.kept hb) k hlt
      have x0 : wr.cell? ⟨b1, o1 + k * 8, none⟩ = some (.int .u8 v.kind) := hc1 0 (by omega)
      have x1 : wr.cell? ⟨b1, o1 + k * 8 + 1, none⟩ = some (.int .i64 v.n) := by rw [Nat.add_assoc]; exact hc1 1 (by omega)
      have x2 : wr.cell? ⟨b1, o1 + k * 8 + 2, none⟩ = some (.string v.s) := by rw [Nat.add_assoc]; exact hc1 2 (by omega)
      have x3 : wr.cell? ⟨b1, o1 + k * 8 + 3, none⟩ = some (.slice q1.la q1.ln q1.lc) := by rw [Nat.add_assoc]; exact hc1 3 (by omega)
      have x4 : wr.cell? ⟨b1, o1 + k * 8 + 4, none⟩ = some (.slice q1.fa q1.fn q1.fc) := by rw [Nat.add_assoc]; exact hc1 4 (by omega)
      have x5 : wr.cell? ⟨b1, o1 + k * 8 + 5, none⟩ = some (.int .u8 v.elem) := by rw [Nat.add_assoc]; exact hc1 5 (by omega)
      have x6 : wr.cell? ⟨b1, o1 + k * 8 + 6, none⟩ = some (.string v.key) := by rw [Nat.add_assoc]; exact hc1 6 (by omega)
      have x7 : wr.cell? ⟨b1, o1 + k * 8 + 7, none⟩ = some (.bool v.hk) := by rw [Nat.add_assoc]; exact hc1 7 (by omega)
      have hgt : (L.map Val.tr)[k]? = some v.tr := by rw [List.getElem?_map, hg1]; rfl
      have hN2 : Hid (N + v.tr.wt = L.length + wts ((L.map Val.tr).take (k + 1))) := by
        show _ = _
        rw [wts_take hgt, hN]; omega
      have hwv : v.tr.wt ≤ 1048576 := by
        have h8 := wts_take_le (L.map Val.tr) (k + 1)
        have := hN2.out; have := hM.out; omega
      have cS := hS.out v (List.mem_of_getElem? hg1) hwv q1 wr (hv1.mono hb.size)
      replace cS := Lib.hid cS
      replace hb := Lib.hid hb
      replace hN := Lib.hid hN
      generalize v.tr.wt = X at *
      clear hc1 hv1 hg1 hgt
      go_wp2_with (go_at_call 145; refine cS.out.mono ?_)
      first | rintro e w3 rfl hb3 | rintro e w3 ⟨rfl, hb3⟩
      have hb3' := Lib.hid (hb.out.trans (hb3.mono hb.out.size))
      clear hb3 cS
      go_wp2_with fail
      go_roundw
      case rel => exact ⟨k + 1, N + X, hlt9.out, by go_num, by go_num, hN2.out, hb3'.out⟩
      case measure => simp [intOf]; have := hlt9.out; omega
    · obtain rfl : k = n := by omega
      replace hb := Lib.hid hb
      have hfin : Hid (N = M) := by
        show N = M
        rw [hN, hM.out, List.take_of_length_le (by rw [List.length_map]; have := hl.out; omega)]
      replace hN := Lib.hid hN
      go_wp2_with fail
      go_ret
      exact ⟨by rw [hfin.out]; rfl, hb.out⟩
def SizeF (v : Fld) : Prop := v.tr.wt ≤ 1048576 → ∀ (q : VP) (w : World), FAt w w.heap.size v q →
  Calls Tryz.prog 128 #[.agg #[.string v.name, .int .u8 v.value.kind, .int .i64 v.value.n, .string v.value.s, .slice q.la q.ln q.lc, .slice q.fa q.fn q.fc, .int .u8 v.value.elem, .string v.value.key, .bool v.value.hk]] w fun e w' => e = .returned (.int .i64 (v.tr.wt : Nat)) ∧ Below w.heap.size w w'
set_option maxHeartbeats 1000000 in
set_option maxRecDepth 100000 in
theorem sizeF_of (v : Fld) (hV : SizeV v.value) : SizeF v := by
  intro hwt q w h1
  have h9 := wt_fld v
  obtain ⟨S, hS⟩ : ∃ S, S = w.alloc (.cells #[.string v.name, .int .u8 v.value.kind, .int .i64 v.value.n, .string v.value.s, .slice q.la q.ln q.lc, .slice q.fa q.fn q.fc, .int .u8 v.value.elem, .string v.value.key, .bool v.value.hk] 61) := ⟨_, rfl⟩
  have hbS : Below w.heap.size w S := by rw [hS]; exact (Below.refl _ _).alloc (Nat.le_refl _) _
  have hr1 : S.heap[w.heap.size]? = some (.cells #[.string v.name, .int .u8 v.value.kind, .int .i64 v.value.n, .string v.value.s, .slice q.la q.ln q.lc, .slice q.fa q.fn q.fc, .int .u8 v.value.elem, .string v.value.key, .bool v.value.hk] 61 (0, 0)) := by rw [hS]; exact heap_alloc_new w _
  have hzS : S.heap.size = w.heap.size + 1 := by rw [hS]; simp
  have x0 : S.cell? ⟨w.heap.size, 0, none⟩ = some (.string v.name) := by simp [World.cell?, hr1]
  have x1 : S.cell? ⟨w.heap.size, 1, none⟩ = some (.int .u8 v.value.kind) := by simp [World.cell?, hr1]
  have x2 : S.cell? ⟨w.heap.size, 2, none⟩ = some (.int .i64 v.value.n) := by simp [World.cell?, hr1]
  have x3 : S.cell? ⟨w.heap.size, 3, none⟩ = some (.string v.value.s) := by simp [World.cell?, hr1]
  have x4 : S.cell? ⟨w.heap.size, 4, none⟩ = some (.slice q.la q.ln q.lc) := by simp [World.cell?, hr1]
  have x5 : S.cell? ⟨w.heap.size, 5, none⟩ = some (.slice q.fa q.fn q.fc) := by simp [World.cell?, hr1]
  have x6 : S.cell? ⟨w.heap.size, 6, none⟩ = some (.int .u8 v.value.elem) := by simp [World.cell?, hr1]
  have x7 : S.cell? ⟨w.heap.size, 7, none⟩ = some (.string v.value.key) := by simp [World.cell?, hr1]
  have x8 : S.cell? ⟨w.heap.size, 8, none⟩ = some (.bool v.value.hk) := by simp [World.cell?, hr1]
  have hW : Hid (S = _) := hS
  replace hr1 := Lib.hid hr1
  clear hS
  have cV := hV (by omega) q S ((h1.val.kept hbS).mono hbS.size)
  replace hbS := Lib.hid hbS
  replace cV := Lib.hid cV
  rw [h9] at hwt ⊢
  have hs1 : v.name.size ≤ 1048576 := by omega
  clear h1 h9
  go_enter Tryz.func128, Tryz.ntmps128
  go_wp2_with (first | (rw [← hW.out]) | (go_at_call 145; refine cV.out.mono ?_))
  first | rintro e w3 rfl hb3 | rintro e w3 ⟨rfl, hb3⟩
  have hb3' := Lib.hid (hbS.out.trans (hb3.mono hbS.out.size))
  clear hb3 cV
  go_wp2_with fail
  go_ret
  exact ⟨by first | (congr 2; done) | (congr 2; omega), hb3'.out⟩
set_option maxHeartbeats 1000000 in
set_option maxRecDepth 100000 in
theorem sizeFields_any (L : List Fld) (hS : ∀ v ∈ L, SizeF v) (a : Option Addr) (n c : Nat) (w : World) (hwt : L.length + wts (L.map Fld.tr) ≤ 1048576) (h1 : FLs w w.heap.size L a n) :
    Calls Tryz.prog 77 #[.slice a n c] w fun e w' => e = .returned (.int .i64 ((L.length + wts (L.map Fld.tr) : Nat) : Int)) ∧ Below w.heap.size w w' := by
  have hl := h1.len.1
  rw [List.length_map] at hl
  have hn : n ≤ 1048576 := by omega
  obtain ⟨M, hM⟩ : ∃ M, M = L.length + wts (L.map Fld.tr) := ⟨_, rfl⟩
  rw [← hM] at hwt ⊢
  replace hM := Lib.hid hM
  replace hl := Lib.hid hl
  replace h1 := Lib.hid h1
  replace hS := Lib.hid hS
  go_enter Tryz.func77, Tryz.ntmps77
  go_wp2_with fail
  go_loopw [3, 4] (fun u i wr => ∃ k N : Nat, k ≤ n ∧ i = .int .i64 (k : Nat) ∧ u = .int .i64 (N : Nat) ∧ N = L.length + wts ((L.map Fld.tr).take k) ∧ Below w.heap.size w wr) (fun _ i _ => n - (intOf i).toNat)
  case atStart => exact ⟨0, n, Nat.zero_le _, rfl, rfl, by simp [wts, hl.out], Below.refl _ _⟩
  case round =>
    obtain ⟨k, N, hk, rfl, rfl, hN, hb⟩ := hrel
    have hle := wts_take_le (L.map Fld.tr) k
    have hNM : N ≤ M := by have := hM.out; omega
    have hNm : N ≤ 1048576 := by omega
    clear hle
    by_cases hlt : k < n
    · have hlt9 : Hid (k + 1 ≤ n) := hlt
      obtain ⟨b1, o1, v, q1, rfl, hb1, hg1, hc1, hv1⟩ := FLs.elem (h1.out.kept hb) k hlt
      have x0 : wr.cell? ⟨b1, o1 + k * 9, none⟩ = some (.string v.name) := hc1 0 (by omega)
      have x1 : wr.cell? ⟨b1, o1 + k * 9 + 1, none⟩ = some (.int .u8 v.value.kind) := by rw [Nat.add_assoc]; exact hc1 1 (by omega)
      have x2 : wr.cell? ⟨b1, o1 + k * 9 + 2, none⟩ = some (.int .i64 v.value.n) := by rw [Nat.add_assoc]; exact hc1 2 (by omega)
      have x3 : wr.cell? ⟨b1, o1 + k * 9 + 3, none⟩ = some (.string v.value.s) := by rw [Nat.add_assoc]; exact hc1 3 (by omega)
      have x4 : wr.cell? ⟨b1, o1 + k * 9 + 4, none⟩ = some (.slice q1.la q1.ln q1.lc) := by rw [Nat.add_assoc]; exact hc1 4 (by omega)
      have x5 : wr.cell? ⟨b1, o1 + k * 9 + 5, none⟩ = some (.slice q1.fa q1.fn q1.fc) := by rw [Nat.add_assoc]; exact hc1 5 (by omega)
      have x6 : wr.cell? ⟨b1, o1 + k * 9 + 6, none⟩ = some (.int .u8 v.value.elem) := by rw [Nat.add_assoc]; exact hc1 6 (by omega)
      have x7 : wr.cell? ⟨b1, o1 + k * 9 + 7, none⟩ = some (.string v.value.key) := by rw [Nat.add_assoc]; exact hc1 7 (by omega)
      have x8 : wr.cell? ⟨b1, o1 + k * 9 + 8, none⟩ = some (.bool v.value.hk) := by rw [Nat.add_assoc]; exact hc1 8 (by omega)
      have hgt : (L.map Fld.tr)[k]? = some v.tr := by rw [List.getElem?_map, hg1]; rfl
      have hN2 : Hid (N + v.tr.wt = L.length + wts ((L.map Fld.tr).take (k + 1))) := by
        show _ = _
        rw [wts_take hgt, hN]; omega
      have hwv : v.tr.wt ≤ 1048576 := by
        have h8 := wts_take_le (L.map Fld.tr) (k + 1)
        have := hN2.out; have := hM.out; omega
      have cS := hS.out v (List.mem_of_getElem? hg1) hwv q1 wr (hv1.mono hb.size)
      replace cS := Lib.hid cS
      replace hb := Lib.hid hb
      replace hN := Lib.hid hN
      generalize v.tr.wt = X at *
      clear hc1 hv1 hg1 hgt
      go_wp2_with (go_at_call 128; refine cS.out.mono ?_)
      first | rintro e w3 rfl hb3 | rintro e w3 ⟨rfl, hb3⟩
      have hb3' := Lib.hid (hb.out.trans (hb3.mono hb.out.size))
      clear hb3 cS
      go_wp2_with fail
      go_roundw
      case rel => exact ⟨k + 1, N + X, hlt9.out, by go_num, by go_num, hN2.out, hb3'.out⟩
      case measure => simp [intOf]; have := hlt9.out; omega
    · obtain rfl : k = n := by omega
      replace hb := Lib.hid hb
      have hfin : Hid (N = M) := by
        show N = M
        rw [hN, hM.out, List.take_of_length_le (by rw [List.length_map]; have := hl.out; omega)]
      replace hN := Lib.hid hN
      go_wp2_with fail
      go_ret
      exact ⟨by rw [hfin.out]; rfl, hb.out⟩
set_option maxHeartbeats 1000000 in
set_option maxRecDepth 100000 in
theorem sizeV_of (v : Val) (hL : ∀ x ∈ v.L, SizeV x) (hF : ∀ f ∈ v.F, SizeF f) : SizeV v := by
  intro hwt q w h1
  have h9 := wt_val v
  obtain ⟨S, hS⟩ : ∃ S, S = w.alloc (.cells #[.int .u8 v.kind, .int .i64 v.n, .string v.s, .slice q.la q.ln q.lc, .slice q.fa q.fn q.fc, .int .u8 v.elem, .string v.key, .bool v.hk] 59) := ⟨_, rfl⟩
  have hbS : Below w.heap.size w S := by rw [hS]; exact (Below.refl _ _).alloc (Nat.le_refl _) _
  have hr1 : S.heap[w.heap.size]? = some (.cells #[.int .u8 v.kind, .int .i64 v.n, .string v.s, .slice q.la q.ln q.lc, .slice q.fa q.fn q.fc, .int .u8 v.elem, .string v.key, .bool v.hk] 59 (0, 0)) := by rw [hS]; exact heap_alloc_new w _
  have hzS : S.heap.size = w.heap.size + 1 := by rw [hS]; simp
  have x0 : S.cell? ⟨w.heap.size, 0, none⟩ = some (.int .u8 v.kind) := by simp [World.cell?, hr1]
  have x1 : S.cell? ⟨w.heap.size, 1, none⟩ = some (.int .i64 v.n) := by simp [World.cell?, hr1]
  have x2 : S.cell? ⟨w.heap.size, 2, none⟩ = some (.string v.s) := by simp [World.cell?, hr1]
  have x3 : S.cell? ⟨w.heap.size, 3, none⟩ = some (.slice q.la q.ln q.lc) := by simp [World.cell?, hr1]
  have x4 : S.cell? ⟨w.heap.size, 4, none⟩ = some (.slice q.fa q.fn q.fc) := by simp [World.cell?, hr1]
  have x5 : S.cell? ⟨w.heap.size, 5, none⟩ = some (.int .u8 v.elem) := by simp [World.cell?, hr1]
  have x6 : S.cell? ⟨w.heap.size, 6, none⟩ = some (.string v.key) := by simp [World.cell?, hr1]
  have x7 : S.cell? ⟨w.heap.size, 7, none⟩ = some (.bool v.hk) := by simp [World.cell?, hr1]
  have hW : Hid (S = _) := hS
  replace hr1 := Lib.hid hr1
  clear hS
  have c1 := sizeValues_any v.L hL q.la q.ln q.lc S (by omega) ((h1.L.kept hbS).mono hbS.size)
  have c2 : Hid (∀ W, Below S.heap.size S W → Calls Tryz.prog 77 #[.slice q.fa q.fn q.fc] W fun e w' => e = .returned (.int .i64 ((v.F.length + wts (v.F.map Fld.tr) : Nat) : Int)) ∧ Below W.heap.size W w') := fun W hW =>
    sizeFields_any v.F hF q.fa q.fn q.fc W (by omega) ((h1.F.kept (hbS.trans (hW.mono hbS.size))).mono (Nat.le_trans hbS.size hW.size))
  replace hbS := Lib.hid hbS
  rw [h9] at hwt ⊢
  have hs1 : v.s.size ≤ 1048576 := by omega
  have hs2 : v.key.size ≤ 1048576 := by omega
  obtain ⟨X1, hX1⟩ : ∃ X1, X1 = v.L.length + wts (v.L.map Val.tr) := ⟨_, rfl⟩
  obtain ⟨X2, hX2⟩ : ∃ X2, X2 = v.F.length + wts (v.F.map Fld.tr) := ⟨_, rfl⟩
  rw [← hX1] at c1 hwt ⊢
  rw [← hX2] at c2 hwt ⊢
  replace hX1 := Lib.hid hX1
  replace hX2 := Lib.hid hX2
  replace c1 := Lib.hid c1
  have z1 : X1 ≤ 1048576 := by omega
  have z2 : X2 ≤ 1048576 := by omega
  clear h1 h9
  go_enter Tryz.func145, Tryz.ntmps145
  go_wp2_with (first | (rw [← hW.out]) | (go_at_call 168; refine c1.out.mono ?_))
  first | rintro e w3 rfl hb3 | rintro e w3 ⟨rfl, hb3⟩
  clear c1
  have c23 := Lib.hid (c2.out w3 hb3)
  have hb3' := Lib.hid (hbS.out.trans (hb3.mono hbS.out.size))
  have x0' := (hb3.cell (p := ⟨w.heap.size, 0, none⟩) (by show w.heap.size < _; omega)).trans x0
  have x1' := (hb3.cell (p := ⟨w.heap.size, 1, none⟩) (by show w.heap.size < _; omega)).trans x1
  have x2' := (hb3.cell (p := ⟨w.heap.size, 2, none⟩) (by show w.heap.size < _; omega)).trans x2
  have x3' := (hb3.cell (p := ⟨w.heap.size, 3, none⟩) (by show w.heap.size < _; omega)).trans x3
  have x4' := (hb3.cell (p := ⟨w.heap.size, 4, none⟩) (by show w.heap.size < _; omega)).trans x4
  have x5' := (hb3.cell (p := ⟨w.heap.size, 5, none⟩) (by show w.heap.size < _; omega)).trans x5
  have x6' := (hb3.cell (p := ⟨w.heap.size, 6, none⟩) (by show w.heap.size < _; omega)).trans x6
  have x7' := (hb3.cell (p := ⟨w.heap.size, 7, none⟩) (by show w.heap.size < _; omega)).trans x7
  clear x0 x1 x2 x3 x4 x5 x6 x7
  replace hb3 := Lib.hid hb3
  go_wp2_with (go_at_call 77; refine c23.out.mono ?_)
  first | rintro e w4 rfl hb4 | rintro e w4 ⟨rfl, hb4⟩
  have hb4' := Lib.hid (hb3'.out.trans (hb4.mono hb3'.out.size))
  clear hb4 c23 c2
  go_wp2_with fail
  go_ret
  exact ⟨by first | (congr 2; done) | (congr 2; omega), hb4'.out⟩
theorem sizeV_any (v : Val) : SizeV v := Val.ind (fun _ _ _ _ _ _ _ _ hL hF => sizeV_of _ hL (fun f hf => sizeF_of f (hF f hf))) v
theorem sizeF_any (v : Fld) : SizeF v := sizeF_of v (sizeV_any _)
def SizeN (v : Nd) : Prop := v.tr.wt ≤ 1048576 → ∀ (q : NP) (w : World), NAt w w.heap.size v q →
  Calls Tryz.prog 15 #[.agg #[.int .i64 v.id, .string v.tag, .string v.text, .slice q.aa q.an q.ac, .slice q.ka q.kn q.kc]] w fun e w' => e = .returned (.int .i64 (v.tr.wt : Nat)) ∧ Below w.heap.size w w'
set_option maxHeartbeats 1000000 in
set_option maxRecDepth 100000 in
theorem sizeNodes_any (L : List Nd) (hS : ∀ v ∈ L, SizeN v) (a : Option Addr) (n c : Nat) (w : World) (hwt : L.length + wts (L.map Nd.tr) ≤ 1048576) (h1 : NLs w w.heap.size L a n) :
    Calls Tryz.prog 5 #[.slice a n c] w fun e w' => e = .returned (.int .i64 ((L.length + wts (L.map Nd.tr) : Nat) : Int)) ∧ Below w.heap.size w w' := by
  have hl := h1.len.1
  rw [List.length_map] at hl
  have hn : n ≤ 1048576 := by omega
  obtain ⟨M, hM⟩ : ∃ M, M = L.length + wts (L.map Nd.tr) := ⟨_, rfl⟩
  rw [← hM] at hwt ⊢
  replace hM := Lib.hid hM
  replace hl := Lib.hid hl
  replace h1 := Lib.hid h1
  replace hS := Lib.hid hS
  go_enter Tryz.func5, Tryz.ntmps5
  go_wp2_with fail
  go_loopw [3, 4] (fun u i wr => ∃ k N : Nat, k ≤ n ∧ i = .int .i64 (k : Nat) ∧ u = .int .i64 (N : Nat) ∧ N = L.length + wts ((L.map Nd.tr).take k) ∧ Below w.heap.size w wr) (fun _ i _ => n - (intOf i).toNat)
  case atStart => exact ⟨0, n, Nat.zero_le _, rfl, rfl, by simp [wts, hl.out], Below.refl _ _⟩
  case round =>
    obtain ⟨k, N, hk, rfl, rfl, hN, hb⟩ := hrel
    have hle := wts_take_le (L.map Nd.tr) k
    have hNM : N ≤ M := by have := hM.out; omega
    have hNm : N ≤ 1048576 := by omega
    clear hle
    by_cases hlt : k < n
    · have hlt9 : Hid (k + 1 ≤ n) := hlt
      obtain ⟨b1, o1, v, q1, rfl, hb1, hg1, hc1, hv1⟩ := NLs.elem (h1.out.kept hb) k hlt
      have x0 : wr.cell? ⟨b1, o1 + k * 5, none⟩ = some (.int .i64 v.id) := hc1 0 (by omega)
      have x1 : wr.cell? ⟨b1, o1 + k * 5 + 1, none⟩ = some (.string v.tag) := by rw [Nat.add_assoc]; exact hc1 1 (by omega)
      have x2 : wr.cell? ⟨b1, o1 + k * 5 + 2, none⟩ = some (.string v.text) := by rw [Nat.add_assoc]; exact hc1 2 (by omega)
      have x3 : wr.cell? ⟨b1, o1 + k * 5 + 3, none⟩ = some (.slice q1.aa q1.an q1.ac) := by rw [Nat.add_assoc]; exact hc1 3 (by omega)
      have x4 : wr.cell? ⟨b1, o1 + k * 5 + 4, none⟩ = some (.slice q1.ka q1.kn q1.kc) := by rw [Nat.add_assoc]; exact hc1 4 (by omega)
      have hgt : (L.map Nd.tr)[k]? = some v.tr := by rw [List.getElem?_map, hg1]; rfl
      have hN2 : Hid (N + v.tr.wt = L.length + wts ((L.map Nd.tr).take (k + 1))) := by
        show _ = _
        rw [wts_take hgt, hN]; omega
      have hwv : v.tr.wt ≤ 1048576 := by
        have h8 := wts_take_le (L.map Nd.tr) (k + 1)
        have := hN2.out; have := hM.out; omega
      have cS := hS.out v (List.mem_of_getElem? hg1) hwv q1 wr (hv1.mono hb.size)
      replace cS := Lib.hid cS
      replace hb := Lib.hid hb
      replace hN := Lib.hid hN
      generalize v.tr.wt = X at *
      clear hc1 hv1 hg1 hgt
      go_wp2_with (go_at_call 15; refine cS.out.mono ?_)
      first | rintro e w3 rfl hb3 | rintro e w3 ⟨rfl, hb3⟩
      have hb3' := Lib.hid (hb.out.trans (hb3.mono hb.out.size))
      clear hb3 cS
      go_wp2_with fail
      go_roundw
      case rel => exact ⟨k + 1, N + X, hlt9.out, by go_num, by go_num, hN2.out, hb3'.out⟩
      case measure => simp [intOf]; have := hlt9.out; omega
    · obtain rfl : k = n := by omega
      replace hb := Lib.hid hb
      have hfin : Hid (N = M) := by
        show N = M
        rw [hN, hM.out, List.take_of_length_le (by rw [List.length_map]; have := hl.out; omega)]
      replace hN := Lib.hid hN
      go_wp2_with fail
      go_ret
      exact ⟨by rw [hfin.out]; rfl, hb.out⟩
set_option maxHeartbeats 1000000 in
set_option maxRecDepth 100000 in
theorem sizeN_of (v : Nd) (hK : ∀ x ∈ v.kids, SizeN x) : SizeN v := by
  intro hwt q w h1
  have h9 := wt_nd v
  obtain ⟨S, hS⟩ : ∃ S, S = w.alloc (.cells #[.int .i64 v.id, .string v.tag, .string v.text, .slice q.aa q.an q.ac, .slice q.ka q.kn q.kc] 53) := ⟨_, rfl⟩
  have hbS : Below w.heap.size w S := by rw [hS]; exact (Below.refl _ _).alloc (Nat.le_refl _) _
  have hr1 : S.heap[w.heap.size]? = some (.cells #[.int .i64 v.id, .string v.tag, .string v.text, .slice q.aa q.an q.ac, .slice q.ka q.kn q.kc] 53 (0, 0)) := by rw [hS]; exact heap_alloc_new w _
  have hzS : S.heap.size = w.heap.size + 1 := by rw [hS]; simp
  have x0 : S.cell? ⟨w.heap.size, 0, none⟩ = some (.int .i64 v.id) := by simp [World.cell?, hr1]
  have x1 : S.cell? ⟨w.heap.size, 1, none⟩ = some (.string v.tag) := by simp [World.cell?, hr1]
  have x2 : S.cell? ⟨w.heap.size, 2, none⟩ = some (.string v.text) := by simp [World.cell?, hr1]
  have x3 : S.cell? ⟨w.heap.size, 3, none⟩ = some (.slice q.aa q.an q.ac) := by simp [World.cell?, hr1]
  have x4 : S.cell? ⟨w.heap.size, 4, none⟩ = some (.slice q.ka q.kn q.kc) := by simp [World.cell?, hr1]
  have hW : Hid (S = _) := hS
  replace hr1 := Lib.hid hr1
  clear hS
  have c1 := sizeFields_any v.attrs (fun f _ => sizeF_any f) q.aa q.an q.ac S (by omega) ((h1.A.kept hbS).mono hbS.size)
  have c2 : Hid (∀ W, Below S.heap.size S W → Calls Tryz.prog 5 #[.slice q.ka q.kn q.kc] W fun e w' => e = .returned (.int .i64 ((v.kids.length + wts (v.kids.map Nd.tr) : Nat) : Int)) ∧ Below W.heap.size W w') := fun W hW =>
    sizeNodes_any v.kids hK q.ka q.kn q.kc W (by omega) ((h1.K.kept (hbS.trans (hW.mono hbS.size))).mono (Nat.le_trans hbS.size hW.size))
  replace hbS := Lib.hid hbS
  rw [h9] at hwt ⊢
  have hs1 : v.tag.size ≤ 1048576 := by omega
  have hs2 : v.text.size ≤ 1048576 := by omega
  obtain ⟨X1, hX1⟩ : ∃ X1, X1 = v.attrs.length + wts (v.attrs.map Fld.tr) := ⟨_, rfl⟩
  obtain ⟨X2, hX2⟩ : ∃ X2, X2 = v.kids.length + wts (v.kids.map Nd.tr) := ⟨_, rfl⟩
  rw [← hX1] at c1 hwt ⊢
  rw [← hX2] at c2 hwt ⊢
  replace hX1 := Lib.hid hX1
  replace hX2 := Lib.hid hX2
  replace c1 := Lib.hid c1
  have z1 : X1 ≤ 1048576 := by omega
  have z2 : X2 ≤ 1048576 := by omega
  clear h1 h9
  go_enter Tryz.func15, Tryz.ntmps15
  go_wp2_with (first | (rw [← hW.out]) | (go_at_call 77; refine c1.out.mono ?_))
  first | rintro e w3 rfl hb3 | rintro e w3 ⟨rfl, hb3⟩
  clear c1
  have c23 := Lib.hid (c2.out w3 hb3)
  have hb3' := Lib.hid (hbS.out.trans (hb3.mono hbS.out.size))
  have x0' := (hb3.cell (p := ⟨w.heap.size, 0, none⟩) (by show w.heap.size < _; omega)).trans x0
  have x1' := (hb3.cell (p := ⟨w.heap.size, 1, none⟩) (by show w.heap.size < _; omega)).trans x1
  have x2' := (hb3.cell (p := ⟨w.heap.size, 2, none⟩) (by show w.heap.size < _; omega)).trans x2
  have x3' := (hb3.cell (p := ⟨w.heap.size, 3, none⟩) (by show w.heap.size < _; omega)).trans x3
  have x4' := (hb3.cell (p := ⟨w.heap.size, 4, none⟩) (by show w.heap.size < _; omega)).trans x4
  clear x0 x1 x2 x3 x4
  replace hb3 := Lib.hid hb3
  go_wp2_with (go_at_call 5; refine c23.out.mono ?_)
  first | rintro e w4 rfl hb4 | rintro e w4 ⟨rfl, hb4⟩
  have hb4' := Lib.hid (hb3'.out.trans (hb4.mono hb3'.out.size))
  clear hb4 c23 c2
  go_wp2_with fail
  go_ret
  exact ⟨by first | (congr 2; done) | (congr 2; omega), hb4'.out⟩
theorem sizeN_any (v : Nd) : SizeN v := Nd.ind (fun _ _ _ _ _ hL => sizeN_of _ hL) v
end Go.Proofs.YtehcbicngbibgaaGreatDoor
