/- show.may: which nodes may be shown. -/
import Derived.Test.YtehcbicngbibgaaGreatDoorZCi
namespace Go.Proofs.YtehcbicngbibgaaGreatDoor
open Go Go.RowKit
def MayV (v : Nd) : Prop := ∀ (q : NP) (w : World), NAt w w.heap.size v q → Calls Tryz.prog 20 #[.agg #[.int .i64 v.id, .string v.tag, .string v.text, .slice q.aa q.an q.ac, .slice q.ka q.kn q.kc]] w fun e w' => e = .returned (.bool (mayB v)) ∧ Below w.heap.size w w'
structure IxP (V : Bool) (w : World) (e : Ending) (w' : World) : Prop where
  r : ∃ r : Int, e = .returned (.int .i64 r) ∧ (V = false → 0 ≤ r) ∧ (V = true → r = -1)
  w : Below w.heap.size w w'
set_option maxHeartbeats 2000000 in
set_option maxRecDepth 100000 in
theorem may1_any (v : Nd) (hv : MayV v) (q : NP) (w : World) (h : NAt w w.heap.size v q) :
    Calls Tryz.prog 84 #[.agg #[.int .i64 v.id, .string v.tag, .string v.text, .slice q.aa q.an q.ac, .slice q.ka q.kn q.kc]] w fun e w' => e = .returned (.bool (!mayB v)) ∧ Below w.heap.size w w' := by
  obtain ⟨S, hS⟩ : ∃ S, S = w.alloc (.cells #[.int .i64 v.id, .string v.tag, .string v.text, .slice q.aa q.an q.ac, .slice q.ka q.kn q.kc] 53) := ⟨_, rfl⟩
  have hbS : Below w.heap.size w S := by rw [hS]; exact (Below.refl _ _).alloc (Nat.le_refl _) _
  have hrS : S.heap[w.heap.size]? = some (.cells #[.int .i64 v.id, .string v.tag, .string v.text, .slice q.aa q.an q.ac, .slice q.ka q.kn q.kc] 53 (0, 0)) := by rw [hS]; exact heap_alloc_new w _
  have hzS : S.heap.size = w.heap.size + 1 := by rw [hS]; simp
  have x0 : S.cell? ⟨w.heap.size, 0, none⟩ = some (.int .i64 v.id) := by simp [World.cell?, hrS]
  have x1 : S.cell? ⟨w.heap.size, 1, none⟩ = some (.string v.tag) := by simp [World.cell?, hrS]
  have x2 : S.cell? ⟨w.heap.size, 2, none⟩ = some (.string v.text) := by simp [World.cell?, hrS]
  have x3 : S.cell? ⟨w.heap.size, 3, none⟩ = some (.slice q.aa q.an q.ac) := by simp [World.cell?, hrS]
  have x4 : S.cell? ⟨w.heap.size, 4, none⟩ = some (.slice q.ka q.kn q.kc) := by simp [World.cell?, hrS]
  have hWS : Hid (S = _) := hS
  replace hrS := Lib.hid hrS
  clear hS
  have cM := hv q S ((h.kept hbS).mono hbS.size)
  obtain ⟨V, hV⟩ : ∃ V, V = mayB v := ⟨_, rfl⟩
  rw [← hV] at cM ⊢
  replace cM := Lib.hid cM
  replace hV := Lib.hid hV
  replace h := Lib.hid h
  replace hv := Lib.hid hv
  replace hbS := Lib.hid hbS
  go_enter Tryz.func84, Tryz.ntmps84
  go_wp2_with (first | (rw [← hWS.out]) | (go_at_call 20; refine cM.out.mono ?_))
  first | rintro e w3 rfl hb3 | rintro e w3 ⟨rfl, hb3⟩
  have hb4 := Lib.hid (hbS.out.trans (hb3.mono hbS.out.size))
  clear hb3
  go_wp2_with fail
  go_ret
  exact ⟨rfl, hb4.out⟩
set_option maxHeartbeats 2000000 in
set_option maxRecDepth 100000 in
theorem may1_index (L : List Nd) (hL : ∀ v ∈ L, MayV v) (a : Option Addr) (n c : Nat) (w : World) (h : NLs w w.heap.size L a n) :
    Calls Tryz.prog 81 #[.slice a n c, .func (.func 84) #[] #[]] w fun e w' => IxP (maysB L) w e w' := by
  have hl := h.1
  rw [List.length_map] at hl
  have hn := h.2.1
  replace hl := Lib.hid hl
  replace h := Lib.hid h
  replace hL := Lib.hid hL
  obtain ⟨V, hV⟩ : ∃ V, V = maysB L := ⟨_, rfl⟩
  rw [← hV]
  replace hV := Lib.hid hV
  go_enter Tryz.func81, Tryz.ntmps81
  go_wp2_with fail
  go_loopw [8] (fun i wr => ∃ k : Nat, k ≤ n ∧ i = .int .i64 (k : Nat) ∧ Below w.heap.size w wr ∧ V = maysB (L.drop k)) (fun i _ => n - (intOf i).toNat)
  case atStart => exact ⟨0, Nat.zero_le _, rfl, Below.refl _ _, hV.out⟩
  case round =>
    obtain ⟨k, hk, rfl, hb, hv⟩ := hrel
    by_cases hlt : k < n
    · have hlt9 : Hid (k + 1 ≤ n) := hlt
      obtain ⟨b1, o1, v, q, rfl, hb1, hg1, hc1, hv1⟩ := NLs.elem (h.out.kept hb) k hlt
      rw [mays_step hg1] at hv
      have y0 : wr.cell? ⟨b1, o1 + k * 5, none⟩ = some (.int .i64 v.id) := hc1 0 (by omega)
      have y1 : wr.cell? ⟨b1, o1 + k * 5 + 1, none⟩ = some (.string v.tag) := by rw [Nat.add_assoc]; exact hc1 1 (by omega)
      have y2 : wr.cell? ⟨b1, o1 + k * 5 + 2, none⟩ = some (.string v.text) := by rw [Nat.add_assoc]; exact hc1 2 (by omega)
      have y3 : wr.cell? ⟨b1, o1 + k * 5 + 3, none⟩ = some (.slice q.aa q.an q.ac) := by rw [Nat.add_assoc]; exact hc1 3 (by omega)
      have y4 : wr.cell? ⟨b1, o1 + k * 5 + 4, none⟩ = some (.slice q.ka q.kn q.kc) := by rw [Nat.add_assoc]; exact hc1 4 (by omega)
      have cM := may1_any v (hL.out v (List.mem_of_getElem? hg1)) q wr (hv1.mono hb.size)
      obtain ⟨x, hx⟩ : ∃ x, x = mayB v := ⟨_, rfl⟩
      rw [← hx] at cM hv
      replace cM := Lib.hid cM
      replace hx := Lib.hid hx
      replace hb := Lib.hid hb
      clear hc1 hv1 hg1
      cases x
      · replace hv := Lib.hid (show V = false from hv)
        go_wp2_with (go_at_call 84; refine cM.out.mono ?_)
        first | rintro e w3 rfl hb3 | rintro e w3 ⟨rfl, hb3⟩
        have hb4 := Lib.hid (hb.out.trans (hb3.mono hb.out.size))
        clear hb3
        go_wp2_with fail
        go_ret
        exact ⟨⟨_, rfl, (fun _ => by omega), (fun h9 => by rw [hv.out] at h9; cases h9)⟩, hb4.out⟩
      · replace hv := Lib.hid (show V = maysB (L.drop (k + 1)) from hv.trans rfl)
        go_wp2_with (go_at_call 84; refine cM.out.mono ?_)
        first | rintro e w3 rfl hb3 | rintro e w3 ⟨rfl, hb3⟩
        have hb4 := Lib.hid (hb.out.trans (hb3.mono hb.out.size))
        clear hb3
        go_wp2_with fail
        go_roundw
        case rel => exact ⟨k + 1, hlt9.out, by go_num, hb4.out, hv.out⟩
        case measure => simp [intOf]; have := hlt9.out; omega
    · have hkn : n = k := by omega
      subst hkn
      rw [mays_end (by rw [← hl.out]; exact Nat.le_refl _)] at hv
      replace hv := Lib.hid hv
      replace hb := Lib.hid hb
      go_wp2_with fail
      go_ret
      exact ⟨⟨_, rfl, (fun h9 => by rw [hv.out] at h9; cases h9), (fun _ => rfl)⟩, hb.out⟩
set_option maxHeartbeats 2000000 in
set_option maxRecDepth 100000 in
theorem may1_contains (L : List Nd) (hL : ∀ v ∈ L, MayV v) (a : Option Addr) (n c : Nat) (w : World) (h : NLs w w.heap.size L a n) :
    Calls Tryz.prog 18 #[.slice a n c, .func (.func 84) #[] #[]] w fun e w' => e = .returned (.bool (!maysB L)) ∧ Below w.heap.size w w' := by
  have cI := may1_index L hL a n c w h
  obtain ⟨V, hV⟩ : ∃ V, V = maysB L := ⟨_, rfl⟩
  rw [← hV] at cI ⊢
  replace hV := Lib.hid hV
  replace cI := Lib.hid cI
  have hn := h.2.1
  replace h := Lib.hid h
  replace hL := Lib.hid hL
  go_enter Tryz.func18, Tryz.ntmps18
  go_wp2_with (go_at_call 81; refine cI.out.mono ?_)
  rintro e w3 ⟨⟨r, rfl, h1, h2⟩, hb3⟩
  replace hb3 := Lib.hid hb3
  cases V
  · have hr := h1 rfl
    clear h1 h2
    go_wp2_with fail
    go_ret
    exact ⟨by first | rfl | (simp; done) | (simp; omega), hb3.out⟩
  · obtain rfl := h2 rfl
    clear h1 h2
    go_wp2_with fail
    go_ret
    exact ⟨rfl, hb3.out⟩
set_option maxHeartbeats 2000000 in
set_option maxRecDepth 100000 in
theorem text1_any (v : Nd) (hv : MayV v) (q : NP) (w : World) (h : NAt w w.heap.size v q) :
    Calls Tryz.prog 19 #[.agg #[.int .i64 v.id, .string v.tag, .string v.text, .slice q.aa q.an q.ac, .slice q.ka q.kn q.kc]] w fun e w' => e = .returned (.bool (!mayB v)) ∧ Below w.heap.size w w' := by
  obtain ⟨S, hS⟩ : ∃ S, S = w.alloc (.cells #[.int .i64 v.id, .string v.tag, .string v.text, .slice q.aa q.an q.ac, .slice q.ka q.kn q.kc] 53) := ⟨_, rfl⟩
  have hbS : Below w.heap.size w S := by rw [hS]; exact (Below.refl _ _).alloc (Nat.le_refl _) _
  have hrS : S.heap[w.heap.size]? = some (.cells #[.int .i64 v.id, .string v.tag, .string v.text, .slice q.aa q.an q.ac, .slice q.ka q.kn q.kc] 53 (0, 0)) := by rw [hS]; exact heap_alloc_new w _
  have hzS : S.heap.size = w.heap.size + 1 := by rw [hS]; simp
  have x0 : S.cell? ⟨w.heap.size, 0, none⟩ = some (.int .i64 v.id) := by simp [World.cell?, hrS]
  have x1 : S.cell? ⟨w.heap.size, 1, none⟩ = some (.string v.tag) := by simp [World.cell?, hrS]
  have x2 : S.cell? ⟨w.heap.size, 2, none⟩ = some (.string v.text) := by simp [World.cell?, hrS]
  have x3 : S.cell? ⟨w.heap.size, 3, none⟩ = some (.slice q.aa q.an q.ac) := by simp [World.cell?, hrS]
  have x4 : S.cell? ⟨w.heap.size, 4, none⟩ = some (.slice q.ka q.kn q.kc) := by simp [World.cell?, hrS]
  have hWS : Hid (S = _) := hS
  replace hrS := Lib.hid hrS
  clear hS
  have cM := hv q S ((h.kept hbS).mono hbS.size)
  obtain ⟨V, hV⟩ : ∃ V, V = mayB v := ⟨_, rfl⟩
  rw [← hV] at cM ⊢
  replace cM := Lib.hid cM
  replace hV := Lib.hid hV
  replace h := Lib.hid h
  replace hv := Lib.hid hv
  replace hbS := Lib.hid hbS
  go_enter Tryz.func19, Tryz.ntmps19
  go_wp2_with (first | (rw [← hWS.out]) | (go_at_call 20; refine cM.out.mono ?_))
  first | rintro e w3 rfl hb3 | rintro e w3 ⟨rfl, hb3⟩
  have hb4 := Lib.hid (hbS.out.trans (hb3.mono hbS.out.size))
  clear hb3
  go_wp2_with fail
  go_ret
  exact ⟨rfl, hb4.out⟩
set_option maxHeartbeats 2000000 in
set_option maxRecDepth 100000 in
theorem text1_index (L : List Nd) (hL : ∀ v ∈ L, MayV v) (a : Option Addr) (n c : Nat) (w : World) (h : NLs w w.heap.size L a n) :
    Calls Tryz.prog 81 #[.slice a n c, .func (.func 19) #[] #[]] w fun e w' => IxP (maysB L) w e w' := by
  have hl := h.1
  rw [List.length_map] at hl
  have hn := h.2.1
  replace hl := Lib.hid hl
  replace h := Lib.hid h
  replace hL := Lib.hid hL
  obtain ⟨V, hV⟩ : ∃ V, V = maysB L := ⟨_, rfl⟩
  rw [← hV]
  replace hV := Lib.hid hV
  go_enter Tryz.func81, Tryz.ntmps81
  go_wp2_with fail
  go_loopw [8] (fun i wr => ∃ k : Nat, k ≤ n ∧ i = .int .i64 (k : Nat) ∧ Below w.heap.size w wr ∧ V = maysB (L.drop k)) (fun i _ => n - (intOf i).toNat)
  case atStart => exact ⟨0, Nat.zero_le _, rfl, Below.refl _ _, hV.out⟩
  case round =>
    obtain ⟨k, hk, rfl, hb, hv⟩ := hrel
    by_cases hlt : k < n
    · have hlt9 : Hid (k + 1 ≤ n) := hlt
      obtain ⟨b1, o1, v, q, rfl, hb1, hg1, hc1, hv1⟩ := NLs.elem (h.out.kept hb) k hlt
      rw [mays_step hg1] at hv
      have y0 : wr.cell? ⟨b1, o1 + k * 5, none⟩ = some (.int .i64 v.id) := hc1 0 (by omega)
      have y1 : wr.cell? ⟨b1, o1 + k * 5 + 1, none⟩ = some (.string v.tag) := by rw [Nat.add_assoc]; exact hc1 1 (by omega)
      have y2 : wr.cell? ⟨b1, o1 + k * 5 + 2, none⟩ = some (.string v.text) := by rw [Nat.add_assoc]; exact hc1 2 (by omega)
      have y3 : wr.cell? ⟨b1, o1 + k * 5 + 3, none⟩ = some (.slice q.aa q.an q.ac) := by rw [Nat.add_assoc]; exact hc1 3 (by omega)
      have y4 : wr.cell? ⟨b1, o1 + k * 5 + 4, none⟩ = some (.slice q.ka q.kn q.kc) := by rw [Nat.add_assoc]; exact hc1 4 (by omega)
      have cM := text1_any v (hL.out v (List.mem_of_getElem? hg1)) q wr (hv1.mono hb.size)
      obtain ⟨x, hx⟩ : ∃ x, x = mayB v := ⟨_, rfl⟩
      rw [← hx] at cM hv
      replace cM := Lib.hid cM
      replace hx := Lib.hid hx
      replace hb := Lib.hid hb
      clear hc1 hv1 hg1
      cases x
      · replace hv := Lib.hid (show V = false from hv)
        go_wp2_with (go_at_call 19; refine cM.out.mono ?_)
        first | rintro e w3 rfl hb3 | rintro e w3 ⟨rfl, hb3⟩
        have hb4 := Lib.hid (hb.out.trans (hb3.mono hb.out.size))
        clear hb3
        go_wp2_with fail
        go_ret
        exact ⟨⟨_, rfl, (fun _ => by omega), (fun h9 => by rw [hv.out] at h9; cases h9)⟩, hb4.out⟩
      · replace hv := Lib.hid (show V = maysB (L.drop (k + 1)) from hv.trans rfl)
        go_wp2_with (go_at_call 19; refine cM.out.mono ?_)
        first | rintro e w3 rfl hb3 | rintro e w3 ⟨rfl, hb3⟩
        have hb4 := Lib.hid (hb.out.trans (hb3.mono hb.out.size))
        clear hb3
        go_wp2_with fail
        go_roundw
        case rel => exact ⟨k + 1, hlt9.out, by go_num, hb4.out, hv.out⟩
        case measure => simp [intOf]; have := hlt9.out; omega
    · have hkn : n = k := by omega
      subst hkn
      rw [mays_end (by rw [← hl.out]; exact Nat.le_refl _)] at hv
      replace hv := Lib.hid hv
      replace hb := Lib.hid hb
      go_wp2_with fail
      go_ret
      exact ⟨⟨_, rfl, (fun h9 => by rw [hv.out] at h9; cases h9), (fun _ => rfl)⟩, hb.out⟩
set_option maxHeartbeats 2000000 in
set_option maxRecDepth 100000 in
theorem text1_contains (L : List Nd) (hL : ∀ v ∈ L, MayV v) (a : Option Addr) (n c : Nat) (w : World) (h : NLs w w.heap.size L a n) :
    Calls Tryz.prog 18 #[.slice a n c, .func (.func 19) #[] #[]] w fun e w' => e = .returned (.bool (!maysB L)) ∧ Below w.heap.size w w' := by
  have cI := text1_index L hL a n c w h
  obtain ⟨V, hV⟩ : ∃ V, V = maysB L := ⟨_, rfl⟩
  rw [← hV] at cI ⊢
  replace hV := Lib.hid hV
  replace cI := Lib.hid cI
  have hn := h.2.1
  replace h := Lib.hid h
  replace hL := Lib.hid hL
  go_enter Tryz.func18, Tryz.ntmps18
  go_wp2_with (go_at_call 81; refine cI.out.mono ?_)
  rintro e w3 ⟨⟨r, rfl, h1, h2⟩, hb3⟩
  replace hb3 := Lib.hid hb3
  cases V
  · have hr := h1 rfl
    clear h1 h2
    go_wp2_with fail
    go_ret
    exact ⟨by first | rfl | (simp; done) | (simp; omega), hb3.out⟩
  · obtain rfl := h2 rfl
    clear h1 h2
    go_wp2_with fail
    go_ret
    exact ⟨rfl, hb3.out⟩
set_option maxHeartbeats 2000000 in
set_option maxRecDepth 100000 in
theorem may_of (v : Nd) (hS : ∀ y ∈ v.kids, MayV y) : MayV v := by
  intro ⟨aa, an, ac, ka, kn, kc⟩ w h
  show Calls Tryz.prog 20 #[.agg #[.int .i64 v.id, .string v.tag, .string v.text, .slice aa an ac, .slice ka kn kc]] w fun e w' => e = .returned (.bool (mayB v)) ∧ Below w.heap.size w w'
  obtain ⟨V, hV⟩ : ∃ V, V = mayB v := ⟨_, rfl⟩
  rw [← hV]
  rw [mayB_eq] at hV
  have ha1 : an = v.attrs.length := h.plain.1
  have ha2 : kn = v.kids.length := h.plain.2.1
  have ha3 : an ≤ 1152921504606846976 := h.plain.2.2.1
  have ha4 : kn ≤ 1152921504606846976 := h.plain.2.2.2
  have ht := h.k2
  have hx := h.k3
  rw [← ha1, ← ha2] at hV
  replace ha1 := Lib.hid ha1
  replace ha2 := Lib.hid ha2
  have hA : FLs w w.heap.size v.attrs aa an := h.A
  have hK : NLs w w.heap.size v.kids ka kn := h.K
  replace h := Lib.hid h
  replace hS := Lib.hid hS
  by_cases ht0 : 0 < v.tag.size
  case neg =>
    have ht1 := size_zero ht0
    rw [if_pos (by omega)] at hV
    rw [ht1]
    replace ht1 := Lib.hid ht1
    clear ht0 ht hA hK
    obtain ⟨S, hS⟩ : ∃ S, S = w.alloc (.cells #[.int .i64 v.id, .string ⟨#[]⟩, .string v.text, .slice aa an ac, .slice ka kn kc] 53) := ⟨_, rfl⟩
    have hbS : Below w.heap.size w S := by rw [hS]; exact (Below.refl _ _).alloc (Nat.le_refl _) _
    have hrS : S.heap[w.heap.size]? = some (.cells #[.int .i64 v.id, .string ⟨#[]⟩, .string v.text, .slice aa an ac, .slice ka kn kc] 53 (0, 0)) := by rw [hS]; exact heap_alloc_new w _
    have hzS : S.heap.size = w.heap.size + 1 := by rw [hS]; simp
    have x0 : S.cell? ⟨w.heap.size, 0, none⟩ = some (.int .i64 v.id) := by simp [World.cell?, hrS]
    have x1 : S.cell? ⟨w.heap.size, 1, none⟩ = some (.string ⟨#[]⟩) := by simp [World.cell?, hrS]
    have x2 : S.cell? ⟨w.heap.size, 2, none⟩ = some (.string v.text) := by simp [World.cell?, hrS]
    have x3 : S.cell? ⟨w.heap.size, 3, none⟩ = some (.slice aa an ac) := by simp [World.cell?, hrS]
    have x4 : S.cell? ⟨w.heap.size, 4, none⟩ = some (.slice ka kn kc) := by simp [World.cell?, hrS]
    have hWS : Hid (S = _) := hS
    replace hrS := Lib.hid hrS
    clear hS
    replace hbS := Lib.hid hbS
    by_cases ha0 : an = 0
    · by_cases hk0 : kn = 0
      · subst ha0
        subst hk0
        by_cases hx0 : v.text.size ≤ 4096
        · have hx1 : (v.text.size : Int) ≤ 4096 := by omega
          replace hV : Hid (V = true) := by show V = true; rw [hV]; simp [hx0]
          go_enter Tryz.func20, Tryz.ntmps20
          go_wp2_with (first | (rw [← hWS.out]))
          go_ret
          exact ⟨by rw [hV.out]; rfl, hbS.out⟩
        · have hx1 : ¬ (v.text.size : Int) ≤ 4096 := by omega
          replace hV : Hid (V = false) := by show V = false; rw [hV]; simp [hx0]
          go_enter Tryz.func20, Tryz.ntmps20
          go_wp2_with (first | (rw [← hWS.out]))
          go_ret
          exact ⟨by rw [hV.out]; rfl, hbS.out⟩
      · replace hV : Hid (V = false) := by show V = false; rw [hV]; simp [hk0]
        subst ha0
        have hs : ¬ (kn : Int) = 0 := by omega
        have hs2 : ((kn : Int) == 0) = false := by simp; omega
        go_enter Tryz.func20, Tryz.ntmps20
        go_wp2_with (first | (rw [← hWS.out]))
        go_ret
        exact ⟨by rw [hV.out]; rfl, hbS.out⟩
    · replace hV : Hid (V = false) := by show V = false; rw [hV]; simp [ha0]
      have hs : ¬ ((an : Int) + (kn : Int)) = 0 := by omega
      have hs2 : (((an : Int) + (kn : Int)) == 0) = false := by simp [hs]
      go_enter Tryz.func20, Tryz.ntmps20
      go_wp2_with (first | (rw [← hWS.out]))
      go_ret
      exact ⟨by rw [hV.out]; rfl, hbS.out⟩
  obtain ⟨S, hS⟩ : ∃ S, S = w.alloc (.cells #[.int .i64 v.id, .string v.tag, .string v.text, .slice aa an ac, .slice ka kn kc] 53) := ⟨_, rfl⟩
  have hbS : Below w.heap.size w S := by rw [hS]; exact (Below.refl _ _).alloc (Nat.le_refl _) _
  have hrS : S.heap[w.heap.size]? = some (.cells #[.int .i64 v.id, .string v.tag, .string v.text, .slice aa an ac, .slice ka kn kc] 53 (0, 0)) := by rw [hS]; exact heap_alloc_new w _
  have hzS : S.heap.size = w.heap.size + 1 := by rw [hS]; simp
  have x0 : S.cell? ⟨w.heap.size, 0, none⟩ = some (.int .i64 v.id) := by simp [World.cell?, hrS]
  have x1 : S.cell? ⟨w.heap.size, 1, none⟩ = some (.string v.tag) := by simp [World.cell?, hrS]
  have x2 : S.cell? ⟨w.heap.size, 2, none⟩ = some (.string v.text) := by simp [World.cell?, hrS]
  have x3 : S.cell? ⟨w.heap.size, 3, none⟩ = some (.slice aa an ac) := by simp [World.cell?, hrS]
  have x4 : S.cell? ⟨w.heap.size, 4, none⟩ = some (.slice ka kn kc) := by simp [World.cell?, hrS]
  have hWS : Hid (S = _) := hS
  replace hrS := Lib.hid hrS
  clear hS
  have hAS : FLs S S.heap.size v.attrs aa an := hA.later hbS
  have hKS : NLs S S.heap.size v.kids ka kn := hK.later hbS
  have he := ne_empty ht0
  have he' := not_isEmpty ht0
  rw [if_neg (by omega)] at hV
  obtain ⟨VA, hVA0⟩ : ∃ y, y = attrsB none v.attrs := ⟨_, rfl⟩
  rw [← hVA0] at hV
  have hVA : Hid (VA = false → V = false) := fun e => by rw [hV, e]; simp
  replace hVA0 := Lib.hid hVA0
  replace hV := Lib.hid hV
  replace hbS := Lib.hid hbS
  replace hAS := Lib.hid hAS
  replace hKS := Lib.hid hKS
  clear hA hK
  go_enter Tryz.func20, Tryz.ntmps20
  go_wp2_with (first | (rw [← hWS.out]))
  go_loopw [26] (fun i wr => ∃ k : Nat, k ≤ an ∧ i = .int .i64 (k : Nat) ∧ Below S.heap.size S wr ∧ VA = attrsB (prev v.attrs k) (v.attrs.drop k)) (fun i _ => an - (intOf i).toNat)
  case atStart => exact ⟨0, Nat.zero_le _, rfl, Below.refl _ _, hVA0.out⟩
  case round =>
    obtain ⟨k, hk9, rfl, hbk, hv⟩ := hrel
    have hzw : w.heap.size < wr.heap.size := by have := hbk.size; omega
    have hb := Lib.hid (hbS.out.trans (hbk.mono (by omega)))
    have z0 : wr.cell? ⟨w.heap.size, 0, none⟩ = some (.int .i64 v.id) := (hbk.cell (p := ⟨w.heap.size, 0, none⟩) (by show w.heap.size < _; omega)).trans x0
    have z1 : wr.cell? ⟨w.heap.size, 1, none⟩ = some (.string v.tag) := (hbk.cell (p := ⟨w.heap.size, 1, none⟩) (by show w.heap.size < _; omega)).trans x1
    have z2 : wr.cell? ⟨w.heap.size, 2, none⟩ = some (.string v.text) := (hbk.cell (p := ⟨w.heap.size, 2, none⟩) (by show w.heap.size < _; omega)).trans x2
    have z3 : wr.cell? ⟨w.heap.size, 3, none⟩ = some (.slice aa an ac) := (hbk.cell (p := ⟨w.heap.size, 3, none⟩) (by show w.heap.size < _; omega)).trans x3
    have z4 : wr.cell? ⟨w.heap.size, 4, none⟩ = some (.slice ka kn kc) := (hbk.cell (p := ⟨w.heap.size, 4, none⟩) (by show w.heap.size < _; omega)).trans x4
    clear x0 x1 x2 x3 x4
    by_cases hlt : k < an
    · have hlt9 : Hid (k + 1 ≤ an) := hlt
      obtain ⟨b1, o1, f, q, rfl, hb1, hg1, hc1, hf1⟩ := FLs.elem (hAS.out.kept hbk) k hlt
      have hbw : b1 < wr.heap.size := Nat.lt_of_lt_of_le hb1 hbk.size
      rw [attrs_step hg1] at hv
      obtain ⟨κ, hκ⟩ : ∃ κ, f.value.kind = κ := ⟨_, rfl⟩
      have hc1' : ∀ j, j < 9 → wr.cell? ⟨b1, o1 + (k * 9 + j), none⟩ = (([.string f.name, .int .u8 κ, .int .i64 f.value.n, .string f.value.s, .slice q.la q.ln q.lc, .slice q.fa q.fn q.fc, .int .u8 f.value.elem, .string f.value.key, .bool f.value.hk] : List Value))[j]? := by rw [← hκ]; exact hc1
      obtain ⟨hp1, hp2, hp3, hp4⟩ := hf1.val.plain
      have hks := hf1.k0
      have hzS9 := hbk.size
      replace hκ := Lib.hid hκ
      clear hc1
      have y0 : wr.cell? ⟨b1, o1 + k * 9, none⟩ = some (.string f.name) := hc1' 0 (by omega)
      have y1 : wr.cell? ⟨b1, o1 + k * 9 + 1, none⟩ = some (.int .u8 κ) := by rw [Nat.add_assoc]; exact hc1' 1 (by omega)
      have y2 : wr.cell? ⟨b1, o1 + k * 9 + 2, none⟩ = some (.int .i64 f.value.n) := by rw [Nat.add_assoc]; exact hc1' 2 (by omega)
      have y3 : wr.cell? ⟨b1, o1 + k * 9 + 3, none⟩ = some (.string f.value.s) := by rw [Nat.add_assoc]; exact hc1' 3 (by omega)
      have y4 : wr.cell? ⟨b1, o1 + k * 9 + 4, none⟩ = some (.slice q.la q.ln q.lc) := by rw [Nat.add_assoc]; exact hc1' 4 (by omega)
      have y5 : wr.cell? ⟨b1, o1 + k * 9 + 5, none⟩ = some (.slice q.fa q.fn q.fc) := by rw [Nat.add_assoc]; exact hc1' 5 (by omega)
      have y6 : wr.cell? ⟨b1, o1 + k * 9 + 6, none⟩ = some (.int .u8 f.value.elem) := by rw [Nat.add_assoc]; exact hc1' 6 (by omega)
      have y7 : wr.cell? ⟨b1, o1 + k * 9 + 7, none⟩ = some (.string f.value.key) := by rw [Nat.add_assoc]; exact hc1' 7 (by omega)
      have y8 : wr.cell? ⟨b1, o1 + k * 9 + 8, none⟩ = some (.bool f.value.hk) := by rw [Nat.add_assoc]; exact hc1' 8 (by omega)
      obtain ⟨S9, hS9⟩ : ∃ S9, S9 = wr.alloc (.cells #[.string f.name, .int .u8 κ, .int .i64 f.value.n, .string f.value.s, .slice q.la q.ln q.lc, .slice q.fa q.fn q.fc, .int .u8 f.value.elem, .string f.value.key, .bool f.value.hk] 61) := ⟨_, rfl⟩
      have hbS9 : Below wr.heap.size wr S9 := by rw [hS9]; exact (Below.refl _ _).alloc (Nat.le_refl _) _
      have hrS9 : S9.heap[wr.heap.size]? = some (.cells #[.string f.name, .int .u8 κ, .int .i64 f.value.n, .string f.value.s, .slice q.la q.ln q.lc, .slice q.fa q.fn q.fc, .int .u8 f.value.elem, .string f.value.key, .bool f.value.hk] 61 (0, 0)) := by rw [hS9]; exact heap_alloc_new wr _
      have hzS9 : S9.heap.size = wr.heap.size + 1 := by rw [hS9]; simp
      have t0 : S9.cell? ⟨wr.heap.size, 0, none⟩ = some (.string f.name) := by simp [World.cell?, hrS9]
      have t1 : S9.cell? ⟨wr.heap.size, 1, none⟩ = some (.int .u8 κ) := by simp [World.cell?, hrS9]
      have t2 : S9.cell? ⟨wr.heap.size, 2, none⟩ = some (.int .i64 f.value.n) := by simp [World.cell?, hrS9]
      have t3 : S9.cell? ⟨wr.heap.size, 3, none⟩ = some (.string f.value.s) := by simp [World.cell?, hrS9]
      have t4 : S9.cell? ⟨wr.heap.size, 4, none⟩ = some (.slice q.la q.ln q.lc) := by simp [World.cell?, hrS9]
      have t5 : S9.cell? ⟨wr.heap.size, 5, none⟩ = some (.slice q.fa q.fn q.fc) := by simp [World.cell?, hrS9]
      have t6 : S9.cell? ⟨wr.heap.size, 6, none⟩ = some (.int .u8 f.value.elem) := by simp [World.cell?, hrS9]
      have t7 : S9.cell? ⟨wr.heap.size, 7, none⟩ = some (.string f.value.key) := by simp [World.cell?, hrS9]
      have t8 : S9.cell? ⟨wr.heap.size, 8, none⟩ = some (.bool f.value.hk) := by simp [World.cell?, hrS9]
      have hWS9 : Hid (S9 = _) := hS9
      replace hrS9 := Lib.hid hrS9
      clear hS9
      have hb9 := Lib.hid (hb.out.trans (hbS9.mono hb.out.size))
      have hb8 := Lib.hid (hbk.trans (hbS9.mono hbk.size))
      have x3' : ∀ d : LowW S9, d.w.cell? ⟨w.heap.size, 3, none⟩ = some (.slice (some ⟨b1, o1, none⟩) an ac) := fun d => (d.cell (by show w.heap.size < _; omega)).trans ((hbS9.cell (p := ⟨w.heap.size, 3, none⟩) hzw).trans z3)
      have cN : ∀ d : LowW S9, Calls Tryz.prog 82 #[.string f.name] d.w fun e w' => e = .returned (.bool (nameB f.name)) ∧ ∃ d' : LowW S9, w' = d'.w := fun d => (showName_any f.name d.w hks).mono fun e w' h => ⟨h.1, d, h.2⟩
      obtain ⟨xN, hxN⟩ : ∃ y, y = nameB f.name := ⟨_, rfl⟩
      simp only [← hxN] at cN hv
      replace cN := Lib.hid cN
      replace hxN := Lib.hid hxN
      replace hf1 : FAt S9 S.heap.size f q := hf1.kept (hbS9.mono hbk.size)
      have hzS8 : S.heap.size ≤ S9.heap.size := by omega
      replace hbk := Lib.hid hbk
      replace hbS9 := Lib.hid hbS9
      clear z0 z1 z2 z3 z4 hks
      have t0' : ∀ d : LowW S9, d.w.cell? ⟨wr.heap.size, 0, none⟩ = some (.string f.name) := fun d => (d.cell (by show wr.heap.size < _; omega)).trans t0
      have t1' : ∀ d : LowW S9, d.w.cell? ⟨wr.heap.size, 1, none⟩ = some (.int .u8 κ) := fun d => (d.cell (by show wr.heap.size < _; omega)).trans t1
      have t2' : ∀ d : LowW S9, d.w.cell? ⟨wr.heap.size, 2, none⟩ = some (.int .i64 f.value.n) := fun d => (d.cell (by show wr.heap.size < _; omega)).trans t2
      have t3' : ∀ d : LowW S9, d.w.cell? ⟨wr.heap.size, 3, none⟩ = some (.string f.value.s) := fun d => (d.cell (by show wr.heap.size < _; omega)).trans t3
      have t4' : ∀ d : LowW S9, d.w.cell? ⟨wr.heap.size, 4, none⟩ = some (.slice q.la q.ln q.lc) := fun d => (d.cell (by show wr.heap.size < _; omega)).trans t4
      have t5' : ∀ d : LowW S9, d.w.cell? ⟨wr.heap.size, 5, none⟩ = some (.slice q.fa q.fn q.fc) := fun d => (d.cell (by show wr.heap.size < _; omega)).trans t5
      have t6' : ∀ d : LowW S9, d.w.cell? ⟨wr.heap.size, 6, none⟩ = some (.int .u8 f.value.elem) := fun d => (d.cell (by show wr.heap.size < _; omega)).trans t6
      have t7' : ∀ d : LowW S9, d.w.cell? ⟨wr.heap.size, 7, none⟩ = some (.string f.value.key) := fun d => (d.cell (by show wr.heap.size < _; omega)).trans t7
      have t8' : ∀ d : LowW S9, d.w.cell? ⟨wr.heap.size, 8, none⟩ = some (.bool f.value.hk) := fun d => (d.cell (by show wr.heap.size < _; omega)).trans t8
      cases xN
      · have hVf : Hid (V = false) := hVA.out (hv.trans rfl)
        replace hv := Lib.hid hv
        clear hf1 hp1 hp2 hp3 hp4
        go_wp2_with (first | (rw [← hWS9.out]))
        refine wp_region_low (by kernel_rfl) (by kernel_rfl) ?_
        repeat (go_big_quiet_step (first | (go_at_call 82; exact cN.out _)))
        refine wpQuiet_nil ?_
        rintro _ ⟨d, rfl⟩
        have hb' := Lib.hid (hb9.out.trans (d.low.mono hb9.out.size))
        have hb7 := Lib.hid (hb8.out.trans (d.low.mono hb8.out.size))
        go_wp2_with fail
        go_ret
        exact ⟨by rw [hVf.out]; rfl, hb'.out⟩
      · rcases Nat.eq_zero_or_pos k with rfl | h0
        · replace hv : VA = (attrV f.value && attrsB (prev v.attrs (0 + 1)) (v.attrs.drop (0 + 1))) := by rw [hv]; rfl
          simp only [Nat.zero_mul, Nat.add_zero] at y0 y1 y2 y3 y4 y5 y6 y7 y8
          by_cases hk1 : κ = 1
          · subst hk1
            have cC : Hid (∀ d : LowW S9, Calls Tryz.prog 83 #[.agg #[.int .u8 1, .int .i64 f.value.n, .string f.value.s, .slice q.la q.ln q.lc, .slice q.fa q.fn q.fc, .int .u8 f.value.elem, .string f.value.key, .bool f.value.hk]] d.w fun e w' => e = .returned (.bool (plainP 1 f.value.n f.value.s q.ln q.fn f.value.elem f.value.key f.value.hk)) ∧ ∃ d' : LowW S9, w' = d'.w) := fun d => by
              refine (valCheck_any 1 f.value.n f.value.s q.la q.fa q.ln q.lc q.fn q.fc f.value.elem f.value.key f.value.hk f.value.F d.w (by simp) hp3 hf1.val.k3 hf1.val.k5 ((hf1.val.F.kept (d.low.mono (by omega))).mono (by have := d.low.size; omega))).mono ?_
              rintro e w' ⟨rfl, h⟩
              exact ⟨rfl, d.more h⟩
            obtain ⟨xP, hxP⟩ : ∃ y, y = plainP 1 f.value.n f.value.s q.ln q.fn f.value.elem f.value.key f.value.hk := ⟨_, rfl⟩
            rw [← hxP] at cC
            replace hv : VA = (xP && attrsB (prev v.attrs (0 + 1)) (v.attrs.drop (0 + 1))) := by
              rw [hv, hxP]
              unfold attrV attrP
              rw [hκ.out, ← hp1, ← hp2]
              simp
            replace hf1 := Lib.hid hf1
            replace hp1 := Lib.hid hp1
            replace hp2 := Lib.hid hp2
            replace hxP := Lib.hid hxP
            clear hp3 hp4
            cases xP
            · have hVf : Hid (V = false) := hVA.out (hv.trans rfl)
              replace hv := Lib.hid hv
              go_wp2_with (first | (rw [← hWS9.out]))
              refine wp_region_low (by kernel_rfl) (by kernel_rfl) ?_
              repeat (go_big_quiet_step (first | (go_at_call 82; exact cN.out _) | (go_at_call 83; exact cC.out _)))
              refine wpQuiet_nil ?_
              rintro _ ⟨d, rfl⟩
              have hb' := Lib.hid (hb9.out.trans (d.low.mono hb9.out.size))
              have hb7 := Lib.hid (hb8.out.trans (d.low.mono hb8.out.size))
              go_wp2_with fail
              go_ret
              exact ⟨by rw [hVf.out]; rfl, hb'.out⟩
            · replace hv := Lib.hid (show VA = _ from hv.trans rfl)
              go_wp2_with (first | (rw [← hWS9.out]))
              refine wp_region_low (by kernel_rfl) (by kernel_rfl) ?_
              repeat (go_big_quiet_step (first | (go_at_call 82; exact cN.out _) | (go_at_call 83; exact cC.out _)))
              refine wpQuiet_nil ?_
              rintro _ ⟨d, rfl⟩
              have hb' := Lib.hid (hb9.out.trans (d.low.mono hb9.out.size))
              have hb7 := Lib.hid (hb8.out.trans (d.low.mono hb8.out.size))
              go_wp2_with fail
              go_roundw
              case rel => exact ⟨0 + 1, hlt9.out, by go_num, hb7.out, hv.out⟩
              case measure => simp [intOf]; have := hlt9.out; omega
          by_cases hk2 : κ = 2
          · subst hk2
            have cC : Hid (∀ d : LowW S9, Calls Tryz.prog 83 #[.agg #[.int .u8 2, .int .i64 f.value.n, .string f.value.s, .slice q.la q.ln q.lc, .slice q.fa q.fn q.fc, .int .u8 f.value.elem, .string f.value.key, .bool f.value.hk]] d.w fun e w' => e = .returned (.bool (plainP 2 f.value.n f.value.s q.ln q.fn f.value.elem f.value.key f.value.hk)) ∧ ∃ d' : LowW S9, w' = d'.w) := fun d => by
              refine (valCheck_any 2 f.value.n f.value.s q.la q.fa q.ln q.lc q.fn q.fc f.value.elem f.value.key f.value.hk f.value.F d.w (by simp) hp3 hf1.val.k3 hf1.val.k5 ((hf1.val.F.kept (d.low.mono (by omega))).mono (by have := d.low.size; omega))).mono ?_
              rintro e w' ⟨rfl, h⟩
              exact ⟨rfl, d.more h⟩
            obtain ⟨xP, hxP⟩ : ∃ y, y = plainP 2 f.value.n f.value.s q.ln q.fn f.value.elem f.value.key f.value.hk := ⟨_, rfl⟩
            rw [← hxP] at cC
            replace hv : VA = (xP && attrsB (prev v.attrs (0 + 1)) (v.attrs.drop (0 + 1))) := by
              rw [hv, hxP]
              unfold attrV attrP
              rw [hκ.out, ← hp1, ← hp2]
              simp
            replace hf1 := Lib.hid hf1
            replace hp1 := Lib.hid hp1
            replace hp2 := Lib.hid hp2
            replace hxP := Lib.hid hxP
            clear hp3 hp4
            cases xP
            · have hVf : Hid (V = false) := hVA.out (hv.trans rfl)
              replace hv := Lib.hid hv
              go_wp2_with (first | (rw [← hWS9.out]))
              refine wp_region_low (by kernel_rfl) (by kernel_rfl) ?_
              repeat (go_big_quiet_step (first | (go_at_call 82; exact cN.out _) | (go_at_call 83; exact cC.out _)))
              refine wpQuiet_nil ?_
              rintro _ ⟨d, rfl⟩
              have hb' := Lib.hid (hb9.out.trans (d.low.mono hb9.out.size))
              have hb7 := Lib.hid (hb8.out.trans (d.low.mono hb8.out.size))
              go_wp2_with fail
              go_ret
              exact ⟨by rw [hVf.out]; rfl, hb'.out⟩
            · replace hv := Lib.hid (show VA = _ from hv.trans rfl)
              go_wp2_with (first | (rw [← hWS9.out]))
              refine wp_region_low (by kernel_rfl) (by kernel_rfl) ?_
              repeat (go_big_quiet_step (first | (go_at_call 82; exact cN.out _) | (go_at_call 83; exact cC.out _)))
              refine wpQuiet_nil ?_
              rintro _ ⟨d, rfl⟩
              have hb' := Lib.hid (hb9.out.trans (d.low.mono hb9.out.size))
              have hb7 := Lib.hid (hb8.out.trans (d.low.mono hb8.out.size))
              go_wp2_with fail
              go_roundw
              case rel => exact ⟨0 + 1, hlt9.out, by go_num, hb7.out, hv.out⟩
              case measure => simp [intOf]; have := hlt9.out; omega
          by_cases hk3 : κ = 3
          · subst hk3
            have cC : Hid (∀ d : LowW S9, Calls Tryz.prog 83 #[.agg #[.int .u8 3, .int .i64 f.value.n, .string f.value.s, .slice q.la q.ln q.lc, .slice q.fa q.fn q.fc, .int .u8 f.value.elem, .string f.value.key, .bool f.value.hk]] d.w fun e w' => e = .returned (.bool (plainP 3 f.value.n f.value.s q.ln q.fn f.value.elem f.value.key f.value.hk)) ∧ ∃ d' : LowW S9, w' = d'.w) := fun d => by
              refine (valCheck_any 3 f.value.n f.value.s q.la q.fa q.ln q.lc q.fn q.fc f.value.elem f.value.key f.value.hk f.value.F d.w (by simp) hp3 hf1.val.k3 hf1.val.k5 ((hf1.val.F.kept (d.low.mono (by omega))).mono (by have := d.low.size; omega))).mono ?_
              rintro e w' ⟨rfl, h⟩
              exact ⟨rfl, d.more h⟩
            obtain ⟨xP, hxP⟩ : ∃ y, y = plainP 3 f.value.n f.value.s q.ln q.fn f.value.elem f.value.key f.value.hk := ⟨_, rfl⟩
            rw [← hxP] at cC
            replace hv : VA = (xP && attrsB (prev v.attrs (0 + 1)) (v.attrs.drop (0 + 1))) := by
              rw [hv, hxP]
              unfold attrV attrP
              rw [hκ.out, ← hp1, ← hp2]
              simp
            replace hf1 := Lib.hid hf1
            replace hp1 := Lib.hid hp1
            replace hp2 := Lib.hid hp2
            replace hxP := Lib.hid hxP
            clear hp3 hp4
            cases xP
            · have hVf : Hid (V = false) := hVA.out (hv.trans rfl)
              replace hv := Lib.hid hv
              go_wp2_with (first | (rw [← hWS9.out]))
              refine wp_region_low (by kernel_rfl) (by kernel_rfl) ?_
              repeat (go_big_quiet_step (first | (go_at_call 82; exact cN.out _) | (go_at_call 83; exact cC.out _)))
              refine wpQuiet_nil ?_
              rintro _ ⟨d, rfl⟩
              have hb' := Lib.hid (hb9.out.trans (d.low.mono hb9.out.size))
              have hb7 := Lib.hid (hb8.out.trans (d.low.mono hb8.out.size))
              go_wp2_with fail
              go_ret
              exact ⟨by rw [hVf.out]; rfl, hb'.out⟩
            · replace hv := Lib.hid (show VA = _ from hv.trans rfl)
              go_wp2_with (first | (rw [← hWS9.out]))
              refine wp_region_low (by kernel_rfl) (by kernel_rfl) ?_
              repeat (go_big_quiet_step (first | (go_at_call 82; exact cN.out _) | (go_at_call 83; exact cC.out _)))
              refine wpQuiet_nil ?_
              rintro _ ⟨d, rfl⟩
              have hb' := Lib.hid (hb9.out.trans (d.low.mono hb9.out.size))
              have hb7 := Lib.hid (hb8.out.trans (d.low.mono hb8.out.size))
              go_wp2_with fail
              go_roundw
              case rel => exact ⟨0 + 1, hlt9.out, by go_num, hb7.out, hv.out⟩
              case measure => simp [intOf]; have := hlt9.out; omega
          replace hv : VA = (false && attrsB (prev v.attrs (0 + 1)) (v.attrs.drop (0 + 1))) := by
            rw [hv]
            unfold attrV attrP
            rw [hκ.out]
            simp [hk1, hk2, hk3]
          have g1 : (κ == 1) = false := by simp [hk1]
          have g2 : (κ == 2) = false := by simp [hk2]
          have g3 : (κ == 3) = false := by simp [hk3]
          have g1' : (κ != 1) = true := by simp [hk1]
          have g2' : (κ != 2) = true := by simp [hk2]
          have g3' : (κ != 3) = true := by simp [hk3]
          clear hf1 hp1 hp2 hp3 hp4
          have hVf : Hid (V = false) := hVA.out (hv.trans rfl)
          replace hv := Lib.hid hv
          go_wp2_with (first | (rw [← hWS9.out]))
          refine wp_region_low (by kernel_rfl) (by kernel_rfl) ?_
          repeat (go_big_quiet_step (first | (go_at_call 82; exact cN.out _)))
          refine wpQuiet_nil ?_
          rintro _ ⟨d, rfl⟩
          have hb' := Lib.hid (hb9.out.trans (d.low.mono hb9.out.size))
          have hb7 := Lib.hid (hb8.out.trans (d.low.mono hb8.out.size))
          go_wp2_with fail
          go_ret
          exact ⟨by rw [hVf.out]; rfl, hb'.out⟩
        · obtain ⟨j, rfl⟩ : ∃ j, k = j + 1 := ⟨k - 1, by omega⟩
          obtain ⟨b2, o2, f2, q2, e2, _, hg2, hc2, hf2⟩ := FLs.elem (hAS.out.kept hbk.out) j (by omega)
          obtain ⟨rfl, rfl⟩ : b1 = b2 ∧ o1 = o2 := by injection e2 with e2; injection e2 with e3 e4; exact ⟨e3, e4⟩
          have u0 : ∀ d : LowW S9, d.w.cell? ⟨b1, o1 + j * 9, none⟩ = some (.string f2.name) := fun d => (d.cell (by show b1 < _; omega)).trans ((hbS9.out.cell (p := ⟨b1, o1 + j * 9, none⟩) hbw).trans (hc2 0 (by omega)))
          have hp : prev v.attrs (j + 1) = some f2.name := by
            show (if j + 1 = 0 then none else (v.attrs[j + 1 - 1]?).map Fld.name) = _
            rw [if_neg (by omega), Nat.add_sub_cancel, hg2]; rfl
          rw [hp] at hv
          obtain ⟨xL, hxL⟩ : ∃ y, y = less f2.name f.name := ⟨_, rfl⟩
          replace hv : VA = (xL && (attrV f.value && attrsB (prev v.attrs (j + 1 + 1)) (v.attrs.drop (j + 1 + 1)))) := by rw [hv, hxL]; rfl
          have hxL' : Op.bytesLess f2.name.toList f.name.toList = xL := hxL.symm
          replace hxL := Lib.hid hxL
          clear e2 hc2 hf2 hg2 hp
          cases xL
          · have hVf : Hid (V = false) := hVA.out (hv.trans rfl)
            replace hv := Lib.hid hv
            clear hf1 hp1 hp2 hp3 hp4
            go_wp2_with (first | (rw [← hWS9.out]))
            refine wp_region_low (by kernel_rfl) (by kernel_rfl) ?_
            repeat (go_big_quiet_step (first | (go_at_call 82; exact cN.out _)))
            refine wpQuiet_nil ?_
            rintro _ ⟨d, rfl⟩
            have hb' := Lib.hid (hb9.out.trans (d.low.mono hb9.out.size))
            have hb7 := Lib.hid (hb8.out.trans (d.low.mono hb8.out.size))
            go_wp2_with fail
            go_ret
            exact ⟨by rw [hVf.out]; rfl, hb'.out⟩
          · replace hv : VA = (attrV f.value && attrsB (prev v.attrs (j + 1 + 1)) (v.attrs.drop (j + 1 + 1))) := by rw [hv]; rfl
            by_cases hk1 : κ = 1
            · subst hk1
              have cC : Hid (∀ d : LowW S9, Calls Tryz.prog 83 #[.agg #[.int .u8 1, .int .i64 f.value.n, .string f.value.s, .slice q.la q.ln q.lc, .slice q.fa q.fn q.fc, .int .u8 f.value.elem, .string f.value.key, .bool f.value.hk]] d.w fun e w' => e = .returned (.bool (plainP 1 f.value.n f.value.s q.ln q.fn f.value.elem f.value.key f.value.hk)) ∧ ∃ d' : LowW S9, w' = d'.w) := fun d => by
                refine (valCheck_any 1 f.value.n f.value.s q.la q.fa q.ln q.lc q.fn q.fc f.value.elem f.value.key f.value.hk f.value.F d.w (by simp) hp3 hf1.val.k3 hf1.val.k5 ((hf1.val.F.kept (d.low.mono (by omega))).mono (by have := d.low.size; omega))).mono ?_
                rintro e w' ⟨rfl, h⟩
                exact ⟨rfl, d.more h⟩
              obtain ⟨xP, hxP⟩ : ∃ y, y = plainP 1 f.value.n f.value.s q.ln q.fn f.value.elem f.value.key f.value.hk := ⟨_, rfl⟩
              rw [← hxP] at cC
              replace hv : VA = (xP && attrsB (prev v.attrs (j + 1 + 1)) (v.attrs.drop (j + 1 + 1))) := by
                rw [hv, hxP]
                unfold attrV attrP
                rw [hκ.out, ← hp1, ← hp2]
                simp
              replace hf1 := Lib.hid hf1
              replace hp1 := Lib.hid hp1
              replace hp2 := Lib.hid hp2
              replace hxP := Lib.hid hxP
              clear hp3 hp4
              cases xP
              · have hVf : Hid (V = false) := hVA.out (hv.trans rfl)
                replace hv := Lib.hid hv
                go_wp2_with (first | (rw [← hWS9.out]))
                refine wp_region_low (by kernel_rfl) (by kernel_rfl) ?_
                repeat (go_big_quiet_step (first | (go_at_call 82; exact cN.out _) | (go_at_call 83; exact cC.out _)))
                refine wpQuiet_nil ?_
                rintro _ ⟨d, rfl⟩
                have hb' := Lib.hid (hb9.out.trans (d.low.mono hb9.out.size))
                have hb7 := Lib.hid (hb8.out.trans (d.low.mono hb8.out.size))
                go_wp2_with fail
                go_ret
                exact ⟨by rw [hVf.out]; rfl, hb'.out⟩
              · replace hv := Lib.hid (show VA = _ from hv.trans rfl)
                go_wp2_with (first | (rw [← hWS9.out]))
                refine wp_region_low (by kernel_rfl) (by kernel_rfl) ?_
                repeat (go_big_quiet_step (first | (go_at_call 82; exact cN.out _) | (go_at_call 83; exact cC.out _)))
                refine wpQuiet_nil ?_
                rintro _ ⟨d, rfl⟩
                have hb' := Lib.hid (hb9.out.trans (d.low.mono hb9.out.size))
                have hb7 := Lib.hid (hb8.out.trans (d.low.mono hb8.out.size))
                go_wp2_with fail
                go_roundw
                case rel => exact ⟨j + 1 + 1, hlt9.out, by go_num, hb7.out, hv.out⟩
                case measure => simp [intOf]; have := hlt9.out; omega
            by_cases hk2 : κ = 2
            · subst hk2
              have cC : Hid (∀ d : LowW S9, Calls Tryz.prog 83 #[.agg #[.int .u8 2, .int .i64 f.value.n, .string f.value.s, .slice q.la q.ln q.lc, .slice q.fa q.fn q.fc, .int .u8 f.value.elem, .string f.value.key, .bool f.value.hk]] d.w fun e w' => e = .returned (.bool (plainP 2 f.value.n f.value.s q.ln q.fn f.value.elem f.value.key f.value.hk)) ∧ ∃ d' : LowW S9, w' = d'.w) := fun d => by
                refine (valCheck_any 2 f.value.n f.value.s q.la q.fa q.ln q.lc q.fn q.fc f.value.elem f.value.key f.value.hk f.value.F d.w (by simp) hp3 hf1.val.k3 hf1.val.k5 ((hf1.val.F.kept (d.low.mono (by omega))).mono (by have := d.low.size; omega))).mono ?_
                rintro e w' ⟨rfl, h⟩
                exact ⟨rfl, d.more h⟩
              obtain ⟨xP, hxP⟩ : ∃ y, y = plainP 2 f.value.n f.value.s q.ln q.fn f.value.elem f.value.key f.value.hk := ⟨_, rfl⟩
              rw [← hxP] at cC
              replace hv : VA = (xP && attrsB (prev v.attrs (j + 1 + 1)) (v.attrs.drop (j + 1 + 1))) := by
                rw [hv, hxP]
                unfold attrV attrP
                rw [hκ.out, ← hp1, ← hp2]
                simp
              replace hf1 := Lib.hid hf1
              replace hp1 := Lib.hid hp1
              replace hp2 := Lib.hid hp2
              replace hxP := Lib.hid hxP
              clear hp3 hp4
              cases xP
              · have hVf : Hid (V = false) := hVA.out (hv.trans rfl)
                replace hv := Lib.hid hv
                go_wp2_with (first | (rw [← hWS9.out]))
                refine wp_region_low (by kernel_rfl) (by kernel_rfl) ?_
                repeat (go_big_quiet_step (first | (go_at_call 82; exact cN.out _) | (go_at_call 83; exact cC.out _)))
                refine wpQuiet_nil ?_
                rintro _ ⟨d, rfl⟩
                have hb' := Lib.hid (hb9.out.trans (d.low.mono hb9.out.size))
                have hb7 := Lib.hid (hb8.out.trans (d.low.mono hb8.out.size))
                go_wp2_with fail
                go_ret
                exact ⟨by rw [hVf.out]; rfl, hb'.out⟩
              · replace hv := Lib.hid (show VA = _ from hv.trans rfl)
                go_wp2_with (first | (rw [← hWS9.out]))
                refine wp_region_low (by kernel_rfl) (by kernel_rfl) ?_
                repeat (go_big_quiet_step (first | (go_at_call 82; exact cN.out _) | (go_at_call 83; exact cC.out _)))
                refine wpQuiet_nil ?_
                rintro _ ⟨d, rfl⟩
                have hb' := Lib.hid (hb9.out.trans (d.low.mono hb9.out.size))
                have hb7 := Lib.hid (hb8.out.trans (d.low.mono hb8.out.size))
                go_wp2_with fail
                go_roundw
                case rel => exact ⟨j + 1 + 1, hlt9.out, by go_num, hb7.out, hv.out⟩
                case measure => simp [intOf]; have := hlt9.out; omega
            by_cases hk3 : κ = 3
            · subst hk3
              have cC : Hid (∀ d : LowW S9, Calls Tryz.prog 83 #[.agg #[.int .u8 3, .int .i64 f.value.n, .string f.value.s, .slice q.la q.ln q.lc, .slice q.fa q.fn q.fc, .int .u8 f.value.elem, .string f.value.key, .bool f.value.hk]] d.w fun e w' => e = .returned (.bool (plainP 3 f.value.n f.value.s q.ln q.fn f.value.elem f.value.key f.value.hk)) ∧ ∃ d' : LowW S9, w' = d'.w) := fun d => by
                refine (valCheck_any 3 f.value.n f.value.s q.la q.fa q.ln q.lc q.fn q.fc f.value.elem f.value.key f.value.hk f.value.F d.w (by simp) hp3 hf1.val.k3 hf1.val.k5 ((hf1.val.F.kept (d.low.mono (by omega))).mono (by have := d.low.size; omega))).mono ?_
                rintro e w' ⟨rfl, h⟩
                exact ⟨rfl, d.more h⟩
              obtain ⟨xP, hxP⟩ : ∃ y, y = plainP 3 f.value.n f.value.s q.ln q.fn f.value.elem f.value.key f.value.hk := ⟨_, rfl⟩
              rw [← hxP] at cC
              replace hv : VA = (xP && attrsB (prev v.attrs (j + 1 + 1)) (v.attrs.drop (j + 1 + 1))) := by
                rw [hv, hxP]
                unfold attrV attrP
                rw [hκ.out, ← hp1, ← hp2]
                simp
              replace hf1 := Lib.hid hf1
              replace hp1 := Lib.hid hp1
              replace hp2 := Lib.hid hp2
              replace hxP := Lib.hid hxP
              clear hp3 hp4
              cases xP
              · have hVf : Hid (V = false) := hVA.out (hv.trans rfl)
                replace hv := Lib.hid hv
                go_wp2_with (first | (rw [← hWS9.out]))
                refine wp_region_low (by kernel_rfl) (by kernel_rfl) ?_
                repeat (go_big_quiet_step (first | (go_at_call 82; exact cN.out _) | (go_at_call 83; exact cC.out _)))
                refine wpQuiet_nil ?_
                rintro _ ⟨d, rfl⟩
                have hb' := Lib.hid (hb9.out.trans (d.low.mono hb9.out.size))
                have hb7 := Lib.hid (hb8.out.trans (d.low.mono hb8.out.size))
                go_wp2_with fail
                go_ret
                exact ⟨by rw [hVf.out]; rfl, hb'.out⟩
              · replace hv := Lib.hid (show VA = _ from hv.trans rfl)
                go_wp2_with (first | (rw [← hWS9.out]))
                refine wp_region_low (by kernel_rfl) (by kernel_rfl) ?_
                repeat (go_big_quiet_step (first | (go_at_call 82; exact cN.out _) | (go_at_call 83; exact cC.out _)))
                refine wpQuiet_nil ?_
                rintro _ ⟨d, rfl⟩
                have hb' := Lib.hid (hb9.out.trans (d.low.mono hb9.out.size))
                have hb7 := Lib.hid (hb8.out.trans (d.low.mono hb8.out.size))
                go_wp2_with fail
                go_roundw
                case rel => exact ⟨j + 1 + 1, hlt9.out, by go_num, hb7.out, hv.out⟩
                case measure => simp [intOf]; have := hlt9.out; omega
            replace hv : VA = (false && attrsB (prev v.attrs (j + 1 + 1)) (v.attrs.drop (j + 1 + 1))) := by
              rw [hv]
              unfold attrV attrP
              rw [hκ.out]
              simp [hk1, hk2, hk3]
            have g1 : (κ == 1) = false := by simp [hk1]
            have g2 : (κ == 2) = false := by simp [hk2]
            have g3 : (κ == 3) = false := by simp [hk3]
            have g1' : (κ != 1) = true := by simp [hk1]
            have g2' : (κ != 2) = true := by simp [hk2]
            have g3' : (κ != 3) = true := by simp [hk3]
            clear hf1 hp1 hp2 hp3 hp4
            have hVf : Hid (V = false) := hVA.out (hv.trans rfl)
            replace hv := Lib.hid hv
            go_wp2_with (first | (rw [← hWS9.out]))
            refine wp_region_low (by kernel_rfl) (by kernel_rfl) ?_
            repeat (go_big_quiet_step (first | (go_at_call 82; exact cN.out _)))
            refine wpQuiet_nil ?_
            rintro _ ⟨d, rfl⟩
            have hb' := Lib.hid (hb9.out.trans (d.low.mono hb9.out.size))
            have hb7 := Lib.hid (hb8.out.trans (d.low.mono hb8.out.size))
            go_wp2_with fail
            go_ret
            exact ⟨by rw [hVf.out]; rfl, hb'.out⟩
    · have hkn : an = k := by omega
      subst hkn
      rw [attrs_end (by rw [← ha1.out]; exact Nat.le_refl _)] at hv
      subst hv
      have cK := may1_contains v.kids hS.out ka kn kc wr (hKS.out.later hbk)
      obtain ⟨xK, hxK⟩ : ∃ y, y = maysB v.kids := ⟨_, rfl⟩
      obtain ⟨xN, hxN⟩ : ∃ y, y = nameB v.tag := ⟨_, rfl⟩
      have cN := showName_any v.tag wr ht
      have hV' := hV.out
      rw [← hxK, ← hxN] at hV'
      rw [← hxK] at cK
      rw [← hxN] at cN
      replace hxK := Lib.hid hxK
      replace hxN := Lib.hid hxN
      replace cK := Lib.hid cK
      replace cN := Lib.hid cN
      replace hbk := Lib.hid hbk
      cases xN
      · replace hV' := Lib.hid (show V = false from hV'.trans rfl)
        go_wp2_with (go_at_call 82; refine cN.out.mono ?_)
        first | rintro e w3 rfl rfl | rintro e w3 ⟨rfl, rfl⟩
        go_wp2_with fail
        go_ret
        exact ⟨by rw [hV'.out]; rfl, hb.out⟩
      · by_cases hx0 : 0 < v.text.size
        · have hex := ne_empty hx0
          have hex' := not_isEmpty hx0
          rw [decide_eq_false (by omega)] at hV'
          replace hV' := Lib.hid (show V = false from hV'.trans rfl)
          go_wp2_with (go_at_call 82; refine cN.out.mono ?_)
          first | rintro e w3 rfl rfl | rintro e w3 ⟨rfl, rfl⟩
          go_wp2_with fail
          go_ret
          exact ⟨by rw [hV'.out]; rfl, hb.out⟩
        · have hx1 : v.text.size = 0 := by omega
          have hx2 := size_zero hx0
          rw [decide_eq_true hx1] at hV'
          rw [hx2] at z2
          clear hx0 hx1
          replace hx2 := Lib.hid hx2
          replace hV' := Lib.hid (show V = xK from hV'.trans (by simp))
          go_wp2_with (first | (go_at_call 82; refine cN.out.mono ?_) | (go_at_call 18; refine cK.out.mono ?_))
          first | rintro e w3 rfl rfl | rintro e w3 ⟨rfl, rfl⟩
          go_wp2_with (first | (go_at_call 18; refine cK.out.mono ?_))
          first | rintro e w3 rfl hb3 | rintro e w3 ⟨rfl, hb3⟩
          have hb4 := Lib.hid (hb.out.trans (hb3.mono hb.out.size))
          clear hb3
          go_wp2_with fail
          go_ret
          exact ⟨by rw [hV'.out]; first | rfl | simp, hb4.out⟩
theorem may_any (v : Nd) : MayV v := Nd.ind (fun i t x a K hK => may_of _ hK) v
theorem text1_any2 (L : List Nd) (a : Option Addr) (n c : Nat) (w : World) (h : NLs w w.heap.size L a n) :
    Calls Tryz.prog 18 #[.slice a n c, .func (.func 19) #[] #[]] w fun e w' => e = .returned (.bool (!maysB L)) ∧ Below w.heap.size w w' := text1_contains L (fun v _ => may_any v) a n c w h
end Go.Proofs.YtehcbicngbibgaaGreatDoor
