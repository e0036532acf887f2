/- The reference's May: which nodes may be shown. -/
import Derived.Test.YtehcbicngbibgaaGreatDoorZRa
namespace Go.Proofs.YtehcbicngbibgaaGreatDoor
open Go Go.RowKit
mutual
def mayB : Nd → Bool
  | .mk _ t x a K => if t.size = 0 then decide (a.length = 0) && (decide (K.length = 0) && decide (x.size ≤ 4096)) else nameB t && (decide (x.size = 0) && (attrsB none a && maysB K))
def maysB : List Nd → Bool
  | [] => true
  | v :: r => mayB v && maysB r
end
theorem mayB_eq (v : Nd) : mayB v = if v.tag.size = 0 then decide (v.attrs.length = 0) && (decide (v.kids.length = 0) && decide (v.text.size ≤ 4096)) else nameB v.tag && (decide (v.text.size = 0) && (attrsB none v.attrs && maysB v.kids)) := by
  cases v; rw [mayB]; rfl
theorem not_isEmpty {s : ByteArray} (h : 0 < s.size) : s.toList.isEmpty = false := by
  have := ne_empty h
  cases e : s.toList with
  | nil => exact absurd e this
  | cons => rfl
theorem mays_end {L : List Nd} {k : Nat} (h : L.length ≤ k) : maysB (L.drop k) = true := by rw [List.drop_eq_nil_of_le h, maysB]
theorem mays_step {L : List Nd} {k : Nat} {v : Nd} (h : L[k]? = some v) : maysB (L.drop k) = (mayB v && maysB (L.drop (k + 1))) := by
  have hk := (List.getElem?_eq_some_iff.1 h).1
  rw [List.drop_eq_getElem_cons hk, (List.getElem?_eq_some_iff.1 h).2, maysB]
theorem NAt.plain {w : World} {B : Nat} {v : Nd} {q : NP} (h : NAt w B v q) : q.an = v.attrs.length ∧ q.kn = v.kids.length ∧ q.an ≤ 1152921504606846976 ∧ q.kn ≤ 1152921504606846976 := by
  have h1 := h.A.1; have h2 := h.K.1
  rw [List.length_map] at h1 h2
  exact ⟨h1, h2, h.A.2.1, h.K.2.1⟩
def MayR (L : List Nd) : Prop := ∀ (a : Option Addr) (n c : Nat) (w : World), NLs w w.heap.size L a n → Calls Tryz.prog 23 #[.slice a n c] w fun e w' => e = .returned (.bool (maysB L)) ∧ Below w.heap.size w w'
set_option maxHeartbeats 2000000 in
set_option maxRecDepth 100000 in
theorem mayR_of (L : List Nd) (hS : ∀ v ∈ L, MayR v.kids) : MayR L := by
  intro a n c w h
  have hl := h.1
  rw [List.length_map] at hl
  have hn := h.2.1
  replace hl := Lib.hid hl
  replace h := Lib.hid h
  replace hS := Lib.hid hS
  obtain ⟨V, hV⟩ : ∃ V, V = maysB L := ⟨_, rfl⟩
  rw [← hV]
  replace hV := Lib.hid hV
  go_enter Tryz.func23, Tryz.ntmps23
  go_wp2_with fail
  go_loopw [3] (fun i wr => ∃ k : Nat, k ≤ n ∧ i = .int .i64 (k : Nat) ∧ Below w.heap.size w wr ∧ V = maysB (L.drop k)) (fun i _ => n - (intOf i).toNat)
  case atStart => exact ⟨0, Nat.zero_le _, rfl, Below.refl _ _, hV.out⟩
  case round =>
    obtain ⟨k, hk, rfl, hb, hv⟩ := hrel
    by_cases hlt : k < n
    · have hlt9 : Hid (k + 1 ≤ n) := hlt
      obtain ⟨b1, o1, v, q, rfl, hb1, hg1, hc1, hv1⟩ := NLs.elem (h.out.kept hb) k hlt
      rw [mays_step hg1, mayB_eq] at hv
      have hSk := Lib.hid (hS.out v (List.mem_of_getElem? hg1))
      have y0 : wr.cell? ⟨b1, o1 + k * 5, none⟩ = some (.int .i64 v.id) := hc1 0 (by omega)
      have y1 : wr.cell? ⟨b1, o1 + k * 5 + 1, none⟩ = some (.string v.tag) := by rw [Nat.add_assoc]; exact hc1 1 (by omega)
      have y2 : wr.cell? ⟨b1, o1 + k * 5 + 2, none⟩ = some (.string v.text) := by rw [Nat.add_assoc]; exact hc1 2 (by omega)
      have y3 : wr.cell? ⟨b1, o1 + k * 5 + 3, none⟩ = some (.slice q.aa q.an q.ac) := by rw [Nat.add_assoc]; exact hc1 3 (by omega)
      have y4 : wr.cell? ⟨b1, o1 + k * 5 + 4, none⟩ = some (.slice q.ka q.kn q.kc) := by rw [Nat.add_assoc]; exact hc1 4 (by omega)
      obtain ⟨S, hS⟩ : ∃ S, S = wr.alloc (.cells #[.int .i64 v.id, .string v.tag, .string v.text, .slice q.aa q.an q.ac, .slice q.ka q.kn q.kc] 53) := ⟨_, rfl⟩
      have hbS : Below wr.heap.size wr S := by rw [hS]; exact (Below.refl _ _).alloc (Nat.le_refl _) _
      have hrS : S.heap[wr.heap.size]? = some (.cells #[.int .i64 v.id, .string v.tag, .string v.text, .slice q.aa q.an q.ac, .slice q.ka q.kn q.kc] 53 (0, 0)) := by rw [hS]; exact heap_alloc_new wr _
      have hzS : S.heap.size = wr.heap.size + 1 := by rw [hS]; simp
      have x0 : S.cell? ⟨wr.heap.size, 0, none⟩ = some (.int .i64 v.id) := by simp [World.cell?, hrS]
      have x1 : S.cell? ⟨wr.heap.size, 1, none⟩ = some (.string v.tag) := by simp [World.cell?, hrS]
      have x2 : S.cell? ⟨wr.heap.size, 2, none⟩ = some (.string v.text) := by simp [World.cell?, hrS]
      have x3 : S.cell? ⟨wr.heap.size, 3, none⟩ = some (.slice q.aa q.an q.ac) := by simp [World.cell?, hrS]
      have x4 : S.cell? ⟨wr.heap.size, 4, none⟩ = some (.slice q.ka q.kn q.kc) := by simp [World.cell?, hrS]
      have hWS : Hid (S = _) := hS
      replace hrS := Lib.hid hrS
      clear hS
      obtain ⟨hp1, hp2, hp3, hp4⟩ := hv1.plain
      have ht := hv1.k2
      have hx := hv1.k3
      have hvS := (hv1.kept (hbS.mono hb.size)).mono (Nat.le_trans hb.size hbS.size)
      have hbw := hb.trans (hbS.mono hb.size)
      have cA := Lib.hid (refAttrs_any v.attrs q.aa q.an q.ac S hvS.A)
      have cM : Hid (∀ W, Below S.heap.size S W → Calls Tryz.prog 23 #[.slice q.ka q.kn q.kc] W fun e w' => e = .returned (.bool (maysB v.kids)) ∧ Below W.heap.size W w') := fun W hW => hSk.out q.ka q.kn q.kc W (hvS.K.later hW)
      have cN : Hid (∀ W, Calls Tryz.prog 89 #[.string v.tag] W fun e w' => e = .returned (.bool (nameB v.tag)) ∧ w' = W) := fun W => refName_any v.tag W ht
      obtain ⟨xN, hxN⟩ : ∃ y, y = nameB v.tag := ⟨_, rfl⟩
      rw [← hxN] at hv cN
      obtain ⟨xA, hxA⟩ : ∃ y, y = attrsB none v.attrs := ⟨_, rfl⟩
      rw [← hxA] at hv cA
      obtain ⟨xM, hxM⟩ : ∃ y, y = maysB v.kids := ⟨_, rfl⟩
      rw [← hxM] at hv cM
      rw [← hp1, ← hp2] at hv
      replace hxA := Lib.hid hxA
      replace hxN := Lib.hid hxN
      replace hxM := Lib.hid hxM
      replace hb := Lib.hid hb
      replace hbS := Lib.hid hbS
      replace hbw := Lib.hid hbw
      clear hp1 hp2 hc1 hv1 hvS hg1 hSk
      by_cases ht0 : 0 < v.tag.size
      · have he := ne_empty ht0
        have he' := not_isEmpty ht0
        rw [if_neg (by omega)] at hv
        cases xN
        · replace hv := Lib.hid (show V = false from hv.trans rfl)
          go_wp2_with (first | (rw [← hWS.out]) | (go_at_call 89; refine (cN.out _).mono ?_))
          first | rintro e w3 rfl rfl | rintro e w3 ⟨rfl, rfl⟩
          go_wp2_with fail
          go_ret
          exact ⟨by rw [hv.out]; rfl, hbw.out⟩
        · by_cases hx0 : 0 < v.text.size
          · have hex := ne_empty hx0
            have hex' := not_isEmpty hx0
            rw [decide_eq_false (by omega)] at hv
            replace hv := Lib.hid (show V = false from hv.trans rfl)
            go_wp2_with (first | (rw [← hWS.out]) | (go_at_call 89; refine (cN.out _).mono ?_))
            first | rintro e w3 rfl rfl | rintro e w3 ⟨rfl, rfl⟩
            go_wp2_with fail
            go_ret
            exact ⟨by rw [hv.out]; rfl, hbw.out⟩
          · have hx1 : v.text.size = 0 := by omega
            have hx2 := size_zero hx0
            rw [decide_eq_true hx1] at hv
            rw [hx2] at x2
            clear hx0 hx1
            replace hx2 := Lib.hid hx2
            cases xA
            · replace hv := Lib.hid (show V = false from hv.trans rfl)
              go_wp2_with (first | (rw [← hWS.out]) | (go_at_call 89; refine (cN.out _).mono ?_))
              first | rintro e w3 rfl rfl | rintro e w3 ⟨rfl, rfl⟩
              go_wp2_with (go_at_call 90; refine cA.out.mono ?_)
              first | rintro e w4 rfl hb4 | rintro e w4 ⟨rfl, hb4⟩
              have hb4' := Lib.hid (hbw.out.trans (hb4.mono hbw.out.size))
              clear hb4
              go_wp2_with fail
              go_ret
              exact ⟨by rw [hv.out]; rfl, hb4'.out⟩
            · replace hv : V = (xM && maysB (L.drop (k + 1))) := hv.trans rfl
              cases xM
              · replace hv := Lib.hid (show V = false from hv.trans rfl)
                go_wp2_with (first | (rw [← hWS.out]) | (go_at_call 89; refine (cN.out _).mono ?_))
                first | rintro e w3 rfl rfl | rintro e w3 ⟨rfl, rfl⟩
                go_wp2_with (go_at_call 90; refine cA.out.mono ?_)
                first | rintro e w4 rfl hb4 | rintro e w4 ⟨rfl, hb4⟩
                have hb4' := Lib.hid (hbw.out.trans (hb4.mono hbw.out.size))
                have z4 := (hb4.cell (p := ⟨wr.heap.size, 4, none⟩) (by show wr.heap.size < _; omega)).trans x4
                have cM4 := Lib.hid (cM.out w4 hb4)
                clear hb4
                go_wp2_with (go_at_call 23; refine cM4.out.mono ?_)
                first | rintro e w5 rfl hb5 | rintro e w5 ⟨rfl, hb5⟩
                have hb5' := Lib.hid (hb4'.out.trans (hb5.mono hb4'.out.size))
                clear hb5
                go_wp2_with fail
                go_ret
                exact ⟨by rw [hv.out]; rfl, hb5'.out⟩
              · replace hv := Lib.hid (show V = maysB (L.drop (k + 1)) from hv.trans rfl)
                go_wp2_with (first | (rw [← hWS.out]) | (go_at_call 89; refine (cN.out _).mono ?_))
                first | rintro e w3 rfl rfl | rintro e w3 ⟨rfl, rfl⟩
                go_wp2_with (go_at_call 90; refine cA.out.mono ?_)
                first | rintro e w4 rfl hb4 | rintro e w4 ⟨rfl, hb4⟩
                have hb4' := Lib.hid (hbw.out.trans (hb4.mono hbw.out.size))
                have z4 := (hb4.cell (p := ⟨wr.heap.size, 4, none⟩) (by show wr.heap.size < _; omega)).trans x4
                have cM4 := Lib.hid (cM.out w4 hb4)
                clear hb4
                go_wp2_with (go_at_call 23; refine cM4.out.mono ?_)
                first | rintro e w5 rfl hb5 | rintro e w5 ⟨rfl, hb5⟩
                have hb5' := Lib.hid (hb4'.out.trans (hb5.mono hb4'.out.size))
                clear hb5
                go_wp2_with fail
                go_roundw
                case rel => exact ⟨k + 1, hlt9.out, by go_num, hb5'.out, hv.out⟩
                case measure => simp [intOf]; have := hlt9.out; omega
      · have ht1 := size_zero ht0
        rw [if_pos (by omega)] at hv
        rw [ht1] at x1
        replace ht1 := Lib.hid ht1
        clear cA cM cN hxN hxA hxM
        by_cases ha0 : q.an = 0
        · rw [decide_eq_true ha0, Bool.true_and] at hv
          rw [ha0] at x3
          replace ha0 := Lib.hid ha0
          by_cases hk0 : q.kn = 0
          · rw [decide_eq_true hk0, Bool.true_and] at hv
            rw [hk0] at x4
            replace hk0 := Lib.hid hk0
            by_cases hx0 : v.text.size ≤ 4096
            · rw [decide_eq_true hx0] at hv
              replace hv := Lib.hid (show V = maysB (L.drop (k + 1)) from hv.trans rfl)
              have hx1 : (v.text.size : Int) ≤ 4096 := by omega
              go_wp2_with (rw [← hWS.out])
              go_roundw
              case rel => exact ⟨k + 1, hlt9.out, by go_num, hbw.out, hv.out⟩
              case measure => simp [intOf]; have := hlt9.out; omega
            · rw [decide_eq_false hx0] at hv
              replace hv := Lib.hid (show V = false from hv.trans rfl)
              have hx1 : ¬ (v.text.size : Int) ≤ 4096 := by omega
              go_wp2_with (rw [← hWS.out])
              go_ret
              exact ⟨by rw [hv.out]; rfl, hbw.out⟩
          · rw [decide_eq_false hk0] at hv
            replace hv := Lib.hid (show V = false from hv.trans rfl)
            go_wp2_with (rw [← hWS.out])
            go_ret
            exact ⟨by rw [hv.out]; rfl, hbw.out⟩
        · rw [decide_eq_false ha0] at hv
          replace hv := Lib.hid (show V = false from hv.trans rfl)
          go_wp2_with (rw [← hWS.out])
          go_ret
          exact ⟨by rw [hv.out]; rfl, hbw.out⟩
    · obtain rfl : k = n := by omega
      rw [mays_end (by rw [← hl.out]; exact Nat.le_refl _)] at hv
      replace hv := Lib.hid hv
      replace hb := Lib.hid hb
      go_wp2_with fail
      go_ret
      exact ⟨by rw [hv.out]; rfl, hb.out⟩
theorem refMay_any (L : List Nd) : MayR L := by
  have key : ∀ v : Nd, MayR v.kids := fun v => Nd.ind (P := fun v => MayR v.kids) (fun i t x a K hK => mayR_of K hK) v
  exact mayR_of L fun v _ => key v
end Go.Proofs.YtehcbicngbibgaaGreatDoor
