/- The reference's attrs: which lists of attributes are let in. -/
import Derived.Test.YtehcbicngbibgaaGreatDoorZLl
namespace Go.Proofs.YtehcbicngbibgaaGreatDoor
open Go Go.RowKit
def less (x y : ByteArray) : Bool := Op.bytesLess x.toList y.toList
def attrV (v : Val) : Bool := attrP v.kind v.n v.s v.L.length v.F.length v.elem v.key v.hk
def attrsB : Option ByteArray → List Fld → Bool
  | _, [] => true
  | p, f :: r => nameB f.name && ((match p with | none => true | some x => less x f.name) && (attrV f.value && attrsB (some f.name) r))
def prev (a : List Fld) (k : Nat) : Option ByteArray := if k = 0 then none else (a[k - 1]?).map Fld.name
theorem attrs_end {a : List Fld} {k : Nat} (h : a.length ≤ k) : attrsB (prev a k) (a.drop k) = true := by
  rw [List.drop_eq_nil_of_le h]; cases prev a k <;> rfl
theorem attrs_step {a : List Fld} {k : Nat} {f : Fld} (h : a[k]? = some f) : attrsB (prev a k) (a.drop k) = (nameB f.name && ((match prev a k with | none => true | some x => less x f.name) && (attrV f.value && attrsB (prev a (k + 1)) (a.drop (k + 1))))) := by
  have hk := (List.getElem?_eq_some_iff.1 h).1
  have e : a.drop k = f :: a.drop (k + 1) := by
    rw [List.drop_eq_getElem_cons hk, (List.getElem?_eq_some_iff.1 h).2]
  have e2 : prev a (k + 1) = some f.name := by
    show (if k + 1 = 0 then none else (a[k + 1 - 1]?).map Fld.name) = _
    rw [if_neg (by omega), Nat.add_sub_cancel, h]; rfl
  rw [e, e2]
  cases prev a k <;> rfl
theorem VAt.plain {w : World} {B : Nat} {v : Val} {q : VP} (h : VAt w B v q) : q.ln = v.L.length ∧ q.fn = v.F.length ∧ q.ln ≤ 1152921504606846976 ∧ q.fn ≤ 1152921504606846976 := by
  have h1 := h.L.1; have h2 := h.F.1
  rw [List.length_map] at h1 h2
  exact ⟨h1, h2, h.L.2.1, h.F.2.1⟩
set_option maxHeartbeats 2000000 in
set_option maxRecDepth 100000 in
theorem refAttrs_any (L : List Fld) (a : Option Addr) (n c : Nat) (w : World) (h : FLs w w.heap.size L a n) :
    Calls Tryz.prog 90 #[.slice a n c] w fun e w' => e = .returned (.bool (attrsB none L)) ∧ Below w.heap.size w w' := by
  have hl := h.1
  rw [List.length_map] at hl
  have hn := h.2.1
  replace hl := Lib.hid hl
  replace h := Lib.hid h
  obtain ⟨V, hV⟩ : ∃ V, V = attrsB none L := ⟨_, rfl⟩
  rw [← hV]
  replace hV := Lib.hid hV
  go_enter Tryz.func90, Tryz.ntmps90
  go_wp2_with fail
  go_loopw [3] (fun i wr => ∃ k : Nat, k ≤ n ∧ i = .int .i64 (k : Nat) ∧ Below w.heap.size w wr ∧ V = attrsB (prev L k) (L.drop k)) (fun i _ => n - (intOf i).toNat)
  case atStart => exact ⟨0, Nat.zero_le _, rfl, Below.refl _ _, hV.out⟩
  case round =>
    obtain ⟨k, hk, rfl, hb, hv⟩ := hrel
    by_cases hlt : k < n
    · have hlt9 : Hid (k + 1 ≤ n) := hlt
      obtain ⟨b1, o1, f, q, rfl, hb1, hg1, hc1, hf1⟩ := FLs.elem (h.out.kept hb) k hlt
      rw [attrs_step hg1] at hv
      have hbw : b1 < wr.heap.size := Nat.lt_of_lt_of_le hb1 hb.size
      have x0 : ∀ d : LowW wr, d.w.cell? ⟨b1, o1 + k * 9, none⟩ = some (.string f.name) := fun d => (d.cell hbw).trans (hc1 0 (by omega))
      have x1 : ∀ d : LowW wr, d.w.cell? ⟨b1, o1 + k * 9 + 1, none⟩ = some (.int .u8 f.value.kind) := fun d => (d.cell hbw).trans (by rw [Nat.add_assoc]; exact hc1 1 (by omega))
      have x2 : ∀ d : LowW wr, d.w.cell? ⟨b1, o1 + k * 9 + 2, none⟩ = some (.int .i64 f.value.n) := fun d => (d.cell hbw).trans (by rw [Nat.add_assoc]; exact hc1 2 (by omega))
      have x3 : ∀ d : LowW wr, d.w.cell? ⟨b1, o1 + k * 9 + 3, none⟩ = some (.string f.value.s) := fun d => (d.cell hbw).trans (by rw [Nat.add_assoc]; exact hc1 3 (by omega))
      have x4 : ∀ d : LowW wr, d.w.cell? ⟨b1, o1 + k * 9 + 4, none⟩ = some (.slice q.la q.ln q.lc) := fun d => (d.cell hbw).trans (by rw [Nat.add_assoc]; exact hc1 4 (by omega))
      have x5 : ∀ d : LowW wr, d.w.cell? ⟨b1, o1 + k * 9 + 5, none⟩ = some (.slice q.fa q.fn q.fc) := fun d => (d.cell hbw).trans (by rw [Nat.add_assoc]; exact hc1 5 (by omega))
      have x6 : ∀ d : LowW wr, d.w.cell? ⟨b1, o1 + k * 9 + 6, none⟩ = some (.int .u8 f.value.elem) := fun d => (d.cell hbw).trans (by rw [Nat.add_assoc]; exact hc1 6 (by omega))
      have x7 : ∀ d : LowW wr, d.w.cell? ⟨b1, o1 + k * 9 + 7, none⟩ = some (.string f.value.key) := fun d => (d.cell hbw).trans (by rw [Nat.add_assoc]; exact hc1 7 (by omega))
      have x8 : ∀ d : LowW wr, d.w.cell? ⟨b1, o1 + k * 9 + 8, none⟩ = some (.bool f.value.hk) := fun d => (d.cell hbw).trans (by rw [Nat.add_assoc]; exact hc1 8 (by omega))
      obtain ⟨hp1, hp2, hp3, hp4⟩ := hf1.val.plain
      have hks := hf1.k0
      have cN : ∀ d : LowW wr, Calls Tryz.prog 89 #[.string f.name] d.w fun e w' => e = .returned (.bool (nameB f.name)) ∧ ∃ d' : LowW wr, w' = d'.w := fun d => (refName_any f.name d.w hks).mono fun e w' h => ⟨h.1, d, h.2⟩
      have cA : ∀ d : LowW wr, Calls Tryz.prog 138 #[.agg #[.int .u8 f.value.kind, .int .i64 f.value.n, .string f.value.s, .slice q.la q.ln q.lc, .slice q.fa q.fn q.fc, .int .u8 f.value.elem, .string f.value.key, .bool f.value.hk]] d.w fun e w' => e = .returned (.bool (attrV f.value)) ∧ ∃ d' : LowW wr, w' = d'.w := fun d => by
        refine (refAttr_any f.value.kind f.value.n f.value.s q.la q.fa q.ln q.lc q.fn q.fc f.value.elem f.value.key f.value.hk d.w hp3 hp4 hf1.val.k3).mono ?_
        rintro e w' ⟨rfl, h⟩
        exact ⟨by rw [hp1, hp2]; rfl, d.more h⟩
      clear hp1 hp2 hp3 hp4
      obtain ⟨xN, hxN⟩ : ∃ y, y = nameB f.name := ⟨_, rfl⟩
      rw [← hxN] at hv
      simp only [← hxN] at cN
      obtain ⟨xA, hxA⟩ : ∃ y, y = attrV f.value := ⟨_, rfl⟩
      rw [← hxA] at hv
      simp only [← hxA] at cA
      replace cA := Lib.hid cA
      replace cN := Lib.hid cN
      replace hxA := Lib.hid hxA
      replace hxN := Lib.hid hxN
      replace hb := Lib.hid hb
      cases xN
      · replace hv := Lib.hid hv
        clear cA
        go_wp2_with fail
        refine wp_region_low (by kernel_rfl) (by kernel_rfl) ?_
        repeat (go_big_quiet_step (first | (go_at_call 89; exact cN.out _) | (go_at_call 138; exact cA.out _)))
        refine wpQuiet_nil ?_
        rintro _ ⟨d, rfl⟩
        have hb' := Lib.hid (hb.out.trans (d.low.mono hb.out.size))
        go_wp2_with fail
        go_ret
        exact ⟨by rw [hv.out]; rfl, hb'.out⟩
      · rcases Nat.eq_zero_or_pos k with rfl | h0
        · replace hv : V = (xA && attrsB (prev L (0 + 1)) (L.drop (0 + 1))) := by rw [hv]; rfl
          simp only [Nat.zero_mul, Nat.add_zero] at x0 x1 x2 x3 x4 x5 x6 x7 x8
          cases xA
          · replace hv := Lib.hid hv
            go_wp2_with fail
            refine wp_region_low (by kernel_rfl) (by kernel_rfl) ?_
            repeat (go_big_quiet_step (first | (go_at_call 89; exact cN.out _) | (go_at_call 138; exact cA.out _)))
            refine wpQuiet_nil ?_
            rintro _ ⟨d, rfl⟩
            have hb' := Lib.hid (hb.out.trans (d.low.mono hb.out.size))
            go_wp2_with fail
            go_ret
            exact ⟨by rw [hv.out]; rfl, hb'.out⟩
          · replace hv := Lib.hid hv
            go_wp2_with fail
            refine wp_region_low (by kernel_rfl) (by kernel_rfl) ?_
            repeat (go_big_quiet_step (first | (go_at_call 89; exact cN.out _) | (go_at_call 138; exact cA.out _)))
            refine wpQuiet_nil ?_
            rintro _ ⟨d, rfl⟩
            have hb' := Lib.hid (hb.out.trans (d.low.mono hb.out.size))
            go_wp2_with fail
            go_roundw
            case rel => exact ⟨0 + 1, hlt9.out, by go_num, hb'.out, hv.out⟩
            case measure => simp [intOf]; have := hlt9.out; omega
        · obtain ⟨j, rfl⟩ : ∃ j, k = j + 1 := ⟨k - 1, by omega⟩
          obtain ⟨b2, o2, f2, q2, e2, _, hg2, hc2, hf2⟩ := FLs.elem (h.out.kept hb.out) j (by omega)
          obtain ⟨rfl, rfl⟩ : b1 = b2 ∧ o1 = o2 := by injection e2 with e2; injection e2 with e3 e4; exact ⟨e3, e4⟩
          have y0 : ∀ d : LowW wr, d.w.cell? ⟨b1, o1 + j * 9, none⟩ = some (.string f2.name) := fun d => (d.cell hbw).trans (hc2 0 (by omega))
          have hp : prev L (j + 1) = some f2.name := by
            show (if j + 1 = 0 then none else (L[j + 1 - 1]?).map Fld.name) = _
            rw [if_neg (by omega), Nat.add_sub_cancel, hg2]; rfl
          rw [hp] at hv
          obtain ⟨xL, hxL⟩ : ∃ y, y = less f2.name f.name := ⟨_, rfl⟩
          replace hv : V = (xL && (xA && attrsB (prev L (j + 1 + 1)) (L.drop (j + 1 + 1)))) := by rw [hv, hxL]; rfl
          have hxL' : Op.bytesLess f2.name.toList f.name.toList = xL := hxL.symm
          replace hxL := Lib.hid hxL
          clear e2 hc2 hf2 hg2 hp
          cases xL
          · replace hv := Lib.hid hv
            clear cA
            go_wp2_with fail
            refine wp_region_low (by kernel_rfl) (by kernel_rfl) ?_
            repeat (go_big_quiet_step (first | (go_at_call 89; exact cN.out _) | (go_at_call 138; exact cA.out _)))
            refine wpQuiet_nil ?_
            rintro _ ⟨d, rfl⟩
            have hb' := Lib.hid (hb.out.trans (d.low.mono hb.out.size))
            go_wp2_with fail
            go_ret
            exact ⟨by rw [hv.out]; rfl, hb'.out⟩
          · replace hv : V = (xA && attrsB (prev L (j + 1 + 1)) (L.drop (j + 1 + 1))) := by rw [hv]; rfl
            cases xA
            · replace hv := Lib.hid hv
              go_wp2_with fail
              refine wp_region_low (by kernel_rfl) (by kernel_rfl) ?_
              repeat (go_big_quiet_step (first | (go_at_call 89; exact cN.out _) | (go_at_call 138; exact cA.out _)))
              refine wpQuiet_nil ?_
              rintro _ ⟨d, rfl⟩
              have hb' := Lib.hid (hb.out.trans (d.low.mono hb.out.size))
              go_wp2_with fail
              go_ret
              exact ⟨by rw [hv.out]; rfl, hb'.out⟩
            · replace hv := Lib.hid hv
              go_wp2_with fail
              refine wp_region_low (by kernel_rfl) (by kernel_rfl) ?_
              repeat (go_big_quiet_step (first | (go_at_call 89; exact cN.out _) | (go_at_call 138; exact cA.out _)))
              refine wpQuiet_nil ?_
              rintro _ ⟨d, rfl⟩
              have hb' := Lib.hid (hb.out.trans (d.low.mono hb.out.size))
              go_wp2_with fail
              go_roundw
              case rel => exact ⟨j + 1 + 1, hlt9.out, by go_num, hb'.out, hv.out⟩
              case measure => simp [intOf]; have := hlt9.out; omega
    · obtain rfl : k = n := by omega
      rw [attrs_end (by rw [← hl.out]; exact Nat.le_refl _)] at hv
      replace hv := Lib.hid hv
      replace hb := Lib.hid hb
      go_wp2_with fail
      go_ret
      exact ⟨by rw [hv.out]; rfl, hb.out⟩
end Go.Proofs.YtehcbicngbibgaaGreatDoor
