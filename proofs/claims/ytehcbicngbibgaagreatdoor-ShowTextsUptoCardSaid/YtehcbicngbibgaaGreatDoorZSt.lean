/- show.Text: the told text. -/
import Derived.Test.YtehcbicngbibgaaGreatDoorZPu
namespace Go.Proofs.YtehcbicngbibgaaGreatDoor
open Go Go.RowKit
theorem jflat_len {α : Type} {f : α → List UInt8} {t : α → T} : ∀ (L : List α), (∀ x ∈ L, (f x).length + 1 ≤ 28 * (t x).wt) → ((L.map f).flatMap (32 :: ·)).length ≤ 28 * wts (L.map t)
  | [], _ => by simp [wts]
  | x :: r, h => by
    have h1 := h x (by simp)
    have h2 := jflat_len r (fun y hy => h y (by simp [hy]))
    simp only [List.map_cons, List.flatMap_cons, List.length_append, List.length_cons, wts]
    omega
theorem join_len {α : Type} {f : α → List UInt8} {t : α → T} (L : List α) (h : ∀ x ∈ L, (f x).length + 1 ≤ 28 * (t x).wt) : (joinL (L.map f)).length ≤ 28 * wts (L.map t) := by
  cases L with
  | nil => simp [joinL, wts]
  | cons x r =>
    have h1 := h x (by simp)
    have h2 := jflat_len (t := t) r (fun y hy => h y (by simp [hy]))
    simp only [List.map_cons, joinL, List.length_append, wts]
    omega
theorem fld_len {w : World} {B : Nat} {f : Fld} {q : VP} (h : FAt w B f q) : (fL f).length + 1 ≤ 28 * f.tr.wt := by
  have h1 := quote_len f.name
  have h2 := vP_len f.value.kind f.value.n f.value.s h.val.k2
  have h3 := wt_fld f
  have h4 := wt_val f.value
  unfold fL
  simp only [List.length_append, List.length_cons]
  omega
theorem FLs.mem {w : World} {B n : Nat} {L : List Fld} {a : Option Addr} (h : FLs w B L a n) {f : Fld} (hf : f ∈ L) : ∃ q, FAt w B f q := by
  obtain ⟨i, hi, e⟩ := List.getElem_of_mem hf
  have hl := h.1
  rw [List.length_map] at hl
  obtain ⟨b, o, g, q, _, _, hg, _, hat⟩ := FLs.elem h i (by omega)
  rw [List.getElem?_eq_getElem hi, e] at hg
  injection hg with hg
  subst hg
  exact ⟨q, hat⟩
theorem NLs.mem {w : World} {B n : Nat} {L : List Nd} {a : Option Addr} (h : NLs w B L a n) {v : Nd} (hv : v ∈ L) : ∃ q, NAt w B v q := by
  obtain ⟨i, hi, e⟩ := List.getElem_of_mem hv
  have hl := h.1
  rw [List.length_map] at hl
  obtain ⟨b, o, g, q, _, _, hg, _, hat⟩ := NLs.elem h i (by omega)
  rw [List.getElem?_eq_getElem hi, e] at hg
  injection hg with hg
  subst hg
  exact ⟨q, hat⟩
theorem nd_len (v : Nd) : ∀ (w : World) (B : Nat) (q : NP), NAt w B v q → (nL v).length + 1 ≤ 28 * v.tr.wt := by
  refine Nd.ind (P := fun v => ∀ (w : World) (B : Nat) (q : NP), NAt w B v q → (nL v).length + 1 ≤ 28 * v.tr.wt) ?_ v
  intro i t x a K hK w B q h
  have hA : (joinL (a.map fL)).length ≤ 28 * wts (a.map Fld.tr) := join_len a (fun f hf => by
    obtain ⟨q2, h2⟩ := FLs.mem (show FLs w B a q.aa q.an from h.A) hf
    exact fld_len h2)
  have hN : (joinL (K.map nL)).length ≤ 28 * wts (K.map Nd.tr) := join_len K (fun y hy => by
    obtain ⟨q2, h2⟩ := NLs.mem (show NLs w B K q.ka q.kn from h.K) hy
    exact hK y hy w B q2 h2)
  rw [nL_eq, wt_nd]
  show (if t.size = 0 then _ else _ : List UInt8).length + 1 ≤ 28 * (1 + t.size + x.size + (a.length + wts (a.map Fld.tr)) + (K.length + wts (K.map Nd.tr)))
  have h1 := quote_len t
  have h2 := quote_len x
  split
  · show (quoteL x.data.toList).length + 1 ≤ _
    omega
  · show (40 :: (quoteL t.data.toList ++ 32 :: 123 :: (joinL (a.map fL) ++ 125 :: 32 :: 91 :: (joinL (K.map nL) ++ [93, 41])))).length + 1 ≤ _
    simp only [List.length_append, List.length_cons, List.length_nil]
    omega
theorem text_len {w : World} {B n : Nat} {L : List Nd} {a : Option Addr} (h : NLs w B L a n) (hw : wts (L.map Nd.tr) ≤ 1048576) : (joinL (L.map nL)).length ≤ 1073741824 := by
  have := join_len (t := Nd.tr) L (fun y hy => by
    obtain ⟨q2, h2⟩ := NLs.mem h hy
    exact nd_len y w B q2 h2)
  omega
set_option maxHeartbeats 2000000 in
set_option maxRecDepth 100000 in
theorem showText_any (L : List Nd) (a : Option Addr) (n c : Nat) (w : World) (hE : Env w) (hlen : (joinL (L.map nL)).length ≤ 1073741824) (h : NLs w w.heap.size L a n) :
    Calls Tryz.prog 9 #[.slice a n c] w fun e w' => e = .returned (.string (textB L)) ∧ Below w.heap.size w w' := by
  have cC := text1_any2 L a n c w h
  have hn := h.2.1
  unfold textB
  replace h := Lib.hid h
  replace hE := Lib.hid hE
  by_cases hm : maysB L = true
  · rw [hm] at cC
    rw [if_pos hm]
    obtain ⟨z, hz⟩ : ∃ z, z = joinL (L.map nL) := ⟨_, rfl⟩
    rw [← hz]
    replace cC := Lib.hid cC
    replace hz := Lib.hid hz
    replace hm := Lib.hid hm
    go_enter Tryz.func9, Tryz.ntmps9
    go_wp2_with (go_at_call 18; refine cC.out.mono ?_)
    first | rintro e w3 rfl hb3 | rintro e w3 ⟨rfl, hb3⟩
    obtain ⟨S4, hS4⟩ : ∃ S4, S4 = w3.alloc (.cells #[.pointer none, .slice none 0 0] 68) := ⟨_, rfl⟩
    have hb4 : Below w3.heap.size w3 S4 := by rw [hS4]; exact (Below.refl _ _).alloc (Nat.le_refl _) _
    have hB4 : Bat 68 w3.heap.size (.slice none 0 0) (Lib.byteCells []) S4 := by rw [hS4]; exact Bat.new w3
    have hlow : Below w.heap.size w S4 := hb3.trans (hb4.mono hb3.size)
    have cP := put_any L hm.out w3.heap.size w.heap.size (.slice none 0 0) [] a n c S4 hB4 (hE.out.kept hlow) hE.out.size hb3.size (fun q hq => by cases hq) (h.out.kept hlow) (by simpa using hlen)
    rw [List.nil_append, ← hz.out] at cP
    replace cP := Lib.hid cP
    replace hS4 := Lib.hid hS4
    replace hlow := Lib.hid hlow
    replace hb3 := Lib.hid hb3
    clear hB4 hb4
    go_wp2_with (first | (rw [← hS4.out]) | (go_at_call 21; refine cP.out.mono ?_))
    rintro e w5 ⟨rfl, v5, hB5, hT5⟩
    have hlow5 : Below w.heap.size w w5 := hlow.out.trans (hT5.low hb3.out.size (fun k hk => by cases hk) hlow.out.size)
    have cS := text_any 68 w3.heap.size w.heap.size v5 z w5 hB5 (hT5.high (fun k hk => by cases hk) hlow.out.size)
    replace cS := Lib.hid cS
    replace hlow5 := Lib.hid hlow5
    clear hB5 hT5
    go_wp2_with (go_at_call 22; refine cS.out.mono ?_)
    first | rintro e w6 rfl hb6 | rintro e w6 ⟨rfl, hb6⟩
    have hlow6 := Lib.hid (hlow5.out.trans hb6)
    clear hb6
    go_wp2_with fail
    go_ret
    exact ⟨rfl, hlow6.out⟩
  · rw [if_neg hm]
    rw [Bool.not_eq_true] at hm
    rw [hm] at cC
    replace cC := Lib.hid cC
    replace hm := Lib.hid hm
    go_enter Tryz.func9, Tryz.ntmps9
    go_wp2_with (go_at_call 18; refine cC.out.mono ?_)
    first | rintro e w3 rfl hb3 | rintro e w3 ⟨rfl, hb3⟩
    replace hb3 := Lib.hid hb3
    go_wp2_with fail
    go_ret
    exact ⟨rfl, hb3.out⟩
end Go.Proofs.YtehcbicngbibgaaGreatDoor
