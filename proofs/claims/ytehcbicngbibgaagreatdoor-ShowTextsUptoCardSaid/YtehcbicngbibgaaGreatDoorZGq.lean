/- How many lists a tree has, how long they are; a Book behind all that it keeps. -/
import Derived.Test.YtehcbicngbibgaaGreatDoorZGr
import Derived.Test.YtehcbicngbibgaaGreatDoorZSt
namespace Go.Proofs.YtehcbicngbibgaaGreatDoor
open Go Go.RowKit
mutual
/-- How many lists. -/
def T.nl : T → Nat
  | .int _ _ => 0
  | .txt _ => 0
  | .yes _ => 0
  | .obj ps => nls ps
  | .lst _ _ es => nls es + 1
def nls : List T → Nat
  | [] => 0
  | t :: r => t.nl + nls r
end
theorem nls_append (l r : List T) : nls (l ++ r) = nls l + nls r := by
  induction l with
  | nil => simp [nls]
  | cons t l ih => simp only [List.cons_append, nls, ih]; omega
theorem flat_nl {RR : Nat → List Row} {es : List T} (h : ∀ (i : Nat) (hi : i < es.length), (RR i).length = es[i].nl) : ((List.range es.length).flatMap RR).length = nls es := by
  have key : ∀ k, k ≤ es.length → ((List.range k).flatMap RR).length = nls (es.take k) := by
    intro k
    induction k with
    | zero => intro _; simp [nls]
    | succ k ih =>
      intro hk
      rw [rflat_succ, List.length_append, ih (by omega), h k hk, List.take_succ_eq_append_getElem hk, nls_append]
      simp [nls]
  have := key es.length (Nat.le_refl _)
  rwa [List.take_of_length_le (Nat.le_refl _)] at this
theorem own_nl {w : World} {base : Nat} {m : Mode} {mk : Nat → List Value} {t : T} {cs : List Value} {R : List Row} (h : Own w base m mk t cs R) (hm : m.sh = none) : R.length = t.nl := by
  induction h with
  | int | txt | yes => simp [T.nl]
  | nil => simp [T.nl, nls]
  | old t cs lo hlo h1 h => rw [hm] at h1; cases h1
  | cons p ps c cs R R' _ _ ih1 ih2 =>
    rw [T.nl] at ih2
    rw [List.length_append, ih1, ih2, T.nl, nls]
  | lst E K v es xs cc RR hn ho hc he hs ih =>
    rw [List.length_append, flat_nl ih, T.nl]; rfl
theorem own_rn {w : World} {base : Nat} {m : Mode} {mk : Nat → List Value} {t : T} {cs : List Value} {R : List Row} (h : Own w base m mk t cs R) : ∀ r ∈ R, r.n ≤ t.wt := by
  induction h with
  | int | txt | yes | nil | old => intro r hr; cases hr
  | cons p ps c cs R R' _ _ ih1 ih2 =>
    intro r hr
    rw [T.wt, wts]
    rcases List.mem_append.1 hr with hr | hr
    · have := ih1 r hr; omega
    · have := ih2 r hr
      rw [T.wt] at this; omega
  | lst E K v es xs cc RR hn ho hc he hs ih =>
    intro r hr
    rw [T.wt]
    rcases List.mem_append.1 hr with hr | hr
    · obtain ⟨i, hi, hr⟩ := List.mem_flatMap.1 hr
      have hi2 : i < es.length := by simpa using hi
      have h1 := ih i hi2 r hr
      have h2 := wts_mem (List.getElem_mem hi2)
      omega
    · simp at hr; subst hr; show es.length ≤ _; omega
theorem nls_le {L : List T} (h : ∀ t ∈ L, t.nl ≤ 2 * t.wt) : nls L ≤ 2 * wts L := by
  induction L with
  | nil => simp [nls, wts]
  | cons t r ih =>
    have h1 := h t (by simp)
    have h2 := ih (fun x hx => h x (by simp [hx]))
    simp only [nls, wts]; omega
theorem nl_val (v : Val) : v.tr.nl = nls (v.L.map Val.tr) + 1 + (nls (v.F.map Fld.tr) + 1) := by
  rw [Val.tr_eq]; simp only [T.nl, nls]; omega
theorem nl_fld (f : Fld) : f.tr.nl = f.value.tr.nl := by rw [Fld.tr_eq]; simp only [T.nl, nls]; omega
theorem nl_nd (v : Nd) : v.tr.nl = nls (v.attrs.map Fld.tr) + 1 + (nls (v.kids.map Nd.tr) + 1) := by
  rw [Nd.tr_eq]; simp only [T.nl, nls]; omega
theorem nlV (v : Val) : v.tr.nl ≤ 2 * v.tr.wt := by
  refine Val.ind (P := fun v => v.tr.nl ≤ 2 * v.tr.wt) (fun k n s L F e key hk hL hF => ?_) v
  have h1 : nls (L.map Val.tr) ≤ 2 * wts (L.map Val.tr) := nls_le (fun t ht => by obtain ⟨x, hx, rfl⟩ := List.mem_map.1 ht; exact hL x hx)
  have h2 : nls (F.map Fld.tr) ≤ 2 * wts (F.map Fld.tr) := nls_le (fun t ht => by
    obtain ⟨x, hx, rfl⟩ := List.mem_map.1 ht
    have := hF x hx
    rw [nl_fld, wt_fld]; omega)
  rw [nl_val, wt_val]
  show nls (L.map Val.tr) + 1 + (nls (F.map Fld.tr) + 1) ≤ 2 * (1 + s.size + key.size + (L.length + wts (L.map Val.tr)) + (F.length + wts (F.map Fld.tr)))
  omega
theorem nlF (f : Fld) : f.tr.nl ≤ 2 * f.tr.wt := by
  have := nlV f.value
  rw [nl_fld, wt_fld]; omega
theorem nlN (v : Nd) : v.tr.nl ≤ 2 * v.tr.wt := by
  refine Nd.ind (P := fun v => v.tr.nl ≤ 2 * v.tr.wt) (fun i t x a K hK => ?_) v
  have h1 : nls (a.map Fld.tr) ≤ 2 * wts (a.map Fld.tr) := nls_le (fun t ht => by obtain ⟨x, hx, rfl⟩ := List.mem_map.1 ht; exact nlF x)
  have h2 : nls (K.map Nd.tr) ≤ 2 * wts (K.map Nd.tr) := nls_le (fun t ht => by obtain ⟨x, hx, rfl⟩ := List.mem_map.1 ht; exact hK x hx)
  rw [nl_nd, wt_nd]
  show nls (a.map Fld.tr) + 1 + (nls (K.map Nd.tr) + 1) ≤ 2 * (1 + t.size + x.size + (a.length + wts (a.map Fld.tr)) + (K.length + wts (K.map Nd.tr)))
  omega
theorem nlNs (L : List Nd) : nls (L.map Nd.tr) ≤ 2 * wts (L.map Nd.tr) := nls_le (fun t ht => by obtain ⟨x, _, rfl⟩ := List.mem_map.1 ht; exact nlN x)
theorem wts_filter (L : List Fld) : wts ((L.filter keep).map Fld.tr) ≤ wts (L.map Fld.tr) := by
  induction L with
  | nil => simp
  | cons f r ih =>
    rw [List.filter_cons]
    split
    · simp only [List.map_cons, wts]; omega
    · simp only [List.map_cons, wts]; omega
theorem bare_wt (v : Nd) : v.bare.tr.wt ≤ v.tr.wt := by
  refine Nd.ind (P := fun v => v.bare.tr.wt ≤ v.tr.wt) (fun i t x a K hK => ?_) v
  rw [Nd.bare_eq, wt_nd, wt_nd]
  have h1 := wts_filter a
  have h2 := List.length_filter_le keep a
  have h3 : wts ((K.map Nd.bare).map Nd.tr) ≤ wts (K.map Nd.tr) := by
    clear h1 h2
    induction K with
    | nil => simp
    | cons y r ih =>
      have h4 := hK y (by simp)
      have h5 := ih (fun z hz => hK z (by simp [hz]))
      simp only [List.map_cons, wts]; omega
  show 1 + t.size + x.size + ((a.filter keep).length + wts ((a.filter keep).map Fld.tr)) + ((K.map Nd.bare).length + wts ((K.map Nd.bare).map Nd.tr)) ≤ 1 + t.size + x.size + (a.length + wts (a.map Fld.tr)) + (K.length + wts (K.map Nd.tr))
  rw [List.length_map]; omega
theorem bare_wts (L : List Nd) : wts ((L.map Nd.bare).map Nd.tr) ≤ wts (L.map Nd.tr) := by
  induction L with
  | nil => simp
  | cons y r ih =>
    have := bare_wt y
    simp only [List.map_cons, wts]; omega
theorem own_base {w : World} {base base' : Nat} {e : TypeId} {size : Nat} {v : Value} {n : Nat} {xs : List Value} (h : w.ownsRow base e size v n xs) (hb : base' ≤ base) : w.ownsRow base' e size v n xs :=
  ⟨h.1, h.2.imp id (fun ⟨g, cap, cur, e1, e2, e3⟩ => ⟨g, cap, cur, e1, Nat.le_trans hb e2, e3⟩)⟩
/-- A Book that has kept all that the rows R are of may be asked. -/
theorem book_good {B n base : Nat} {hs : Nat → Value} {LV LF LN : List Ent} {w0 W : World} {R : List Row} (h : Reg B n hs LV LF LN w0 W) (hA : Add R LV LF LN n) (hn : n ≤ 1073741824) (hE : Env w0) (hb : EnvUnder base) (hbw : base ≤ w0.heap.size) (hR : ∀ r ∈ R, r.n ≤ 1073741824 ∧ ∃ xs, w0.ownsRow base r.E r.K r.v r.n xs) :
    Good base B hs LV LF LN W ∧ All base B n hs LV LF LN W 0 0 0 W := by
  have hcnt := h.cnt
  have hle := h.le
  have hlt := h.book.lt
  have hxs : ∀ x ∈ LV ++ (LF ++ LN), ∀ b, x.v.ownBlock = some b → base ≤ b ∧ b < w0.heap.size := fun x hx b hb => by
    obtain ⟨r, hr, e⟩ := hA.row hx
    obtain ⟨xs, ho⟩ := (hR r hr).2
    rw [e] at ho
    exact ho.lt b hb
  have hxn : ∀ x ∈ LV ++ (LF ++ LN), x.n ≤ 1073741824 := fun x hx => by
    rcases List.mem_append.1 hx with hx | hx
    · exact (hR _ (hA.rV x hx)).1
    · rcases List.mem_append.1 hx with hx | hx
      · exact (hR _ (hA.rF x hx)).1
      · exact (hR _ (hA.rN x hx)).1
  have same : ∀ {E K : Nat} {v : Value} {n : Nat} {xs : List Value}, w0.ownsRow base E K v n xs → W.ownsRow base E K v n xs := fun ho => own_same ho (fun b hb => h.low.block b (by have := (ho.lt b hb).2; omega))
  refine ⟨⟨hb, by omega, h.nil, hA.ap, fun x hx => ⟨by have := (hA.u x hx).2; omega, hxn x hx, (hA.u x hx).1, fun b hb => ?_⟩, ⟨by omega, by omega, by omega⟩, fun b hb => ?_, h.dVF, h.dVN, h.dFN⟩, ⟨h.book, hE.below h.low ?_, Below.refl _ _, ⟨own_base h.oV (by omega), fun x hx => ?_⟩, ⟨own_base h.oF (by omega), fun x hx => ?_⟩, ⟨own_base h.oN (by omega), fun x hx => ?_⟩⟩⟩
  · have h1 := hxs x hx b hb
    refine ⟨by omega, fun e => ?_, fun e => ?_, fun e => ?_, by omega, h1.1⟩
    · have := (h.oV.lt b e).1; omega
    · have := (h.oF.lt b e).1; omega
    · have := (h.oN.lt b e).1; omega
  · rcases hb with hb | hb | hb
    · have := h.oV.lt b hb; omega
    · have := h.oF.lt b hb; omega
    · have := h.oN.lt b hb; omega
  · have := hE.size
    unfold EnvUnder at *; omega
  · obtain ⟨xs, ho⟩ := (hR _ (hA.rV x hx)).2
    exact ⟨xs, same ho⟩
  · obtain ⟨xs, ho⟩ := (hR _ (hA.rF x hx)).2
    exact ⟨xs, same ho⟩
  · obtain ⟨xs, ho⟩ := (hR _ (hA.rN x hx)).2
    exact ⟨xs, same ho⟩
end Go.Proofs.YtehcbicngbibgaaGreatDoor
