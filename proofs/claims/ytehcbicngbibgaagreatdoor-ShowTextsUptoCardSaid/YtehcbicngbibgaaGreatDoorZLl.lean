/- Regions that draw their order, whose calls make memory of their own and leave all that is there as it is: one walk serves every order. -/
import Derived.Test.YtehcbicngbibgaaGreatDoorZOd
import Derived.Test.YtehcbicngbibgaaGreatDoorZAb
namespace Go.Proofs.YtehcbicngbibgaaGreatDoor
open Go Go.RowKit

/-- A world in which all that lay in W lies as it lay. -/
structure LowW (W : World) where
  w : World
  low : Below W.heap.size W w
instance (W : World) : Inhabited (LowW W) := ⟨⟨W, Below.refl _ _⟩⟩
theorem LowW.cell {W : World} (d : LowW W) {p : Addr} (h : p.block < W.heap.size) : d.w.cell? p = W.cell? p := d.low.cell h
theorem LowW.more {W : World} (d : LowW W) {w' : World} (h : Below d.w.heap.size d.w w') : ∃ d' : LowW W, w' = d'.w := ⟨⟨w', d.low.trans (h.mono d.low.size)⟩, rfl⟩
/-- Such a region, walked once, in the order of the text. -/
theorem wp_region_low {P : Program} {W : World} {id : Nat} {Q : Exit → Act → World → Prop} {a : Act} {l : List Oper} (hm : P.follows .mixedOrders = true) (hB : Region.lexB .any l.toArray = true)
    (h : wpQuiet P l.toArray (fun w' => ∃ d : LowW W, w' = d.w) (fun a' => ∀ w', (∃ d : LowW W, w' = d.w) → Q .normal a' w') l a) : (Code.region id l.toArray true).wp P Q a W :=
  wp_region_quiet (C := fun w' => ∃ d : LowW W, w' = d.w) hm hB ⟨⟨{ W with drawn := W.drawn + 1 }, drew_low W⟩, rfl⟩ (by simpa using h)
end Go.Proofs.YtehcbicngbibgaaGreatDoor

/- Regions that draw their order, whose last operation waits for all others: those are walked once, in the order of the text, in a class of worlds; the last one behind them as it comes. -/
namespace Go
open RowKit
section
variable {P : Program} {ops : Array Oper} {md : Region.Mode} {C : World → Prop} {Q : Exit → Act → World → Prop} {last : Nat}

/-- Does operation j wait for i, through others or not? -/
def reachR (md : Region.Mode) (ops : Array Oper) : Nat → Nat → Nat → Bool
  | 0, _, _ => false
  | n + 1, j, i => match ops[j]? with
    | none => false
    | some o => o.after.any fun e => Region.binds md e && (e.on == i || reachR md ops n e.on i)
def waitsR (md : Region.Mode) (ops : Array Oper) (last : Nat) : Bool := (List.range ops.size).all fun i => i == last || reachR md ops ops.size last i
/-- What has come up has all that it waits for behind it. -/
def ClosedR (md : Region.Mode) (ops : Array Oper) (listed : Array Bool) : Prop := ∀ j oj, ops[j]? = some oj → listed.getD j false = true → ∀ e ∈ oj.after, Region.binds md e = true → listed.getD e.on false = true
theorem set_listed {listed : Array Bool} {i k : Nat} (h : listed.getD k false = true) : (listed.setIfInBounds i true).getD k false = true := by
  by_cases e : i = k
  · subst e
    rcases Nat.lt_or_ge i listed.size with h' | h'
    · simp [h']
    · simp [Array.getElem?_eq_none h'] at h
  · rw [getD_set_ne false e]; exact h
theorem ClosedR.set {listed : Array Bool} (h : ClosedR md ops listed) {i : Nat} (hi : i ∈ Region.ready md ops listed) : ClosedR md ops (listed.setIfInBounds i true) := by
  obtain ⟨_, o, ho, hall⟩ := mem_ready.1 hi
  intro j oj hj hl e he hb
  by_cases e9 : i = j
  · subst e9
    rw [ho] at hj
    injection hj with hj
    subst hj
    exact set_listed (hall e he hb)
  · rw [getD_set_ne false e9] at hl
    exact set_listed (h j oj hj hl e he hb)
theorem reach_listed {listed : Array Bool} (hc : ClosedR md ops listed) : ∀ (n j i : Nat), reachR md ops n j i = true → (∀ oj, ops[j]? = some oj → ∀ e ∈ oj.after, Region.binds md e = true → listed.getD e.on false = true) → listed.getD i false = true
  | 0, _, _, h, _ => by cases h
  | n + 1, j, i, h, hd => by
    unfold reachR at h
    cases ho : ops[j]? with
    | none => rw [ho] at h; cases h
    | some o =>
      rw [ho] at h
      obtain ⟨e, he, h2⟩ := Array.any_eq_true'.1 h
      simp only [Bool.and_eq_true, Bool.or_eq_true, beq_iff_eq] at h2
      have hl := hd o ho e he h2.1
      rcases h2.2 with h3 | h3
      · rwa [h3] at hl
      · exact reach_listed hc n e.on i h3 (fun oj hoj => hc e.on oj hoj hl)
theorem waits_specR (h : waitsR md ops last = true) {listed : Array Bool} (hc : ClosedR md ops listed) {i : Nat} (hi : i ∈ Region.ready md ops listed) (hne : i ≠ last) : last ∉ Region.ready md ops listed := by
  intro hl
  obtain ⟨_, o, ho, hall⟩ := mem_ready.1 hl
  obtain ⟨h0, oi, hoi, _⟩ := mem_ready.1 hi
  have h1 := List.all_eq_true.1 h i (List.mem_range.2 (Array.getElem?_eq_some_iff.1 hoi).1)
  simp only [Bool.or_eq_true, beq_iff_eq, hne, false_or] at h1
  have h3 := reach_listed hc _ _ _ h1 (fun oj hoj => by rw [ho] at hoj; injection hoj with hoj; subst hoj; exact hall)
  rcases Nat.lt_or_ge i listed.size with h' | h'
  · simp [h'] at h0 h3
    rw [h0] at h3; cases h3
  · simp [Array.getElem?_eq_none h'] at h3
theorem closed_start (n : Nat) : ClosedR md ops (Array.replicate n false) := by
  intro j oj _ hl
  simp only [Array.getD_eq_getD_getElem?] at hl
  rcases Nat.lt_or_ge j n with h' | h'
  · simp [h'] at hl
  · simp [Array.getElem?_eq_none (show (Array.replicate n false).size ≤ j by simpa using h')] at hl

def wpAnyZ (P : Program) (md : Region.Mode) (ops : Array Oper) (C : World → Prop) (Q : Exit → Act → World → Prop) (last : Nat) : Nat → Array Bool → Act → Prop
  | 0, listed, a => last ∈ Region.ready md ops listed ∧ ∀ w, C w → wpOp P ops Q last (fun a' w' => Region.ready md ops (listed.setIfInBounds last true) = [] ∧ Q .normal a' w') a w
  | n + 1, listed, a => Region.ready md ops listed ≠ [] ∧ ∀ i ∈ Region.ready md ops listed, i ≠ last ∧ qOp P ops C i (wpAnyZ P md ops C Q last n (listed.setIfInBounds i true)) a

theorem wpAny_of_Z (hw : waitsR md ops last = true) : ∀ (n : Nat) (listed : Array Bool) (a : Act) (w : World), ClosedR md ops listed → C w → wpAnyZ P md ops C Q last n listed a → wpAny P md ops Q (n + 1) listed a w
  | 0, listed, _, _, hcl, hc, h => ⟨fun h0 => absurd h.1 (by rw [h0]; exact List.not_mem_nil), fun i hi => by
      by_cases e : i = last
      · subst e; exact wpOp_mono (fun a' w' k => k) (h.2 _ hc)
      · exact absurd h.1 (waits_specR hw hcl hi e)⟩
  | n + 1, _, _, _, hcl, hc, h => ⟨fun h0 => absurd h0 h.1, fun i hi => wpOp_of_qOp hc (fun a' w' hw' k => wpAny_of_Z hw n _ a' w' (hcl.set hi) hw' k) (h.2 i hi).2⟩

theorem wpAnyZ_first (hwt : waitsR md ops last = true) {i : Nat} {oi : Oper} {v : Value} (hi : ops[i]? = some oi) (hne : i ≠ last) (hsel : ∀ (j : Nat) (o : Oper) cs b, ops[j]? = some o → o.op ≠ .select cs b) :
    ∀ (fuel : Nat) (listed : Array Bool) (a : Act), ClosedR md ops listed →
      (∀ j oj, ops[j]? = some oj → j ≠ i → listed.getD j true = false → (∀ e ∈ oj.after, Region.binds md e = true → e.on ≠ i) → oi.apart ops oj = true) →
      i ∈ Region.ready md ops listed → YieldsIn P ops C oi v a →
      wpAnyZ P md ops C Q last fuel (listed.setIfInBounds i true) (a.put oi.dst v) → wpAnyZ P md ops C Q last (fuel + 1) listed a := by
  intro fuel
  induction fuel with
  | zero =>
    intro listed a hcl _ hr hy H
    refine ⟨fun h => (by rw [h] at hr; cases hr), fun j hj => ?_⟩
    have hjl : j ≠ last := fun e => waits_specR hwt hcl hr hne (e ▸ hj)
    refine ⟨hjl, ?_⟩
    by_cases hji : j = i
    · subst hji; exact hy.qOp hi H
    · exact absurd H.1 (waits_specR hwt (hcl.set hr) (ready_mono hj hji) hjl)
  | succ fuel ih =>
    intro listed a hcl hfree hr hy H
    refine ⟨fun h => (by rw [h] at hr; cases hr), fun j hj => ?_⟩
    refine ⟨fun e => waits_specR hwt hcl hr hne (e ▸ hj), ?_⟩
    by_cases hji : j = i
    · subst hji; exact hy.qOp hi H
    · have h1 := (H.2 j (ready_mono hj hji)).2
      obtain ⟨hjun, oj, hoj, hall⟩ := mem_ready.1 hj
      have hnot : ∀ e ∈ oj.after, Region.binds md e = true → e.on ≠ i := fun e he hb heq => by
        have h1 := hall e he hb
        have h0 := (mem_ready.1 hr).1
        rw [heq] at h1
        rcases Nat.lt_or_ge i listed.size with h' | h'
        · simp [h'] at h0 h1; rw [h0] at h1; cases h1
        · simp [Array.getElem?_eq_none h'] at h1
      have h2 := qOp_put hoj (hfree j oj hoj hji hjun hnot) (fun cs b => hsel i oi cs b hi) (fun cs b => hsel j oj cs b hoj) hy h1
      have hfree' : ∀ k ok, ops[k]? = some ok → k ≠ i → (listed.setIfInBounds j true).getD k true = false →
          (∀ e ∈ ok.after, Region.binds md e = true → e.on ≠ i) → oi.apart ops ok = true := fun k ok hk hki hun hno => by
        refine hfree k ok hk hki ?_ hno
        by_cases hjk : j = k
        · subst hjk; exact hjun
        · rw [getD_set_ne true hjk] at hun; exact hun
      refine qOp_mono (fun a' h3 => ih (listed.setIfInBounds j true) a' (hcl.set hj) hfree' (ready_mono hr (Ne.symm hji)) h3.1 ?_) h2
      rw [Array.setIfInBounds_comm _ _ hji]
      exact h3.2

theorem wpAnyZ_lex (hwt : waitsR md ops last = true) (hs : Region.noSelect ops = true) : ∀ (l : List Oper) (k : Nat) (listed : Array Bool) (a : Act), ClosedR md ops listed → (∀ j, j < l.length → l[j]? = ops[k + j]?) → k + l.length = last →
    Region.lexFrom md ops (l.length + 1) k listed = true → wpQuiet P ops C (fun a' => ∀ w, C w → wpOp P ops Q last (Q .normal) a' w) l a → wpAnyZ P md ops C Q last l.length listed a
  | [], k, listed, a, _, _, hk, hB, h => by
    have e : k = last := by simpa using hk
    subst e
    simp only [List.length_nil, Nat.zero_add, Region.lexFrom, Bool.and_eq_true] at hB
    obtain ⟨⟨hr, _⟩, hB'⟩ := hB
    refine ⟨by simpa using hr, fun w hc => wpOp_mono (fun a' w' q => ⟨by simpa using hB', q⟩) (h w hc)⟩
  | o :: l, k, listed, a, hcl, hl, hk, hB, h => by
    have h0 : ops[k]? = some o := by simpa using (hl 0 (by simp)).symm
    rw [List.length_cons] at hB hk
    rw [Region.lexFrom] at hB
    simp only [Bool.and_eq_true] at hB
    obtain ⟨⟨hr, hf⟩, hB'⟩ := hB
    have hst : qOp P ops C k (wpQuiet P ops C (fun a' => ∀ w, C w → wpOp P ops Q last (Q .normal) a' w) l) a := by unfold qOp; simp only [h0]; exact h
    obtain ⟨v, hy, hK⟩ := yieldsIn_of_qOp h0 hst
    exact wpAnyZ_first hwt h0 (by omega) (Region.noSelect_spec hs) l.length listed a hcl (Region.free_spec h0 hf) (by simpa using hr) hy
      (wpAnyZ_lex hwt hs l (k + 1) _ _ (hcl.set (by simpa using hr)) (fun j hj => by have := hl (j + 1) (by simpa using hj); simpa [Nat.add_assoc, Nat.add_comm 1 j] using this) (by omega) hB' hK)

theorem wpQuiet_mono {Q R : Act → Prop} (h : ∀ a, Q a → R a) : ∀ (l : List Oper) (a : Act), wpQuiet P ops C Q l a → wpQuiet P ops C R l a
  | [], a, k => h a k
  | o :: r, a, k => by
    unfold wpQuiet at *
    split
    · rename_i hw
      rw [if_pos hw] at k
      exact Oper.quiet_mono (fun a' => wpQuiet_mono h r a') k
    · rename_i hw
      rw [if_neg hw] at k
      exact wpQuiet_mono h r _ k

theorem wp_region_last {id : Nat} {a : Act} {w : World} {l : List Oper} (last : Nat) {o : Oper} (ho : l[last]? = some o) (hsz : l.length = last + 1) (hm : P.follows .mixedOrders = true) (hB : Region.lexB .any l.toArray = true) (hwt : waitsR .any l.toArray last = true) (hC : C { w with drawn := w.drawn + 1 })
    (h : wpQuiet P l.toArray C (fun a' => ∀ w', C w' → ∀ K : Act → World → Prop, Hid (∀ a'' w'', Q .normal a'' w'' → K a'' w'') → if Region.wanted o (yielded l.toArray a'.tmps) = true then Oper.wp P o a' w' K Q else K (a'.put o.dst undef) w') (l.take last) a) : (Code.region id l.toArray true).wp P Q a w := by
  simp only [Region.lexB, Bool.and_eq_true] at hB
  have hlen : (l.take last).length = last := by rw [List.length_take]; omega
  have h2 := wpAnyZ_lex (Q := Q) hwt hB.1 (l.take last) 0 (Array.replicate l.toArray.size false) a (closed_start _) (fun j hj => by
      rw [Nat.zero_add, List.getElem?_take, if_pos (by omega)]; simp) (by omega) (by
      rw [hlen, ← hsz]; simpa using hB.2) (wpQuiet_mono (fun a' k w' hc => wpOp_step (by simpa using ho) fun K2 hK => k w' hc K2 (Lib.hid hK)) _ _ h)
  rw [hlen] at h2
  refine wp_region_any hm ?_
  have e : l.toArray.size = last + 1 := by simpa using hsz
  rw [e] at h2 ⊢
  exact wpAny_of_Z hwt last _ a _ (closed_start _) hC h2
end
section
variable {P : Program} {ops : Array Oper} {Q : Exit → Act → World → Prop} {md : Region.Mode} {S : World → Prop} {last : Nat}
def closedB (md : Region.Mode) (ops : Array Oper) (listed : Array Bool) : Bool := (List.range ops.size).all fun j => !listed.getD j false || (match ops[j]? with | none => true | some o => o.after.all fun e => !Region.binds md e || listed.getD e.on false)
theorem closed_spec {listed : Array Bool} (h : closedB md ops listed = true) : ClosedR md ops listed := by
  intro j oj hj hl e he hb
  have h1 := List.all_eq_true.1 h j (List.mem_range.2 (Array.getElem?_eq_some_iff.1 hj).1)
  rw [hl, hj] at h1
  simp only [Bool.not_true, Bool.false_or] at h1
  have h2 := Array.all_eq_true'.1 h1 e he
  rw [hb] at h2
  simpa using h2
theorem AnyBut.take_auxR (hw : waitsR md ops last = true) {i : Nat} {oi : Oper} {v : Value} (hi : ops[i]? = some oi) (hne : i ≠ last) (hsel : ∀ (j : Nat) (o : Oper) cs b, ops[j]? = some o → o.op ≠ .select cs b)
    (hQ : ∀ c a w, Q (.panic c) (a.put oi.dst v) w → Q (.panic c) a w) (n : Nat) :
    ∀ (listed : Array Bool) (a : Act) (w : World), ClosedR md ops listed → (∀ j oj, ops[j]? = some oj → j ≠ i → listed.getD j true = false → (∀ e ∈ oj.after, Region.binds md e = true → e.on ≠ i) → oi.apart ops oj = true) →
      i ∈ Region.ready md ops listed → YieldsIf P ops S oi v a → S w → AnyBut P md ops Q S last n (listed.setIfInBounds i true) (a.put oi.dst v) w → AnyBut P md ops Q S last (n + 1) listed a w := by
  induction n with
  | zero =>
    intro listed a w _ _ hr hy hS H
    refine ⟨fun h => absurd hr (by rw [h]; exact List.not_mem_nil), fun j hj => ?_⟩
    by_cases hji : j = i
    · subst hji; exact hy.wpOp hi hS ⟨fun _ => hS, H⟩
    · exact absurd (ready_mono hj hji) (by rw [H.1]; exact List.not_mem_nil)
  | succ n ih =>
    intro listed a w hcl hfree hr hy hS H
    refine ⟨fun h => absurd hr (by rw [h]; exact List.not_mem_nil), fun j hj => ?_⟩
    by_cases hji : j = i
    · subst hji; exact hy.wpOp hi hS ⟨fun _ => hS, H⟩
    · have hjl : j ≠ last := fun e => waits_specR hw hcl hr hne (e ▸ hj)
      obtain ⟨hjun, oj, hoj, hall⟩ := mem_ready.1 hj
      have hir := (mem_ready.1 hr).1
      have hnot : ∀ e ∈ oj.after, Region.binds md e = true → e.on ≠ i := fun e he hb heq => by
        have h1 := hall e he hb
        rw [heq] at h1
        rcases Nat.lt_or_ge i listed.size with h' | h'
        · simp [h'] at hir h1; rw [hir] at h1; cases h1
        · simp [Array.getElem?_eq_none h'] at h1
      have h2 := wpOp_putIf hoj (hfree j oj hoj hji hjun hnot) (fun cs b => hsel i oi cs b hi) (fun cs b => hsel j oj cs b hoj) hQ hy (H.2 j (ready_mono hj hji))
      refine wpOp_mono (fun a' w' h3 => ?_) h2
      have hS' := h3.2.1 hjl
      refine ⟨fun _ => hS', ih (listed.setIfInBounds j true) a' w' (hcl.set hj) (fun k ok hk hki hun hno => ?_) (ready_mono hr (Ne.symm hji)) h3.1 hS' ?_⟩
      · by_cases hjk : j = k
        · subst hjk; exact hfree j ok hk hki hjun hno
        · rw [getD_set_ne true hjk] at hun; exact hfree k ok hk hki hun hno
      · rw [Array.setIfInBounds_comm _ _ hji]; exact h3.2.2

/-- Number i is taken first. -/
theorem AnyBut.takeR (i : Nat) {oi : Oper} {d : Option Tmp} {v : Value} {n : Nat} {listed : Array Bool} {a : Act} {w : World} (hi : ops[i]? = some oi) (hd : oi.dst = d) (hw : waitsR md ops last = true) (hcl : closedB md ops listed = true) (hne : i ≠ last)
    (hs : Region.noSelect ops = true) (hf : Region.free md ops listed i = true) (hr : (Region.ready md ops listed).contains i = true)
    (hQ : ∀ c a w, Q (.panic c) (a.put oi.dst v) w → Q (.panic c) a w) (hwt : Region.wanted oi (yielded ops a.tmps) = true) (hS : S w)
    (hy : ∀ w, S w → (execOp a.eval oi).run P w = .ok (.value v) w)
    (h : AnyBut P md ops Q S last n (listed.setIfInBounds i true) (a.put d v) w) : AnyBut P md ops Q S last (n + 1) listed a w := by
  subst hd
  exact AnyBut.take_auxR hw hi hne (Region.noSelect_spec hs) hQ n listed a w (closed_spec hcl) (Region.free_spec hi hf) (by simpa using hr) (.inl ⟨hwt, hy⟩) hS h
end
end Go
namespace Go.Proofs.YtehcbicngbibgaaGreatDoor
open Go Go.RowKit
theorem wp_region_low_last {P : Program} {W : World} {id : Nat} {Q : Exit → Act → World → Prop} {a : Act} {l : List Oper} (last : Nat) {o : Oper} (ho : l[last]? = some o) (hsz : l.length = last + 1) (hm : P.follows .mixedOrders = true) (hB : Region.lexB .any l.toArray = true) (hwt : waitsR .any l.toArray last = true)
    (h : wpQuiet P l.toArray (fun w' => ∃ d : LowW W, w' = d.w) (fun a' => ∀ w', (∃ d : LowW W, w' = d.w) → ∀ K : Act → World → Prop, Hid (∀ a'' w'', Q .normal a'' w'' → K a'' w'') → if Region.wanted o (yielded l.toArray a'.tmps) = true then Oper.wp P o a' w' K Q else K (a'.put o.dst undef) w') (l.take last) a) : (Code.region id l.toArray true).wp P Q a W :=
  wp_region_last last ho hsz hm hB hwt ⟨⟨{ W with drawn := W.drawn + 1 }, drew_low W⟩, rfl⟩ h
end Go.Proofs.YtehcbicngbibgaaGreatDoor
