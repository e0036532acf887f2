/- PrintTexts, part 13. -/
import Derived.Test.YtlppklbmdedipaaGreatDoorW01
import Derived.Test.YtlppklbmdedipaaGreatDoorW12
import Derived.Test.YtlppklbmdedipaaGreatDoorW02
import Derived.Test.YtlppklbmdedipaaGreatDoorW11
import Derived.Test.YtlppklbmdedipaaGreatDoorW05
namespace Go
open RowKit
section
variable {P : Program} {ops : Array Oper} {md : Region.Mode} {C : World → Prop} {Q : Exit → Act → World → Prop} {last : Nat}

def reachR (md : Region.Mode) (ops : Array Oper) : Nat → Nat → Nat → Bool
  | 0, _, _ => false
  | n + 1, j, i => match ops[j]? with
    | none => false
    | some o => o.after.any fun e => Region.binds md e && (e.on == i || reachR md ops n e.on i)
def waitsR (md : Region.Mode) (ops : Array Oper) (last : Nat) : Bool := (List.range ops.size).all fun i => i == last || reachR md ops ops.size last i
def ClosedR (md : Region.Mode) (ops : Array Oper) (listed : Array Bool) : Prop := ∀ j oj, ops[j]? = some oj → listed.getD j false = true → ∀ e ∈ oj.after, Region.binds md e = true → listed.getD e.on false = true
theorem set_listed {listed : Array Bool} {i k : Nat} (h : listed.getD k false = true) : (listed.setIfInBounds i true).getD k false = true := by
  by_cases e : i = k
  · subst e
    rcases Nat.lt_or_ge i listed.size with h' | h'
    · simp [h']
    · simp [Array.getElem?_eq_none h'] at h
  · rw [getD_set_ne false e]; exact h
theorem ClosedR.set {listed : Array Bool} (h : ClosedR md ops listed) {i : Nat} (hi : i ∈ Region.ready md ops listed) : ClosedR md ops (listed.setIfInBounds i true) := by
  obtain ⟨_, o, ho, hall⟩ := mem_ready.1 hi
  intro j oj hj hl e he hb
  by_cases e9 : i = j
  · subst e9
    rw [ho] at hj
    injection hj with hj
    subst hj
    exact set_listed (hall e he hb)
  · rw [getD_set_ne false e9] at hl
    exact set_listed (h j oj hj hl e he hb)
theorem reach_listed {listed : Array Bool} (hc : ClosedR md ops listed) : ∀ (n j i : Nat), reachR md ops n j i = true → (∀ oj, ops[j]? = some oj → ∀ e ∈ oj.after, Region.binds md e = true → listed.getD e.on false = true) → listed.getD i false = true
  | 0, _, _, h, _ => by cases h
  | n + 1, j, i, h, hd => by
    unfold reachR at h
    cases ho : ops[j]? with
    | none => rw [ho] at h; cases h
    | some o =>
      rw [ho] at h
      obtain ⟨e, he, h2⟩ := Array.any_eq_true'.1 h
      simp only [Bool.and_eq_true, Bool.or_eq_true, beq_iff_eq] at h2
      have hl := hd o ho e he h2.1
      rcases h2.2 with h3 | h3
      · rwa [h3] at hl
      · exact reach_listed hc n e.on i h3 (fun oj hoj => hc e.on oj hoj hl)
theorem waits_specR (h : waitsR md ops last = true) {listed : Array Bool} (hc : ClosedR md ops listed) {i : Nat} (hi : i ∈ Region.ready md ops listed) (hne : i ≠ last) : last ∉ Region.ready md ops listed := by
  intro hl
  obtain ⟨_, o, ho, hall⟩ := mem_ready.1 hl
  obtain ⟨h0, oi, hoi, _⟩ := mem_ready.1 hi
  have h1 := List.all_eq_true.1 h i (List.mem_range.2 (Array.getElem?_eq_some_iff.1 hoi).1)
  simp only [Bool.or_eq_true, beq_iff_eq, hne, false_or] at h1
  have h3 := reach_listed hc _ _ _ h1 (fun oj hoj => by rw [ho] at hoj; injection hoj with hoj; subst hoj; exact hall)
  rcases Nat.lt_or_ge i listed.size with h' | h'
  · simp [h'] at h0 h3
    rw [h0] at h3; cases h3
  · simp [Array.getElem?_eq_none h'] at h3
theorem closed_start (n : Nat) : ClosedR md ops (Array.replicate n false) := by
  intro j oj _ hl
  simp only [Array.getD_eq_getD_getElem?] at hl
  rcases Nat.lt_or_ge j n with h' | h'
  · simp [h'] at hl
  · simp [Array.getElem?_eq_none (show (Array.replicate n false).size ≤ j by simpa using h')] at hl

def wpAnyZ (P : Program) (md : Region.Mode) (ops : Array Oper) (C : World → Prop) (Q : Exit → Act → World → Prop) (last : Nat) : Nat → Array Bool → Act → Prop
  | 0, listed, a => last ∈ Region.ready md ops listed ∧ ∀ w, C w → wpOp P ops Q last (fun a' w' => Region.ready md ops (listed.setIfInBounds last true) = [] ∧ Q .normal a' w') a w
  | n + 1, listed, a => Region.ready md ops listed ≠ [] ∧ ∀ i ∈ Region.ready md ops listed, i ≠ last ∧ qOp P ops C i (wpAnyZ P md ops C Q last n (listed.setIfInBounds i true)) a

theorem wpAny_of_Z (hw : waitsR md ops last = true) : ∀ (n : Nat) (listed : Array Bool) (a : Act) (w : World), ClosedR md ops listed → C w → wpAnyZ P md ops C Q last n listed a → wpAny P md ops Q (n + 1) listed a w
  | 0, listed, _, _, hcl, hc, h => ⟨fun h0 => absurd h.1 (by rw [h0]; exact List.not_mem_nil), fun i hi => by
      by_cases e : i = last
      · subst e; exact wpOp_mono (fun a' w' k => k) (h.2 _ hc)
      · exact absurd h.1 (waits_specR hw hcl hi e)⟩
  | n + 1, _, _, _, hcl, hc, h => ⟨fun h0 => absurd h0 h.1, fun i hi => wpOp_of_qOp hc (fun a' w' hw' k => wpAny_of_Z hw n _ a' w' (hcl.set hi) hw' k) (h.2 i hi).2⟩

theorem wpAnyZ_first (hwt : waitsR md ops last = true) {i : Nat} {oi : Oper} {v : Value} (hi : ops[i]? = some oi) (hne : i ≠ last) (hsel : ∀ (j : Nat) (o : Oper) cs b, ops[j]? = some o → o.op ≠ .select cs b) :
    ∀ (fuel : Nat) (listed : Array Bool) (a : Act), ClosedR md ops listed →
      (∀ j oj, ops[j]? = some oj → j ≠ i → listed.getD j true = false → (∀ e ∈ oj.after, Region.binds md e = true → e.on ≠ i) → oi.apart ops oj = true) →
      i ∈ Region.ready md ops listed → YieldsIn P ops C oi v a →
      wpAnyZ P md ops C Q last fuel (listed.setIfInBounds i true) (a.put oi.dst v) → wpAnyZ P md ops C Q last (fuel + 1) listed a := by
  intro fuel
  induction fuel with
  | zero =>
    intro listed a hcl _ hr hy H
    refine ⟨fun h => (by rw [h] at hr; cases hr), fun j hj => ?_⟩
    have hjl : j ≠ last := fun e => waits_specR hwt hcl hr hne (e ▸ hj)
    refine ⟨hjl, ?_⟩
    by_cases hji : j = i
    · subst hji; exact hy.qOp hi H
    · exact absurd H.1 (waits_specR hwt (hcl.set hr) (ready_mono hj hji) hjl)
  | succ fuel ih =>
    intro listed a hcl hfree hr hy H
    refine ⟨fun h => (by rw [h] at hr; cases hr), fun j hj => ?_⟩
    refine ⟨fun e => waits_specR hwt hcl hr hne (e ▸ hj), ?_⟩
    by_cases hji : j = i
    · subst hji; exact hy.qOp hi H
    · have h1 := (H.2 j (ready_mono hj hji)).2
      obtain ⟨hjun, oj, hoj, hall⟩ := mem_ready.1 hj
      have hnot : ∀ e ∈ oj.after, Region.binds md e = true → e.on ≠ i := fun e he hb heq => by
        have h1 := hall e he hb
        have h0 := (mem_ready.1 hr).1
        rw [heq] at h1
        rcases Nat.lt_or_ge i listed.size with h' | h'
        · simp [h'] at h0 h1; rw [h0] at h1; cases h1
        · simp [Array.getElem?_eq_none h'] at h1
      have h2 := qOp_put hoj (hfree j oj hoj hji hjun hnot) (fun cs b => hsel i oi cs b hi) (fun cs b => hsel j oj cs b hoj) hy h1
      have hfree' : ∀ k ok, ops[k]? = some ok → k ≠ i → (listed.setIfInBounds j true).getD k true = false →
          (∀ e ∈ ok.after, Region.binds md e = true → e.on ≠ i) → oi.apart ops ok = true := fun k ok hk hki hun hno => by
        refine hfree k ok hk hki ?_ hno
        by_cases hjk : j = k
        · subst hjk; exact hjun
        · rw [getD_set_ne true hjk] at hun; exact hun
      refine qOp_mono (fun a' h3 => ih (listed.setIfInBounds j true) a' (hcl.set hj) hfree' (ready_mono hr (Ne.symm hji)) h3.1 ?_) h2
      rw [Array.setIfInBounds_comm _ _ hji]
      exact h3.2

theorem wpAnyZ_lex (hwt : waitsR md ops last = true) (hs : Region.noSelect ops = true) : ∀ (l : List Oper) (k : Nat) (listed : Array Bool) (a : Act), ClosedR md ops listed → (∀ j, j < l.length → l[j]? = ops[k + j]?) → k + l.length = last →
    Region.lexFrom md ops (l.length + 1) k listed = true → wpQuiet P ops C (fun a' => ∀ w, C w → wpOp P ops Q last (Q .normal) a' w) l a → wpAnyZ P md ops C Q last l.length listed a
  | [], k, listed, a, _, _, hk, hB, h => by
    have e : k = last := by simpa using hk
    subst e
    simp only [List.length_nil, Region.lexFrom, Bool.and_eq_true] at hB
    obtain ⟨⟨hr, _⟩, hB'⟩ := hB
    refine ⟨by simpa using hr, fun w hc => wpOp_mono (fun a' w' q => ⟨by simpa using hB', q⟩) (h w hc)⟩
  | o :: l, k, listed, a, hcl, hl, hk, hB, h => by
    have h0 : ops[k]? = some o := by simpa using (hl 0 (by simp)).symm
    rw [List.length_cons] at hB hk
    rw [Region.lexFrom] at hB
    simp only [Bool.and_eq_true] at hB
    obtain ⟨⟨hr, hf⟩, hB'⟩ := hB
    have hst : qOp P ops C k (wpQuiet P ops C (fun a' => ∀ w, C w → wpOp P ops Q last (Q .normal) a' w) l) a := by unfold qOp; simp only [h0]; exact h
    obtain ⟨v, hy, hK⟩ := yieldsIn_of_qOp h0 hst
    exact wpAnyZ_first hwt h0 (by omega) (Region.noSelect_spec hs) l.length listed a hcl (Region.free_spec h0 hf) (by simpa using hr) hy
      (wpAnyZ_lex hwt hs l (k + 1) _ _ (hcl.set (by simpa using hr)) (fun j hj => by have := hl (j + 1) (by simpa using hj); simpa [Nat.add_assoc, Nat.add_comm 1 j] using this) (by omega) hB' hK)

theorem wpQuiet_mono {Q R : Act → Prop} (h : ∀ a, Q a → R a) : ∀ (l : List Oper) (a : Act), wpQuiet P ops C Q l a → wpQuiet P ops C R l a
  | [], a, k => h a k
  | o :: r, a, k => by
    unfold wpQuiet at *
    split
    · rename_i hw
      rw [if_pos hw] at k
      exact Oper.quiet_mono (fun a' => wpQuiet_mono h r a') k
    · rename_i hw
      rw [if_neg hw] at k
      exact wpQuiet_mono h r _ k

theorem wp_region_last {id : Nat} {a : Act} {w : World} {l : List Oper} (last : Nat) {o : Oper} (ho : l[last]? = some o) (hsz : l.length = last + 1) (hm : P.follows .mixedOrders = true) (hB : Region.lexB .any l.toArray = true) (hwt : waitsR .any l.toArray last = true) (hC : C { w with drawn := w.drawn + 1 })
    (h : wpQuiet P l.toArray C (fun a' => ∀ w', C w' → ∀ K : Act → World → Prop, Hid (∀ a'' w'', Q .normal a'' w'' → K a'' w'') → if Region.wanted o (yielded l.toArray a'.tmps) = true then Oper.wp P o a' w' K Q else K (a'.put o.dst undef) w') (l.take last) a) : (Code.region id l.toArray true).wp P Q a w := by
  simp only [Region.lexB, Bool.and_eq_true] at hB
  have hlen : (l.take last).length = last := by rw [List.length_take]; omega
  have h2 := wpAnyZ_lex (Q := Q) hwt hB.1 (l.take last) 0 (Array.replicate l.toArray.size false) a (closed_start _) (fun j hj => by
      rw [Nat.zero_add, List.getElem?_take, if_pos (by omega)]; simp) (by omega) (by
      rw [hlen, ← hsz]; simpa using hB.2) (wpQuiet_mono (fun a' k w' hc => wpOp_step (by simpa using ho) fun K2 hK => k w' hc K2 (Lib.hid hK)) _ _ h)
  rw [hlen] at h2
  refine wp_region_any hm ?_
  have e : l.toArray.size = last + 1 := by simpa using hsz
  rw [e] at h2 ⊢
  exact wpAny_of_Z hwt last _ a _ (closed_start _) hC h2
end
section
variable {P : Program} {ops : Array Oper} {Q : Exit → Act → World → Prop} {md : Region.Mode} {S : World → Prop} {last : Nat}
def closedB (md : Region.Mode) (ops : Array Oper) (listed : Array Bool) : Bool := (List.range ops.size).all fun j => !listed.getD j false || (match ops[j]? with | none => true | some o => o.after.all fun e => !Region.binds md e || listed.getD e.on false)
theorem closed_spec {listed : Array Bool} (h : closedB md ops listed = true) : ClosedR md ops listed := by
  intro j oj hj hl e he hb
  have h1 := List.all_eq_true.1 h j (List.mem_range.2 (Array.getElem?_eq_some_iff.1 hj).1)
  rw [hl, hj] at h1
  simp only [Bool.not_true, Bool.false_or] at h1
  have h2 := Array.all_eq_true'.1 h1 e he
  rw [hb] at h2
  simpa using h2
theorem AnyBut.take_auxR (hw : waitsR md ops last = true) {i : Nat} {oi : Oper} {v : Value} (hi : ops[i]? = some oi) (hne : i ≠ last) (hsel : ∀ (j : Nat) (o : Oper) cs b, ops[j]? = some o → o.op ≠ .select cs b)
    (hQ : ∀ c a w, Q (.panic c) (a.put oi.dst v) w → Q (.panic c) a w) (n : Nat) :
    ∀ (listed : Array Bool) (a : Act) (w : World), ClosedR md ops listed → (∀ j oj, ops[j]? = some oj → j ≠ i → listed.getD j true = false → (∀ e ∈ oj.after, Region.binds md e = true → e.on ≠ i) → oi.apart ops oj = true) →
      i ∈ Region.ready md ops listed → YieldsIf P ops S oi v a → S w → AnyBut P md ops Q S last n (listed.setIfInBounds i true) (a.put oi.dst v) w → AnyBut P md ops Q S last (n + 1) listed a w := by
  induction n with
  | zero =>
    intro listed a w _ _ hr hy hS H
    refine ⟨fun h => absurd hr (by rw [h]; exact List.not_mem_nil), fun j hj => ?_⟩
    by_cases hji : j = i
    · subst hji; exact hy.wpOp hi hS ⟨fun _ => hS, H⟩
    · exact absurd (ready_mono hj hji) (by rw [H.1]; exact List.not_mem_nil)
  | succ n ih =>
    intro listed a w hcl hfree hr hy hS H
    refine ⟨fun h => absurd hr (by rw [h]; exact List.not_mem_nil), fun j hj => ?_⟩
    by_cases hji : j = i
    · subst hji; exact hy.wpOp hi hS ⟨fun _ => hS, H⟩
    · have hjl : j ≠ last := fun e => waits_specR hw hcl hr hne (e ▸ hj)
      obtain ⟨hjun, oj, hoj, hall⟩ := mem_ready.1 hj
      have hir := (mem_ready.1 hr).1
      have hnot : ∀ e ∈ oj.after, Region.binds md e = true → e.on ≠ i := fun e he hb heq => by
        have h1 := hall e he hb
        rw [heq] at h1
        rcases Nat.lt_or_ge i listed.size with h' | h'
        · simp [h'] at hir h1; rw [hir] at h1; cases h1
        · simp [Array.getElem?_eq_none h'] at h1
      have h2 := wpOp_putIf hoj (hfree j oj hoj hji hjun hnot) (fun cs b => hsel i oi cs b hi) (fun cs b => hsel j oj cs b hoj) hQ hy (H.2 j (ready_mono hj hji))
      refine wpOp_mono (fun a' w' h3 => ?_) h2
      have hS' := h3.2.1 hjl
      refine ⟨fun _ => hS', ih (listed.setIfInBounds j true) a' w' (hcl.set hj) (fun k ok hk hki hun hno => ?_) (ready_mono hr (Ne.symm hji)) h3.1 hS' ?_⟩
      · by_cases hjk : j = k
        · subst hjk; exact hfree j ok hk hki hjun hno
        · rw [getD_set_ne true hjk] at hun; exact hfree k ok hk hki hun hno
      · rw [Array.setIfInBounds_comm _ _ hji]; exact h3.2.2

theorem AnyBut.takeR (i : Nat) {oi : Oper} {d : Option Tmp} {v : Value} {n : Nat} {listed : Array Bool} {a : Act} {w : World} (hi : ops[i]? = some oi) (hd : oi.dst = d) (hw : waitsR md ops last = true) (hcl : closedB md ops listed = true) (hne : i ≠ last)
    (hs : Region.noSelect ops = true) (hf : Region.free md ops listed i = true) (hr : (Region.ready md ops listed).contains i = true)
    (hQ : ∀ c a w, Q (.panic c) (a.put oi.dst v) w → Q (.panic c) a w) (hwt : Region.wanted oi (yielded ops a.tmps) = true) (hS : S w)
    (hy : ∀ w, S w → (execOp a.eval oi).run P w = .ok (.value v) w)
    (h : AnyBut P md ops Q S last n (listed.setIfInBounds i true) (a.put d v) w) : AnyBut P md ops Q S last (n + 1) listed a w := by
  subst hd
  exact AnyBut.take_auxR hw hi hne (Region.noSelect_spec hs) hQ n listed a w (closed_spec hcl) (Region.free_spec hi hf) (by simpa using hr) (.inl ⟨hwt, hy⟩) hS h
end
end Go
namespace Go.Proofs.YtlppklbmdedipaaGreatDoor
open Go Go.RowKit
theorem wp_region_low_last {P : Program} {W : World} {id : Nat} {Q : Exit → Act → World → Prop} {a : Act} {l : List Oper} (last : Nat) {o : Oper} (ho : l[last]? = some o) (hsz : l.length = last + 1) (hm : P.follows .mixedOrders = true) (hB : Region.lexB .any l.toArray = true) (hwt : waitsR .any l.toArray last = true)
    (h : wpQuiet P l.toArray (fun w' => ∃ d : LowW W, w' = d.w) (fun a' => ∀ w', (∃ d : LowW W, w' = d.w) → ∀ K : Act → World → Prop, Hid (∀ a'' w'', Q .normal a'' w'' → K a'' w'') → if Region.wanted o (yielded l.toArray a'.tmps) = true then Oper.wp P o a' w' K Q else K (a'.put o.dst undef) w') (l.take last) a) : (Code.region id l.toArray true).wp P Q a W :=
  wp_region_last last ho hsz hm hB hwt ⟨⟨{ W with drawn := W.drawn + 1 }, drew_low W⟩, rfl⟩ h
end Go.Proofs.YtlppklbmdedipaaGreatDoor

namespace Go.Proofs.YtlppklbmdedipaaGreatDoor
open Go Go.RowKit
set_option maxHeartbeats 8000000
set_option maxRecDepth 100000
theorem must_must (t : RS) (a b : Bool) : (t.must a).must b = t.must (a && b) := by
 simp [RS.must, Bool.not_and, Bool.or_assoc]
theorem take_eq_succ {α : Type} [DecidableEq α] {A C : List α} {k : Nat} {s u : α} (h : A[k]? = some s) (g : C[k]? = some u) : decide (A.take (k + 1) = C.take (k + 1)) = (decide (A.take k = C.take k) && decide (s = u)) := by
 rw [take_snoc h, take_snoc g, Bool.eq_iff_iff]
 simp only [decide_eq_true_eq, Bool.and_eq_true]
 have h1 := (List.getElem?_eq_some_iff.1 h).1
 have h2 := (List.getElem?_eq_some_iff.1 g).1
 constructor
 ·intro e
  have := List.append_inj e (by simp; omega)
  exact ⟨this.1, by simpa using this.2⟩
 ·rintro ⟨e, rfl⟩; rw [e]
theorem str_beq (s u : ByteArray) : (s.toList == u.toList) = decide (s = u) := by
 rw [Bool.eq_iff_iff, beq_iff_eq, decide_eq_true_eq, ByteArray.toList_eq, ByteArray.toList_eq]
 exact ⟨fun h => ba_ext h, fun h => by rw [h]⟩
theorem named_end {v : Ex} {N : List ByteArray} {k : Nat} (h : k = N.length ∨ k = v.names.length) (h1 : k ≤ N.length) (_h2 : k ≤ v.names.length) : ((decide (v.names.length = N.length) && decide (v.vals.length = N.length)) && decide (v.names.take k = N.take k)) = namedB v N := by
 unfold namedB
 by_cases e : v.names.length = N.length
 ·have hk : k = N.length := by omega
  rw [List.take_of_length_le (by omega), List.take_of_length_le (by omega), e]
  simp [Bool.and_comm]
 ·have : ¬ v.names = N := fun h => e (by rw [h])
  simp [e, this]
theorem named_R (w0 : World) (B b : Nat) (v : Ex) (q : QEx) (N : List ByteArray) (ao : Option Addr) (cp : Nat) (t : RS) (bx : Bx) (w : World) (hv : ExAt w0 B v q) (hV : ExsR w0 B b v.vals) (hN : N.length ≤ 8)
  (h : RK w0 B b t bx w) (ha : N = [] ∨ ∃ g, ao = some ⟨g, 0, none⟩ ∧ (g, .cells (N.map Value.string).toArray 9 (0, 0)) ∈ bx) (hF : FitR (RS.named v N (rExs v.vals) t)) :
  Calls Tryz.prog 98 #[.pointer (some ⟨b, 0, none⟩), .agg (A0_ v q), .slice ao N.length cp] w fun e w' => e = .returned (.tuple #[]) ∧ RK w0 B b (RS.named v N (rExs v.vals) t) bx w' := by
 unfold A0_
 have hL := hv.lens
 have hmx := ExLens.maxes hv
 have hmn := hmx.2.1
 have hF' : FitR (rExs v.vals (t.must (namedB v N))) := hF
 have f0 : FitR (t.must (decide (v.names.length = N.length) && decide (v.vals.length = N.length))) := show FitR t from FitR.exs (t := t.must (namedB v N)) hv.vals hF'
 obtain ⟨S, hS⟩ : ∃ S, S = w.alloc ((O0_ v q)) := ⟨_, rfl⟩
 have h0 : RK w0 B b t ((w.heap.size, (O0_ v q)) :: bx) S := by rw [hS]; exact h.alloc _
 have hWS : Hid (S = _) := hS
 clear hS
 replace h := hi_ h
 have hnl := hv.names
 have hvl := hv.vals
 have hcell : Hid (∀ (W : World) (t' : RS) (k : Nat) (u : ByteArray), RK w0 B b t' ((w.heap.size, (O0_ v q)) :: bx) W → N[k]? = some u → ∃ g, ao = some ⟨g, 0, none⟩ ∧ W.cell? ⟨g, k, none⟩ = some (.string u)) := fun W t' k u hW hu => by
  rcases ha with rfl | ⟨g, hg, hm⟩
  ·simp at hu
  ·refine ⟨g, hg, ?_⟩
   have := hW.box (List.mem_cons_of_mem _ hm)
   simp [World.cell?, this, hu]
 have cM := hi_ (must_as w0 B b t (decide (v.names.length = N.length) && decide (v.vals.length = N.length)) ((w.heap.size, (O0_ v q)) :: bx) f0)
 have cM2 := hi_ (fun (t' : RS) (c : Bool) (f : FitR t') => must_as w0 B b t' c ((w.heap.size, (O0_ v q)) :: bx) f)
 have cA := hi_ (fun W (hW : RK w0 B b (t.must (namedB v N)) ((w.heap.size, (O0_ v q)) :: bx) W) => hV _ _ q.valsc _ hv.vals _ W hW hF')
 have f0' := hi_ f0
 have hln := hi_ hL.names
 have hlv := hi_ hL.vals
 clear hF hF' f0 hv hL hmx ha
 obtain ⟨m, hm⟩ : ∃ m, m = N.length := ⟨_, rfl⟩
 rw [← hm]
 have hm8 : m ≤ 8 := by omega
 replace hm := hi_ hm
 clear hN
 go_enter Tryz.func98, Tryz.ntmps98
 go_upto_region 1 with (rw [← hWS.out])
 go_cut [] (fun wx => RK w0 B b (t.must (decide (v.names.length = N.length) && decide (v.vals.length = N.length))) ((w.heap.size, (O0_ v q)) :: bx) wx)
 case first =>
  obtain ⟨-, -, -, -, x4, x5, -⟩ := c10_ (h0.box M0_)
  replace h0 := hi_ h0
  by_cases e : q.namesn = m
  ·have y : ((q.namesn : Int) == (m : Int)) = true := by rw [int_beq]; simp [e]
   replace e := hi_ e
   go_wp2_with (go_at_call 34; refine (cM.out _ _ h0.out (by rw [int_beq, ← hln.out, ← hlv.out, ← hm.out]; have := e.out; simp [this])).mono ?_)
   first | rintro e w3 rfl h3 | rintro e w3 ⟨rfl, h3⟩
   replace h3 := hi_ h3
   clear x4 x5 y
   go_wp2_with fail
   go_meet
   exact h3.out
  ·have y : ((q.namesn : Int) == (m : Int)) = false := by rw [int_beq]; simp [e]
   replace e := hi_ e
   go_wp2_with (go_at_call 34; refine (cM.out _ _ h0.out (by rw [← hln.out, ← hlv.out, ← hm.out]; have := e.out; simp [this])).mono ?_)
   first | rintro e w3 rfl h3 | rintro e w3 ⟨rfl, h3⟩
   replace h3 := hi_ h3
   clear x4 x5 y
   go_wp2_with fail
   go_meet
   exact h3.out
 case rest =>
  replace h0 := hi_ h0
  have hcut' := hi_ hcut
  clear hcut
  go_wp2_with fail
  go_loopw [6] (fun i wr => ∃ k : Nat, k ≤ m ∧ k ≤ q.namesn ∧ i = .int .i64 (k : Nat) ∧ RK w0 B b ((t.must (decide (v.names.length = N.length) && decide (v.vals.length = N.length))).must (decide (v.names.take k = N.take k))) ((w.heap.size, (O0_ v q)) :: bx) wr) (fun i _ => m - (intOf i).toNat)
  case atStart => exact ⟨0, Nat.zero_le _, Nat.zero_le _, rfl, by rw [List.take_zero, List.take_zero, show decide (([] : List ByteArray) = []) = true from rfl, RS.must_true]; exact hcut'.out⟩
  case round =>
   clear hcut'
   obtain ⟨k, hk, hk2, rfl, hK⟩ := hrel
   by_cases hlt : k < m
   ·by_cases hlt2 : k < q.namesn
    ·have hlt9 : Hid (k + 1 ≤ m ∧ k + 1 ≤ q.namesn) := ⟨hlt, hlt2⟩
     have i1 : (k : Int) < (m : Int) := by omega
     have i2 : (k : Int) < (q.namesn : Int) := by omega
     obtain ⟨b1, o1, s, hqa, hb1, hg1, u0, hs⟩ := TLs.elem hnl k hlt2
     obtain ⟨u, hu⟩ : ∃ u, N[k]? = some u := ⟨_, List.getElem?_eq_getElem (by rw [← hm.out]; exact hlt)⟩
     obtain ⟨g, hao, hgc⟩ := hcell.out wr _ k u hK hu
     have hE := hi_ (take_eq_succ hg1 hu)
     replace hao := hi_ hao
     replace hqa := hi_ hqa
     have hY := hK.box M0_
     have x4 : ∀ d : LowW wr, d.w.cell? ⟨w.heap.size, 4, none⟩ = some (.slice (some ⟨b1, o1, none⟩) q.namesn q.namesc) := fun d => (d.cell (hK.boxlt M0_).1).trans (by rw [← hqa.out]; simp [World.cell?, hY])
     have x4w := x4 ⟨wr, Below.refl _ _⟩
     have hgl : g < wr.heap.size := by
      have := World.block_lt_of_cell? wr _ hgc
      exact this
     have u1 : ∀ d : LowW wr, d.w.cell? ⟨g, k, none⟩ = some (.string u) := fun d => (d.cell hgl).trans hgc
     have u2 : ∀ d : LowW wr, d.w.cell? ⟨b1, o1 + k, none⟩ = some (.string s) := fun d => (d.cell (Nat.lt_of_lt_of_le hb1 hK.size)).trans ((hK.low.cell (p := ⟨b1, o1 + k, none⟩) hb1).trans u0)
     have cM3 := hi_ (fun d : LowW wr => fun ok => cM2.out ((t.must (decide (v.names.length = N.length) && decide (v.vals.length = N.length))).must (decide (v.names.take k = N.take k))) (decide (s = u)) (show FitR (t.must (decide (v.names.length = N.length) && decide (v.vals.length = N.length))) from f0'.out) ok d.w (hK.below d.low))
     clear hY hgc u0
     replace hK := hi_ hK
     rw [hao.out]
     go_wp2_with fail
     refine wp_region_low_last 11 rfl rfl (by kernel_rfl) (by kernel_rfl) (by kernel_rfl) ?_
     simp only [List.take_succ_cons, List.take_zero]
     repeat (go_big_quiet_step (fail))
     refine wpQuiet_nil ?_
     rintro _ ⟨d, rfl⟩ K hKK
     go_simp
     go_at_call 34
     refine (cM3.out d _ (by rw [← str_beq])).mono ?_
     rintro e w3 ⟨rfl, h3⟩
     refine hKK.out _ _ ?_
     clear hKK K
     rw [must_must, ← hE.out] at h3
     replace h3 := hi_ h3
     clear x4 x4w u1 u2
     go_wp2_with fail
     go_roundw
     case rel => exact ⟨k + 1, hlt9.out.1, hlt9.out.2, by go_num, h3.out⟩
     case measure => simp [intOf]; have := hlt9.out; omega
    ·have i1 : (k : Int) < (m : Int) := by omega
     have i2 : ¬ (k : Int) < (q.namesn : Int) := by omega
     have hK2 := hK
     rw [must_must, named_end (.inr (by rw [← hln.out]; omega)) (by rw [← hm.out]; omega) (by rw [← hln.out]; omega)] at hK2
     have cA1 := hi_ (cA.out wr hK2)
     clear hK2
     obtain ⟨-, -, -, -, x4, x5, -⟩ := c10_ (hK.box M0_)
     replace hK := hi_ hK
     go_wp2_with (go_at_call 37; refine cA1.out.mono ?_)
     first | rintro e w4 rfl h4 | rintro e w4 ⟨rfl, h4⟩
     replace h4 := hi_ h4.drop
     go_wp2_with fail
     exact bodyPost_end (v := .tuple #[]) (results_none (by kernel_rfl) _ _ _) rfl ⟨rfl, h4.out⟩
   ·have i1 : ¬ (k : Int) < (m : Int) := by omega
    have hK2 := hK
    rw [must_must, named_end (.inl (by rw [← hm.out]; omega)) (by rw [← hm.out]; omega) (by rw [← hln.out]; omega)] at hK2
    have cA1 := hi_ (cA.out wr hK2)
    clear hK2
    obtain ⟨-, -, -, -, x4, x5, -⟩ := c10_ (hK.box M0_)
    replace hK := hi_ hK
    go_wp2_with (go_at_call 37; refine cA1.out.mono ?_)
    first | rintro e w4 rfl h4 | rintro e w4 ⟨rfl, h4⟩
    replace h4 := hi_ h4.drop
    go_wp2_with fail
    exact bodyPost_end (v := .tuple #[]) (results_none (by kernel_rfl) _ _ _) rfl ⟨rfl, h4.out⟩
theorem must_asP (w0 : World) (B b : Nat) (t : PS) (C : Bool) (bx : Bx) : ∀ (ok : Bool) (w : World), PK w0 B b t bx w → ok = C → FitP (t.must C) → Calls Tryz.prog 51 #[.pointer (some ⟨b, 0, none⟩), .bool ok] w fun e w' => e = .returned (.tuple #[]) ∧ PK w0 B b (t.must C) bx w' := by
 rintro ok w h rfl hF
 exact must_P w0 B b t ok bx w h hF
theorem wordsL_err {l : List UInt8} {x : Nat × Nat} (h : Lx.wordsL l = .error x) : x.2 = 3 ∨ x.2 = 4 := by
 unfold Lx.wordsL at h
 split at h
 ·injection h with h; rw [← h]; exact .inl rfl
 ·split at h
  ·cases h
  ·injection h with h; rw [← h]; exact .inr rfl
theorem fours_in (s : ByteArray) : Lib.containsS [bs w0_, bs [110, 111], bs w1_, bs [45]] s = fours.contains s.data.toList := by
 have e : ∀ l : List UInt8, (s = bs l) = (s.data.toList = l) := fun l => propext ⟨fun h => by rw [h]; rfl, fun h => by rw [← h, bs_toList]⟩
 rw [Bool.eq_iff_iff, Lib.containsS_iff]
 simp only [List.mem_cons, List.not_mem_nil, or_false, e, fours, List.contains_cons, List.contains_nil, Bool.or_eq_true, Bool.or_false, beq_iff_eq]
theorem plain_P (w0 : World) (B b : Nat) (t : PS) (s : ByteArray) (hs : s.size ≤ 140737488355328) : DoesP w0 B b 28 #[.pointer (some ⟨b, 0, none⟩), .string s] t (t.plain s) := by
 intro bx w h hF
 have hfm : FitP (t.must (nameP s)) := by
  have : (t.must (nameP s)).l.length ≤ (t.plain s).l.length := by
   unfold PS.plain PS.put; dsimp only; split <;> simp <;> omega
  exact Nat.le_trans this hF
 have cM := hi_ (fun W ok (hW : PK w0 B b t bx W) (e : ok = nameP s) => must_asP w0 B b t (nameP s) bx ok W hW e hfm)
 have cP := hi_ (fun W (hW : PK w0 B b (t.must (nameP s)) bx W) => put_P w0 B b (t.must (nameP s)) s.data.toList bx W hW hF)
 have cW := Lx.words_all s.data.toList w (by rw [← size_list]; omega) h.envw
 rw [show Lx.bs s.data.toList = s from bs_toList s] at cW
 have hone := oneB_eq s.data.toList
 have hnp : nameP s = (oneB (Lx.wordsL s.data.toList) s.data.toList && !fours.contains s.data.toList) := by rw [hone]; rfl
 obtain ⟨TF, hTF⟩ : ∃ TF, TF = t.plain s := ⟨_, rfl⟩
 rw [← hTF]
 have cP2 := hi_ (fun W hW => by have := cP.out W hW; rw [bs_toList] at this; exact (show Calls Tryz.prog 27 #[.pointer (some ⟨b, 0, none⟩), .string s] W fun e w' => e = .returned (.tuple #[]) ∧ PK w0 B b TF bx w' from by rw [hTF]; exact this))
 replace hTF := hi_ hTF
 obtain ⟨FC, hFC⟩ : ∃ x, x = fours.contains s.data.toList := ⟨_, rfl⟩
 rw [← hFC] at hnp
 replace hFC := hi_ hFC
 clear hF hfm hone cP
 generalize nameP s = NP at *
 cases ho : Lx.wordsL s.data.toList with
 | error x =>
  have he3 := wordsL_err ho
  rw [ho] at cW hnp
  obtain ⟨ln, er⟩ := x
  have hNP : Hid (false = NP) := by show _ = _; rw [hnp]; rfl
  have her : ((er : Int) == 0) = false := by rw [Bool.eq_false_iff]; simp; rcases he3 with e | e <;> (simp at e; omega)
  replace ho := hi_ ho
  replace h := hi_ h
  clear hnp he3
  replace cW := hi_ cW
  go_enter Tryz.func28, Tryz.ntmps28
  go_wp2_with (go_at_call 50; refine cW.out.mono ?_)
  rintro e w2 ⟨hb2, he2⟩
  simp only at he2
  subst he2
  have h2 := h.out.below hb2
  replace hb2 := hi_ hb2
  replace h2 := hi_ h2
  go_wp2_with (go_at_call 51; refine (cM.out _ _ h2.out hNP.out).mono ?_)
  first | rintro e w5 rfl h5 | rintro e w5 ⟨rfl, h5⟩
  have c5 := hi_ (cP2.out w5 h5)
  replace h5 := hi_ h5
  go_wp2_with (go_at_call 27; refine c5.out.mono ?_)
  first | rintro e w6 rfl h6 | rintro e w6 ⟨rfl, h6⟩
  replace h6 := hi_ h6
  go_wp2_with fail
  exact bodyPost_end (v := .tuple #[]) (results_none (by kernel_rfl) _ _ _) rfl ⟨rfl, h6.out⟩
 | ok ws =>
  rw [ho] at cW hnp
  replace ho := hi_ ho
  replace h := hi_ h
  replace cW := hi_ cW
  by_cases hlen : ws.length = 1
  ·obtain ⟨x, rfl⟩ : ∃ x, ws = [x] := List.length_eq_one_iff.1 hlen
   obtain ⟨k, s2, n, ln⟩ := x
   have hnp2 : NP = ((decide (k = 1) && decide (s2 = s.data.toList)) && !FC) := hnp
   clear hnp hlen
   replace hnp2 := hi_ hnp2
   go_enter Tryz.func28, Tryz.ntmps28
   go_wp2_with (go_at_call 50; refine cW.out.mono ?_)
   rintro e w2 ⟨hb2, v2, he2, hown⟩
   subst he2
   obtain ⟨g, cap, rfl⟩ : ∃ g cap, v2 = .slice (some ⟨g, 0, none⟩) 1 cap := by
    rcases hown.2 with ⟨_, e0⟩ | ⟨g, cap, cur, hv, _⟩
    ·simp at e0
    ·exact ⟨g, cap, hv⟩
   have hgl := (hown.lt g rfl).2
   have y0 : w2.cell? ⟨g, 0, none⟩ = some (.int .u8 (k : Nat)) := by have := hown.cells (g := g) rfl 0 (.int .u8 (k : Nat)) (by rfl); rwa [add_off] at this
   have y1 : w2.cell? ⟨g, 1, none⟩ = some (.string (bs s2)) := by have := hown.cells (g := g) rfl 1 (.string (bs s2)) (by rfl); rwa [add_off] at this
   have h2 := h.out.below hb2
   replace hb2 := hi_ hb2
   obtain ⟨S4, hS4⟩ : ∃ S4, S4 = w2.alloc (.cells A9_ 9) := ⟨_, rfl⟩
   have h4 : PK w0 B b t ((w2.heap.size, O8_) :: bx) S4 := by rw [hS4]; exact h2.alloc _
   have z0 : S4.cell? ⟨g, 0, none⟩ = some (.int .u8 (k : Nat)) := by rw [hS4]; exact (((Below.refl _ w2).alloc (Nat.le_refl _) _).cell hgl).trans y0
   have z1 : S4.cell? ⟨g, 1, none⟩ = some (.string (bs s2)) := by rw [hS4]; exact (((Below.refl _ w2).alloc (Nat.le_refl _) _).cell hgl).trans y1
   have hW4 : Hid (S4 = _) := hS4
   have hbx4 := h4.box M0_
   have cC := Tryz.slices_Contains_string w2.heap.size 0 4 4 [bs w0_, bs [110, 111], bs w1_, bs [45]] s S4 (by decide) (by decide) (by
    intro j hj
    match j, hj with
    | 0, _ | 1, _ | 2, _ | 3, _ => simp [World.cell?, hbx4]; rfl)
   rw [show List.take 4 [bs w0_, bs [110, 111], bs w1_, bs [45]] = [bs w0_, bs [110, 111], bs w1_, bs [45]] from rfl, fours_in, ← hFC.out] at cC
   replace cC := hi_ cC
   have h4' := hi_ h4.drop
   clear hS4 hbx4 h4 hown
   have h2' := h2
   replace h2 := hi_ h2'
   clear h2'
   by_cases hk : k = 1
   ·have yk : ((k : Int) == 1) = true := by simp [hk]
    have hst : ((bs s2).toList == s.toList) = decide (s2 = s.data.toList) := by
     rw [str_beq, Bool.eq_iff_iff, decide_eq_true_eq, decide_eq_true_eq]
     exact ⟨fun e => by rw [← e]; rfl, fun e => by rw [e, bs_toList]⟩
    by_cases hss : s2 = s.data.toList
    ·have ys : ((bs s2).toList == s.toList) = true := by rw [hst]; simp [hss]
     have ys2 : (bs s2).toList = s.toList := by simpa using ys
     have hNP : Hid ((!FC) = NP) := by show _ = _; rw [hnp2.out]; simp [hk, hss]
     replace hk := hi_ hk
     replace hss := hi_ hss
     clear hst
     go_wp2_with (first | (rw [← hW4.out]) | (go_at_call 52; refine cC.out.mono ?_; rintro e w9 ⟨rfl, hw9⟩; obtain rfl := hw9.symm) | (go_at_call 51; refine (cM.out _ _ h4'.out hNP.out).mono ?_))
     first | rintro e w5 rfl h5 | rintro e w5 ⟨rfl, h5⟩
     have c5 := hi_ (cP2.out w5 h5)
     replace h5 := hi_ h5
     clear y0 y1 z0 z1
     go_wp2_with (go_at_call 27; refine c5.out.mono ?_)
     first | rintro e w6 rfl h6 | rintro e w6 ⟨rfl, h6⟩
     replace h6 := hi_ h6
     go_wp2_with fail
     exact bodyPost_end (v := .tuple #[]) (results_none (by kernel_rfl) _ _ _) rfl ⟨rfl, h6.out⟩
    ·have ys : ((bs s2).toList == s.toList) = false := by rw [hst]; simp [hss]
     have ys2 : ¬ (bs s2).toList = s.toList := by simpa using ys
     have hNP : Hid (false = NP) := by show _ = _; rw [hnp2.out]; simp [hss]
     replace hk := hi_ hk
     replace hss := hi_ hss
     clear hst
     go_wp2_with (go_at_call 51; refine (cM.out _ _ h2.out hNP.out).mono ?_)
     first | rintro e w5 rfl h5 | rintro e w5 ⟨rfl, h5⟩
     have c5 := hi_ (cP2.out w5 h5)
     replace h5 := hi_ h5
     clear y0 y1 z0 z1
     go_wp2_with (go_at_call 27; refine c5.out.mono ?_)
     first | rintro e w6 rfl h6 | rintro e w6 ⟨rfl, h6⟩
     replace h6 := hi_ h6
     go_wp2_with fail
     exact bodyPost_end (v := .tuple #[]) (results_none (by kernel_rfl) _ _ _) rfl ⟨rfl, h6.out⟩
   ·have yk : ((k : Int) == 1) = false := by rw [Bool.eq_false_iff]; simp; omega
    have hNP : Hid (false = NP) := by show _ = _; rw [hnp2.out]; simp [hk]
    replace hk := hi_ hk
    go_wp2_with (go_at_call 51; refine (cM.out _ _ h2.out hNP.out).mono ?_)
    first | rintro e w5 rfl h5 | rintro e w5 ⟨rfl, h5⟩
    have c5 := hi_ (cP2.out w5 h5)
    replace h5 := hi_ h5
    clear y0 y1 z0 z1
    go_wp2_with (go_at_call 27; refine c5.out.mono ?_)
    first | rintro e w6 rfl h6 | rintro e w6 ⟨rfl, h6⟩
    replace h6 := hi_ h6
    go_wp2_with fail
    exact bodyPost_end (v := .tuple #[]) (results_none (by kernel_rfl) _ _ _) rfl ⟨rfl, h6.out⟩
  ·have hNP : Hid (false = NP) := by
    show _ = _
    rw [hnp]
    have : oneB (.ok ws) s.data.toList = false := by
     unfold oneB
     split
     ·rename_i e; injection e with e; rw [e] at hlen; simp at hlen
     ·rfl
    rw [this]; rfl
   have yl : ((ws.length : Int) == 1) = false := by rw [Bool.eq_false_iff]; simp; omega
   clear hnp
   replace hlen := hi_ hlen
   go_enter Tryz.func28, Tryz.ntmps28
   go_wp2_with (go_at_call 50; refine cW.out.mono ?_)
   rintro e w2 ⟨hb2, v2, he2, hown⟩
   subst he2
   obtain ⟨ao, cap, rfl⟩ := slice_of hown
   have h2 := h.out.below hb2
   replace hb2 := hi_ hb2
   replace hown := hi_ hown
   replace h2 := hi_ h2
   go_wp2_with (go_at_call 51; refine (cM.out _ _ h2.out hNP.out).mono ?_)
   first | rintro e w5 rfl h5 | rintro e w5 ⟨rfl, h5⟩
   have c5 := hi_ (cP2.out w5 h5)
   replace h5 := hi_ h5
   go_wp2_with (go_at_call 27; refine c5.out.mono ?_)
   first | rintro e w6 rfl h6 | rintro e w6 ⟨rfl, h6⟩
   replace h6 := hi_ h6
   go_wp2_with fail
   exact bodyPost_end (v := .tuple #[]) (results_none (by kernel_rfl) _ _ _) rfl ⟨rfl, h6.out⟩
end Go.Proofs.YtlppklbmdedipaaGreatDoor

namespace Go.Proofs.YtlppklbmdedipaaGreatDoor
open Go
set_option maxHeartbeats 8000000
set_option maxRecDepth 100000
structure PS.Le (t u : PS) (c : Nat) : Prop where
 lo : t.l.length ≤ u.l.length
 hi : u.l.length ≤ t.l.length + c
theorem PS.Le.refl (t : PS) : PS.Le t t 0 := ⟨Nat.le_refl _, Nat.le_refl _⟩
theorem PS.Le.trans {t u v : PS} {a b : Nat} (h : PS.Le t u a) (k : PS.Le u v b) : PS.Le t v (a + b) := ⟨Nat.le_trans h.lo k.lo, by have := h.hi; have := k.hi; omega⟩
theorem PS.Le.mono {t u : PS} {a b : Nat} (h : PS.Le t u a) (k : a ≤ b) : PS.Le t u b := ⟨h.lo, Nat.le_trans h.hi (by omega)⟩
theorem PS.Le.put {t u : PS} {a : Nat} (h : PS.Le t u a) (s : List UInt8) : PS.Le t (u.put s) (a + (s.length + 1)) :=
 h.trans ⟨by unfold PS.put; dsimp only; split <;> simp <;> omega, by unfold PS.put; dsimp only; split <;> simp <;> omega⟩
theorem PS.Le.must {t u : PS} {a : Nat} (h : PS.Le t u a) (b : Bool) : PS.Le t (u.must b) a := ⟨h.lo, h.hi⟩
theorem PS.Le.worse {t u : PS} {a : Nat} (h : PS.Le t u a) : PS.Le t u.worse a := ⟨h.lo, h.hi⟩
theorem PS.Le.deed {t u : PS} {a : Nat} (h : PS.Le t u a) : PS.Le t u.deed a := ⟨h.lo, h.hi⟩
theorem PS.Le.start {t u : PS} {a : Nat} (h : PS.Le t u a) (n : ByteArray) : PS.Le t (u.start n) a := ⟨h.lo, h.hi⟩
theorem PS.Le.nl {t u : PS} {a : Nat} (h : PS.Le t u a) : PS.Le t u.nl (a + 1) := h.trans ⟨by simp [PS.nl], by simp [PS.nl]⟩
theorem PS.Le.fin {t u : PS} {a : Nat} (h : PS.Le t u a) : PS.Le t u.fin (a + 1) := h.trans ⟨by simp [PS.fin], by simp [PS.fin]⟩
theorem PS.Le.open_ {t u : PS} {a : Nat} (h : PS.Le t u a) : PS.Le t u.open_ (a + 2) := by
 have := h.put [40]
 exact ⟨this.lo, this.hi⟩
theorem PS.Le.plain {t u : PS} {a : Nat} (h : PS.Le t u a) (s : ByteArray) : PS.Le t (u.plain s) (a + (s.size + 1)) := by
 have := (h.must (nameP s)).put s.data.toList
 rw [← size_list] at this
 exact this
theorem PS.Le.round {t u : PS} {a F : Nat} (h : PS.Le t u a) {f : PS → PS} (hf : ∀ v, PS.Le v (f v) F) : PS.Le t (PS.round f u) (a + F + 3) := ((h.open_.trans (hf _)).fin).mono (by omega)
theorem PS.Le.pairsF {t u : PS} {a P : Nat} (h : PS.Le t u a) (x : Ex) {pairs : PS → PS} (hp : ∀ v, PS.Le v (pairs v) P) : PS.Le t (PS.pairsF x pairs u) (a + P) := by
 unfold PS.pairsF
 split
 ·exact h.trans (hp _)
 ·exact h.worse.mono (by omega)
theorem PS.Le.keyF {t u : PS} {a k : Nat} (h : PS.Le t u a) (x : Ex) {key : PS → PS} (hk : ∀ v, PS.Le v (key v) k) : PS.Le t (PS.keyF x key u) (a + 2 + k) := by
 unfold PS.keyF
 split
 ·exact (h.put [45]).trans (hk _)
 ·exact (h.trans (hk _)).mono (by omega)
theorem PS.Le.nameF {t u : PS} {a : Nat} (h : PS.Le t u a) (x : Ex) : PS.Le t (PS.nameF x u) (a + (x.s.size + 1)) := by
 unfold PS.nameF
 split
 ·exact (h.must _).mono (by omega)
 ·exact h.plain x.s
theorem PS.Le.elemP {t u : PS} {a p v : Nat} (h : PS.Le t u a) (x : Ex) {vals pairs : PS → PS} (hv : ∀ u, PS.Le u (vals u) v) (hp : ∀ u, PS.Le u (pairs u) p) (hvp : v ≤ p) : PS.Le t (PS.elemP x pairs vals u) (a + p + 3) := by
 unfold PS.elemP PS.named
 repeat' split
 ·exact (h.round (fun w => (PS.Le.refl w).pairsF x hp)).mono (by omega)
 all_goals exact ((h.must _).trans (hv _)).mono (by omega)
theorem PS.elem_le (x : Ex) {args vals key pairs : PS → PS} {A V K P : Nat} (hA : ∀ u, PS.Le u (args u) A) (hV : ∀ u, PS.Le u (vals u) V) (hK : ∀ u, PS.Le u (key u) K) (hP : ∀ u, PS.Le u (pairs u) P) (hVP : V ≤ P) (t : PS) : PS.Le t (PS.elem x args vals key pairs t) (A + K + P + x.s.size + 14) := by
 have hw := wordE_len x.elem
 unfold PS.elem
 split
 ·exact (PS.Le.refl t).worse.mono (by omega)
 ·exact ((((((PS.Le.refl t).put (wordE x.elem)).keyF x hK).nameF x).elemP x hV hP hVP).trans (hA _)).mono (by omega)
theorem word3_len (k : Int) : (PS.word3 k).length ≤ 5 := by
 unfold PS.word3
 repeat' split
 all_goals decide
theorem PS.form_le (x : Ex) {args vals key acts pairs : PS → PS} {A V K C P : Nat} (hA : ∀ u, PS.Le u (args u) A) (hV : ∀ u, PS.Le u (vals u) V) (hK : ∀ u, PS.Le u (key u) K) (hC : ∀ u, PS.Le u (acts u) C) (hP : ∀ u, PS.Le u (pairs u) P) (hVP : V ≤ P) (t : PS) :
  PS.Le t (PS.form x args vals key acts pairs t) (A + K + C + P + x.s.size + 14) := by
 have r := PS.Le.refl t
 unfold PS.form
 split
 ·exact (PS.elem_le x hA hV hK hP hVP t).mono (by omega)
 split
 ·exact (((((r.must _).deed).put [100, 111]).trans (hC _)).must _).mono (by simp <;> omega)
 split
 ·exact (((r.put [114, 101, 99]).pairsF x hP).must _).mono (by simp <;> omega)
 split
 ·exact (((((r.put [101, 97, 99, 104]).plain x.s).must _).trans (hA _)).must _).mono (by simp <;> omega)
 split
 ·split
  ·exact (r.worse.must _).mono (by omega)
  ·exact (((r.plain x.s).trans (hA _)).must _).mono (by omega)
 split
 ·have := word3_len x.kind
  exact ((((r.put (PS.word3 x.kind)).must _).trans (hA _)).must _).mono (by omega)
 ·exact (r.worse.must _).mono (by omega)
theorem PS.expr_le (x : Ex) (hn : (Lit.int .i64 x.n).wf = true) {args vals key acts pairs : PS → PS} {A V K C P : Nat} (hA : ∀ u, PS.Le u (args u) A) (hV : ∀ u, PS.Le u (vals u) V) (hK : ∀ u, PS.Le u (key u) K) (hC : ∀ u, PS.Le u (acts u) C) (hP : ∀ u, PS.Le u (pairs u) P) (hVP : V ≤ P) (t : PS) :
  PS.Le t (PS.expr x args vals key acts pairs t) (A + K + C + P + 2 * x.s.size + 22) := by
 have r := PS.Le.refl t
 have h1 := itoa_len x.n hn
 have h2 := escL_len2 x.s
 unfold PS.expr
 split
 ·exact ((r.put [110, 111, 110, 101]).must _).mono (by simp <;> omega)
 split
 ·exact ((r.put (Lib.itoa x.n)).must _).mono (by omega)
 split
 ·exact (((r.must _).put _).must _).mono (by split <;> simp [yesL, noL])
 split
 ·exact (((r.must _).put _).must _).mono (by split <;> simp <;> omega)
 split
 ·exact ((r.plain x.s).must _).mono (by omega)
 ·exact (r.round (PS.form_le x hA hV hK hC hP hVP)).mono (by omega)
theorem PS.act_le (a : Ac) {ex : PS → PS} {E : Nat} (hE : ∀ u, PS.Le u (ex u) E) (t : PS) : PS.Le t (PS.act a ex t) (E + a.name.size + 9) := by
 unfold PS.act
 refine ((PS.Le.refl t).round (F := E + a.name.size + 6) (fun t => ?_)).mono (by omega)
 have r := PS.Le.refl t
 split
 ·exact (((r.put [115, 101, 116]).plain a.name).trans (hE _)).mono (by simp <;> omega)
 split
 ·exact (((r.put [108, 111, 103]).trans (hE _)).must _).mono (by simp <;> omega)
 split
 ·exact (((r.put [102, 97, 105, 108]).trans (hE _)).must _).mono (by simp <;> omega)
 ·exact (((r.put [115, 116, 111, 112]).must _).must _).mono (by simp <;> omega)
theorem PS.stmt_le (x : St) {ex deps dos undo body : PS → PS} {E D O U Y : Nat} (hE : ∀ u, PS.Le u (ex u) E) (hD : ∀ u, PS.Le u (deps u) D) (hO : ∀ u, PS.Le u (dos u) O) (hU : ∀ u, PS.Le u (undo u) U) (hY : ∀ u, PS.Le u (body u) Y) (t : PS) :
  PS.Le t (PS.stmt x ex deps dos undo body t) (E + D + O + U + Y + x.name.size + x.ctx.size + 19) := by
 unfold PS.stmt
 refine ((PS.Le.refl t).round (F := E + D + O + U + Y + x.name.size + x.ctx.size + 16) (fun t => ?_)).mono (by omega)
 have r := PS.Le.refl t
 split
 ·exact ((((r.put [108, 101, 116]).plain x.name).trans (hE _)).must _).mono (by simp <;> omega)
 split
 ·exact ((((r.put [115, 116, 97, 116, 101]).plain x.name).trans (hE _)).must _).mono (by simp <;> omega)
 split
 ·exact (((((r.put [109, 101, 109, 111]).plain x.name).round hD).trans (hE _)).must _).mono (by simp <;> omega)
 split
 ·exact ((((r.put [117, 115, 101]).plain x.name).plain x.ctx).must _).mono (by simp <;> omega)
 split
 ·exact (((((r.put [108, 97, 121, 111, 117, 116]).round hD).round hO).round hU).must _).mono (by simp <;> omega)
 split
 ·exact (((((r.put [101, 102, 102, 101, 99, 116]).round hD).round hO).round hU).must _).mono (by simp <;> omega)
 split
 ·exact ((((r.put [119, 104, 101, 110]).trans (hE _)).trans (hY _)).must _).mono (by simp <;> omega)
 ·exact (r.worse.must _).mono (by simp <;> omega)
theorem PS.comp_le (c : Co) {body out : PS → PS} {Y O : Nat} (hY : ∀ u, PS.Le u (body u) Y) (hO : ∀ u, PS.Le u (out u) O) (t : PS) : PS.Le t (PS.comp c body out t) (Y + O + c.name.size + c.param.size + 23) := by
 unfold PS.comp
 refine ((((PS.Le.refl t).start c.name).round (F := Y + O + c.name.size + c.param.size + 18) (fun t => ?_)).nl).mono (by omega)
 exact (((((((PS.Le.refl t).put [99, 111, 109, 112]).plain c.name).plain c.param).trans (hY _))).round (F := O + 5) (fun t => ((((PS.Le.refl t).put [115, 104, 111, 119]).trans (hO _)).mono (by simp <;> omega)))).mono (by simp <;> omega)
def ExLenP (x : Ex) : Prop := x.tr.ok = true → ∀ t, PS.Le t (pEx x t) (28 * x.tr.wt)
def AcLenP (x : Ac) : Prop := x.tr.ok = true → ∀ t, PS.Le t (pAc x t) (28 * x.tr.wt)
theorem pExs_le (L : List Ex) (hS : ∀ v ∈ L, ExLenP v) (hok : oks (L.map Ex.tr) = true) : ∀ t, PS.Le t (pExs L t) (28 * wts (L.map Ex.tr)) := by
 induction L with
 | nil => intro t; rw [pExs]; exact (PS.Le.refl t).mono (by omega)
 | cons v r ih =>
  intro t
  rw [List.map_cons, oks, Bool.and_eq_true] at hok
  rw [pExs, List.map_cons, wts]
  exact ((hS v (by simp) hok.1 t).trans (ih (fun x hx => hS x (by simp [hx])) hok.2 _)).mono (by omega)
theorem pAcs_le (L : List Ac) (hS : ∀ v ∈ L, AcLenP v) (hok : oks (L.map Ac.tr) = true) : ∀ t, PS.Le t (pAcs L t) (28 * wts (L.map Ac.tr)) := by
 induction L with
 | nil => intro t; rw [pAcs]; exact (PS.Le.refl t).mono (by omega)
 | cons v r ih =>
  intro t
  rw [List.map_cons, oks, Bool.and_eq_true] at hok
  rw [pAcs, List.map_cons, wts]
  exact ((hS v (by simp) hok.1 t).trans (ih (fun x hx => hS x (by simp [hx])) hok.2 _)).mono (by omega)
theorem pPairs_le (L : List Ex) (hS : ∀ v ∈ L, ExLenP v) (hok : oks (L.map Ex.tr) = true) : ∀ (N : List ByteArray) (t : PS), PS.Le t (pPairs L N t) (28 * wts (L.map Ex.tr) + 28 * (N.length + wts (N.map T.txt))) := by
 induction L with
 | nil => intro N t; rw [pPairs]; exact (PS.Le.refl t).mono (by omega)
 | cons v r ih =>
  intro N t
  rw [List.map_cons, oks, Bool.and_eq_true] at hok
  cases N with
  | nil => rw [pPairs]; exact (PS.Le.refl t).mono (by omega)
  | cons s N =>
   rw [pPairs, List.map_cons, wts, List.map_cons, wts, T.wt, List.length_cons]
   exact (((PS.Le.refl t).round (f := fun t => pEx v (t.plain s)) (fun u => ((PS.Le.refl u).plain s).trans (hS v (by simp) hok.1 _))).trans (ih (fun x hx => hS x (by simp [hx])) hok.2 N _)).mono (by omega)
theorem pEx_le (x : Ex) : ExLenP x := by
 refine Ex.both (Q := AcLenP) (fun v h1 h2 h3 h4 hok t => ?_) (fun v h hok t => ?_) x
 ·rw [pEx_eq, wt_Ex]
  rw [Ex.tr_eq, T.ok] at hok
  simp only [oks, T.ok, Bool.and_eq_true, Bool.and_true] at hok
  obtain ⟨_, o1, _, o3, _, o5, _, o7, o8⟩ := hok
  exact (PS.expr_le v o1 (pExs_le _ h1 o3) (pExs_le _ h2 o5) (pExs_le _ h3 o7) (pAcs_le _ h4 o8) (pPairs_le _ h2 o5 _) (by omega) t).mono (by omega)
 ·rw [pAc_eq, wt_Ac]
  rw [Ac.tr_eq, T.ok] at hok
  simp only [oks, T.ok, Bool.and_eq_true, Bool.and_true] at hok
  exact (PS.act_le v (h hok.2.2) t).mono (by omega)
theorem pAc_le (x : Ac) : AcLenP x := fun hok t => by
 rw [pAc_eq, wt_Ac]
 rw [Ac.tr_eq, T.ok] at hok
 simp only [oks, T.ok, Bool.and_eq_true, Bool.and_true] at hok
 exact (PS.act_le x (pEx_le _ hok.2.2) t).mono (by omega)
def StLenP (x : St) : Prop := x.tr.ok = true → ∀ t, PS.Le t (pSt x t) (28 * x.tr.wt)
theorem pSts_le (L : List St) (hS : ∀ v ∈ L, StLenP v) (hok : oks (L.map St.tr) = true) : ∀ t, PS.Le t (pSts L t) (28 * wts (L.map St.tr)) := by
 induction L with
 | nil => intro t; rw [pSts]; exact (PS.Le.refl t).mono (by omega)
 | cons v r ih =>
  intro t
  rw [List.map_cons, oks, Bool.and_eq_true] at hok
  rw [pSts, List.map_cons, wts]
  exact ((hS v (by simp) hok.1 t).trans (ih (fun x hx => hS x (by simp [hx])) hok.2 _)).mono (by omega)
theorem pSt_le (x : St) : StLenP x := by
 refine St.ind (P := StLenP) (fun v h hok t => ?_) x
 rw [pSt_eq, wt_St]
 rw [St.tr_eq, T.ok] at hok
 simp only [oks, T.ok, Bool.and_eq_true, Bool.and_true] at hok
 obtain ⟨_, _, _, o3, o4, o5, o6, o7⟩ := hok
 exact (PS.stmt_le v (pEx_le _ o3) (pExs_le _ (fun x _ => pEx_le x) o4) (pAcs_le _ (fun x _ => pAc_le x) o5) (pAcs_le _ (fun x _ => pAc_le x) o6) (pSts_le _ h o7) t).mono (by omega)
theorem pCo_le (v : Co) (hok : v.tr.ok = true) (t : PS) : PS.Le t (pCo v t) (28 * v.tr.wt) := by
 rw [wt_Co]
 rw [Co.tr_eq, T.ok] at hok
 simp only [oks, T.ok, Bool.and_eq_true, Bool.and_true] at hok
 obtain ⟨_, _, o2, o3⟩ := hok
 exact (PS.comp_le v (pSts_le _ (fun x _ => pSt_le x) o2) (pEx_le _ o3) t).mono (by omega)
theorem pCos_le (L : List Co) (hok : oks (L.map Co.tr) = true) : ∀ t, PS.Le t (pCos L t) (28 * wts (L.map Co.tr)) := by
 induction L with
 | nil => intro t; rw [pCos]; exact (PS.Le.refl t).mono (by omega)
 | cons v r ih =>
  intro t
  rw [List.map_cons, oks, Bool.and_eq_true] at hok
  rw [pCos, List.map_cons, wts]
  exact ((pCo_le v hok.1 t).trans (ih hok.2 _)).mono (by omega)
end Go.Proofs.YtlppklbmdedipaaGreatDoor

namespace Go.Proofs.YtlppklbmdedipaaGreatDoor
open Go Go.RowKit
set_option maxHeartbeats 8000000
set_option maxRecDepth 100000
def isB (k n : Int) (s : ByteArray) (n3 n4 n5 : Nat) (el : Int) (n7 n8 : Nat) (st : ByteArray) (k' n' : Int) (s' : ByteArray) : Bool :=
 decide (k = k') && decide (n = n') && decide (s = s') && decide (el = 0) && decide (st.size = 0) && decide (n3 = 0) && decide (n4 = 0) && decide (n5 = 0) && decide (n7 = 0) && decide (n8 = 0)
theorem str_eq (s u : ByteArray) : (s.toList = u.toList) = (s = u) := by
 have := str_beq s u
 rw [Bool.eq_iff_iff, beq_iff_eq, decide_eq_true_eq] at this
 exact propext this
theorem is_any (k n : Int) (s : ByteArray) (a3 a4 a5 a7 a8 : Option Addr) (n3 c3 n4 c4 n5 c5 : Nat) (el : Int) (n7 c7 n8 c8 : Nat) (st : ByteArray) (k' n' : Int) (s' : ByteArray) (w : World) :
  Calls Tryz.prog 57 #[.agg #[.int .u8 k, .int .i64 n, .string s, .slice a3 n3 c3, .slice a4 n4 c4, .slice a5 n5 c5, .int .u8 el, .slice a7 n7 c7, .slice a8 n8 c8, .string st], .agg (A10_ k' n' s')] w fun e w' => e = .returned (.bool (isB k n s n3 n4 n5 el n7 n8 st k' n' s')) ∧ Below w.heap.size w w' := by
 unfold A10_
 obtain ⟨S, hS⟩ : ∃ S, S = w.alloc (.cells #[.int .u8 k, .int .i64 n, .string s, .slice a3 n3 c3, .slice a4 n4 c4, .slice a5 n5 c5, .int .u8 el, .slice a7 n7 c7, .slice a8 n8 c8, .string st] 50) := ⟨_, rfl⟩
 have hb1 : Below w.heap.size w S := by rw [hS]; exact (Below.refl _ _).alloc (Nat.le_refl _) _
 have hr1 : S.heap[w.heap.size]? = some (.cells #[.int .u8 k, .int .i64 n, .string s, .slice a3 n3 c3, .slice a4 n4 c4, .slice a5 n5 c5, .int .u8 el, .slice a7 n7 c7, .slice a8 n8 c8, .string st] 50 (0, 0)) := by rw [hS]; exact heap_alloc_new w _
 have hz1 : S.heap.size = w.heap.size + 1 := by rw [hS]; simp
 obtain ⟨S2, hS2⟩ : ∃ S2, S2 = S.alloc ((O9_ k' n' s')) := ⟨_, rfl⟩
 have hb2 : Below w.heap.size w S2 := by rw [hS2]; exact hb1.alloc (by omega) _
 have hr2 : S2.heap[w.heap.size + 1]? = some ((O9_ k' n' s')) := by rw [hS2, ← hz1]; exact heap_alloc_new S _
 have hr1' : S2.heap[w.heap.size]? = some (.cells #[.int .u8 k, .int .i64 n, .string s, .slice a3 n3 c3, .slice a4 n4 c4, .slice a5 n5 c5, .int .u8 el, .slice a7 n7 c7, .slice a8 n8 c8, .string st] 50 (0, 0)) := by rw [hS2]; exact (Below.heap_alloc S _ _ (by omega)).trans hr1
 obtain ⟨x0, x1, x2, x3, x4, x5, x6, x7, x8, x9⟩ := c10_ hr1'
 obtain ⟨y0, y1, y2, -, -, -, y6, -, -, y9⟩ := c10_ hr2
 have hV : Hid (isB k n s n3 n4 n5 el n7 n8 st k' n' s' = (decide (k = k') && decide (n = n') && decide (s = s') && decide (el = 0) && decide (st.size = 0) && decide (n3 = 0) && decide (n4 = 0) && decide (n5 = 0) && decide (n7 = 0) && decide (n8 = 0))) := rfl
 generalize isB k n s n3 n4 n5 el n7 n8 st k' n' s' = V at *
 have hW1 : Hid (S = _) := hS
 have hW2 : Hid (S2 = _) := hS2
 have hz1' := hi_ hz1
 replace hb2 := hi_ hb2
 clear hS hS2 hr1 hr2 hr1' hb1 hz1
 go_enter Tryz.func57, Tryz.ntmps57
 go_wp2_with (first | (rw [← hW1.out]) | (rw [← hW2.out]) | (rw [hz1'.out]))
 all_goals go_ret
 all_goals refine ⟨rbool ?_, hb2.out⟩
 all_goals
  rw [hV.out]
  try simp only [size_nil, str_eq] at *
  rw [Bool.eq_iff_iff]
  simp_all
theorem bare_is (v : Ex) (q : QEx) (h : ExLens v q) (n s args pairs deed : Bool) (s' : ByteArray) (n' : Int) (e1 : n' = if n = true then v.n else 0) (e2 : s' = if s = true then v.s else ⟨#[]⟩) :
  (isB v.kind v.n v.s (if args = true then 0 else q.argsn) (if pairs = true then 0 else q.namesn) (if pairs = true then 0 else q.valsn) v.elem q.keyn (if deed = true then 0 else q.actsn) (if deed = true then ⟨#[]⟩ else v.site) v.kind n' s') = bareB v n s args pairs deed := by
 have he : ∀ s : ByteArray, (s = ⟨#[]⟩) = (s.size = 0) := fun s => by
  rw [← str_eq, show (⟨#[]⟩ : ByteArray).toList = [] from by rw [ByteArray.toList_eq], size_nil]
 subst e1 e2
 unfold isB bareB
 rw [h.args, h.names, h.vals, h.key, h.acts, Bool.eq_iff_iff]
 have hem : (⟨#[]⟩ : ByteArray).size = 0 := rfl
 cases n <;> cases s <;> cases args <;> cases pairs <;> cases deed <;> simp only [Bool.false_eq_true, if_false, if_true, Bool.and_eq_true, Bool.or_eq_true, decide_eq_true_eq, true_or, false_or, true_and, and_true, he, hem] <;> constructor <;> (intro h; simp_all only [and_self])

mutual
inductive Val where
 | mk (kind n : Int) (s : ByteArray) (L : List Val) (F : List Fld) (elem : Int) (key : ByteArray) (hk : Bool)
inductive Fld where
 | mk (name : ByteArray) (value : Val)
end
inductive Nd where
 | mk (id : Int) (tag text : ByteArray) (attrs : List Fld) (kids : List Nd)
def Fld.name : Fld → ByteArray | .mk n _ => n
def Fld.value : Fld → Val | .mk _ v => v
def Val.kind : Val → Int | .mk k _ _ _ _ _ _ _ => k
def Val.n : Val → Int | .mk _ n _ _ _ _ _ _ => n
def Val.s : Val → ByteArray | .mk _ _ s _ _ _ _ _ => s
def Val.L : Val → List Val | .mk _ _ _ L _ _ _ _ => L
def Val.F : Val → List Fld | .mk _ _ _ _ F _ _ _ => F
def Val.elem : Val → Int | .mk _ _ _ _ _ e _ _ => e
def Val.key : Val → ByteArray | .mk _ _ _ _ _ _ k _ => k
def Val.hk : Val → Bool | .mk _ _ _ _ _ _ _ h => h
def Nd.id : Nd → Int | .mk i _ _ _ _ => i
def Nd.tag : Nd → ByteArray | .mk _ t _ _ _ => t
def Nd.text : Nd → ByteArray | .mk _ _ t _ _ => t
def Nd.attrs : Nd → List Fld | .mk _ _ _ a _ => a
def Nd.kids : Nd → List Nd | .mk _ _ _ _ k => k

mutual
def Val.tr : Val → T
 | .mk k n s L F e key hk => .obj [.int .u8 k, .int .i64 n, .txt s, .lst 110 8 (trL L), .lst 180 9 (trF F), .int .u8 e, .txt key, .yes hk]
def Fld.tr : Fld → T
 | .mk n v => .obj [.txt n, v.tr]
def trL : List Val → List T
 | [] => []
 | v :: r => v.tr :: trL r
def trF : List Fld → List T
 | [] => []
 | f :: r => f.tr :: trF r
end
theorem trL_map : ∀ L, trL L = L.map Val.tr
 | [] => rfl
 | v :: r => by rw [trL, trL_map r, List.map_cons]
theorem trF_map : ∀ L, trF L = L.map Fld.tr
 | [] => rfl
 | v :: r => by rw [trF, trF_map r, List.map_cons]
mutual
def Nd.tr : Nd → T
 | .mk i t x a K => .obj [.int .i64 i, .txt t, .txt x, .lst 180 9 (a.map Fld.tr), .lst 0 5 (trN K)]
def trN : List Nd → List T
 | [] => []
 | v :: r => v.tr :: trN r
end
theorem Val.tr_eq (v : Val) : v.tr = .obj [.int .u8 v.kind, .int .i64 v.n, .txt v.s, .lst 110 8 (v.L.map Val.tr), .lst 180 9 (v.F.map Fld.tr), .int .u8 v.elem, .txt v.key, .yes v.hk] := by
 cases v; rw [Val.tr, trL_map, trF_map]; rfl
theorem Fld.tr_eq (f : Fld) : f.tr = .obj [.txt f.name, f.value.tr] := by cases f; rw [Fld.tr]; rfl
structure VP where
 la : Option Addr
 ln : Nat
 lc : Nat
 fa : Option Addr
 fn : Nat
 fc : Nat
def VP.cells (q : VP) (v : Val) : List Value := [.int .u8 v.kind, .int .i64 v.n, .string v.s, .slice q.la q.ln q.lc, .slice q.fa q.fn q.fc, .int .u8 v.elem, .string v.key, .bool v.hk]
def VP.fcells (q : VP) (f : Fld) : List Value := .string f.name :: q.cells f.value
structure NP where
 aa : Option Addr
 an : Nat
 ac : Nat
 ka : Option Addr
 kn : Nat
 kc : Nat
def NP.cells (q : NP) (v : Nd) : List Value := [.int .i64 v.id, .string v.tag, .string v.text, .slice q.aa q.an q.ac, .slice q.ka q.kn q.kc]
abbrev VLs (w : World) (B : Nat) (L : List Val) (a : Option Addr) (n : Nat) : Prop := LAt w B 8 (L.map Val.tr) a n
abbrev FLs (w : World) (B : Nat) (L : List Fld) (a : Option Addr) (n : Nat) : Prop := LAt w B 9 (L.map Fld.tr) a n
abbrev NLs (w : World) (B : Nat) (L : List Nd) (a : Option Addr) (n : Nat) : Prop := LAt w B 5 (L.map Nd.tr) a n
structure VAt (w : World) (B : Nat) (v : Val) (q : VP) : Prop where
 k1 : (Lit.int .u8 v.kind).wf = true
 k2 : (Lit.int .i64 v.n).wf = true
 k3 : v.s.size ≤ 140737488355328
 k4 : (Lit.int .u8 v.elem).wf = true
 k5 : v.key.size ≤ 140737488355328
 L : VLs w B v.L q.la q.ln
 F : FLs w B v.F q.fa q.fn
structure NAt (w : World) (B : Nat) (v : Nd) (q : NP) : Prop where
 k1 : (Lit.int .i64 v.id).wf = true
 k2 : v.tag.size ≤ 140737488355328
 k3 : v.text.size ≤ 140737488355328
 A : FLs w B v.attrs q.aa q.an
 K : NLs w B v.kids q.ka q.kn
structure FAt (w : World) (B : Nat) (f : Fld) (q : VP) : Prop where
 k0 : f.name.size ≤ 140737488355328
 val : VAt w B f.value q
theorem At.val {w : World} {B : Nat} {v : Val} {cs : List Value} (h : At w B v.tr cs) : ∃ q : VP, cs = q.cells v ∧ VAt w B v q := by
 rw [Val.tr_eq] at h
 obtain ⟨_, _, rfl, h0, h⟩ := h.cons_inv
 obtain ⟨_, _, rfl, h1, h⟩ := h.cons_inv
 obtain ⟨_, _, rfl, h2, h⟩ := h.cons_inv
 obtain ⟨_, _, rfl, h3, h⟩ := h.cons_inv
 obtain ⟨_, _, rfl, h4, h⟩ := h.cons_inv
 obtain ⟨_, _, rfl, h5, h⟩ := h.cons_inv
 obtain ⟨_, _, rfl, h6, h⟩ := h.cons_inv
 obtain ⟨_, _, rfl, h7, h⟩ := h.cons_inv
 obtain rfl := h.nil_inv
 obtain ⟨rfl, g0⟩ := h0.int_inv
 obtain ⟨rfl, g1⟩ := h1.int_inv
 obtain ⟨rfl, g2⟩ := h2.txt_inv
 obtain ⟨la, lc, rfl, g3⟩ := h3.lst_inv
 obtain ⟨fa, fc, rfl, g4⟩ := h4.lst_inv
 obtain ⟨rfl, g5⟩ := h5.int_inv
 obtain ⟨rfl, g6⟩ := h6.txt_inv
 obtain rfl := h7.yes_inv
 exact ⟨⟨la, _, lc, fa, _, fc⟩, rfl, g0, g1, g2, g5, g6, g3, g4⟩
theorem At.fld {w : World} {B : Nat} {f : Fld} {cs : List Value} (h : At w B f.tr cs) : ∃ q : VP, cs = q.fcells f ∧ f.name.size ≤ 140737488355328 ∧ VAt w B f.value q := by
 rw [Fld.tr_eq] at h
 obtain ⟨_, _, rfl, h0, h⟩ := h.cons_inv
 obtain ⟨_, _, rfl, h1, h⟩ := h.cons_inv
 obtain rfl := h.nil_inv
 obtain ⟨rfl, g0⟩ := h0.txt_inv
 obtain ⟨q, rfl, g1⟩ := h1.val
 exact ⟨q, by simp [VP.fcells], g0, g1⟩
theorem FLs.elem {w : World} {B n : Nat} {L : List Fld} {a : Option Addr} (h : FLs w B L a n) (i : Nat) (hi : i < n) : ∃ (b o : Nat) (f : Fld) (q : VP), a = some ⟨b, o, none⟩ ∧ b < B ∧ L[i]? = some f ∧ (∀ j, j < 9 → w.cell? ⟨b, o + (i * 9 + j), none⟩ = (q.fcells f)[j]?) ∧ FAt w B f q := by
 have hn := h.1
 rw [List.length_map] at hn
 obtain ⟨b, o, cc, e1, e2, _, e3, e4⟩ := LAt.elem h i (by rw [List.length_map]; omega)
 rw [List.getElem_map] at e4
 obtain ⟨q, rfl, e5, e6⟩ := e4.fld
 exact ⟨b, o, L[i]'(by omega), q, e1, e2, List.getElem?_eq_getElem (by omega), e3, ⟨e5, e6⟩⟩
end Go.Proofs.YtlppklbmdedipaaGreatDoor
