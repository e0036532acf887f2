/- PrintTexts, part 5. -/
import Derived.Test.YtlppklbmdedipaaGreatDoorW02
import Derived.Test.YtlppklbmdedipaaGreatDoorW04
import Derived.Test.YtlppklbmdedipaaGreatDoorW03
import Derived.Maps.AppendAt
import Derived.Laws.MakeOwn
namespace Go.Proofs.YtlppklbmdedipaaGreatDoor
open Go
set_option maxHeartbeats 8000000
set_option maxRecDepth 100000
def Sim (t : RS) (p : PS) : Prop := (t.bad = true ∧ p.bad = true) ∨ (t.bad = false ∧ p.bad = false ∧ t.l = p.l ∧ t.name = p.name ∧ t.deeds = p.deeds ∧ spB t.l = p.be)
theorem Sim.put {t : RS} {p : PS} (h : Sim t p) (s : List UInt8) (hs : spB s = true) : Sim (t.put s) (p.put s) := by
 rcases h with ⟨h1, h2⟩ | ⟨h1, h2, h3, h4, h5, h6⟩
 ·exact .inl ⟨h1, h2⟩
 ·refine .inr ⟨h1, h2, ?_, h4, h5, ?_⟩
  ·show (if spB t.l = true then t.l ++ [32] else t.l) ++ s = (if p.be = true then p.l ++ [32] else p.l) ++ s
   rw [h6, h3]
  ·show spB ((if spB t.l = true then t.l ++ [32] else t.l) ++ s) = true
   have hne : s ≠ [] := by rintro rfl; simp [spB] at hs
   have : ∀ a : List UInt8, spB (a ++ s) = spB s := fun a => by
    unfold spB; rw [List.getLast?_append]
    cases e : s.getLast? with
    | none => exact absurd (List.getLast?_eq_none_iff.1 e) hne
    | some c => rfl
   rw [this, hs]
theorem Sim.must {t : RS} {p : PS} (h : Sim t p) (b : Bool) : Sim (t.must b) (p.must b) := by
 rcases h with ⟨h1, h2⟩ | ⟨h1, h2, h3, h4, h5, h6⟩
 ·exact .inl ⟨by simp [RS.must, h1], by simp [PS.must, h2]⟩
 ·cases b
  ·exact .inl ⟨by simp [RS.must], by simp [PS.must]⟩
  ·exact .inr ⟨by simp [RS.must, h1], by simp [PS.must, h2], h3, h4, h5, h6⟩
theorem RS.must_true (t : RS) : t.must true = t := by simp [RS.must]
theorem PS.must_true (t : PS) : t.must true = t := by simp [PS.must]
@[simp] theorem RS.bad_put (t : RS) (s : List UInt8) : (t.put s).bad = t.bad := rfl
@[simp] theorem RS.bad_fin (t : RS) : t.fin.bad = t.bad := rfl
@[simp] theorem RS.bad_deed (t : RS) : t.deed.bad = t.bad := rfl
@[simp] theorem RS.bad_must (t : RS) (b : Bool) : (t.must b).bad = (t.bad || !b) := rfl
@[simp] theorem RS.bad_plain (t : RS) (s : ByteArray) : (t.plain s).bad = (t.bad || !nameP s) := rfl
@[simp] theorem PS.bad_put (t : PS) (s : List UInt8) : (t.put s).bad = t.bad := rfl
@[simp] theorem PS.bad_fin (t : PS) : t.fin.bad = t.bad := rfl
@[simp] theorem PS.bad_deed (t : PS) : t.deed.bad = t.bad := rfl
@[simp] theorem PS.bad_open (t : PS) : t.open_.bad = t.bad := rfl
@[simp] theorem PS.bad_worse (t : PS) : t.worse.bad = true := rfl
@[simp] theorem PS.bad_must (t : PS) (b : Bool) : (t.must b).bad = (t.bad || !b) := rfl
@[simp] theorem PS.bad_plain (t : PS) (s : ByteArray) : (t.plain s).bad = (t.bad || !nameP s) := rfl
theorem part_end {c : UInt8} (h : Lx.part c = true) : (c != 40 && c != 10) = true := by
 have h1 : c ≠ 40 := by rintro rfl; revert h; decide
 have h2 : c ≠ 10 := by rintro rfl; revert h; decide
 simp [h1, h2]
theorem name_end {s : ByteArray} (h : nameP s = true) : spB s.data.toList = true := by
 unfold nameP nameL at h
 simp only [Bool.and_eq_true, decide_eq_true_eq] at h
 obtain ⟨⟨⟨⟨h0, _⟩, _⟩, ha⟩, _⟩ := h
 unfold spB
 cases e : s.data.toList.getLast? with
 | none => rw [List.getLast?_eq_none_iff.1 e] at h0; exact absurd h0 (by decide)
 | some c => exact part_end (List.all_eq_true.1 ha c (List.mem_of_getLast? e))
theorem Sim.plain {t : RS} {p : PS} (h : Sim t p) (s : ByteArray) : Sim (t.plain s) (p.plain s) := by
 unfold RS.plain PS.plain
 cases e : nameP s with
 | true => exact (h.must true).put _ (name_end e)
 | false => exact .inl ⟨by simp, by simp⟩
theorem spB_end (a : List UInt8) (c : UInt8) : spB (a ++ [c]) = (c != 40 && c != 10) := by unfold spB; simp
theorem Sim.open_ {t : RS} {p : PS} (h : Sim t p) : Sim (t.put [40]) p.open_ := by
 rcases h with ⟨h1, h2⟩ | ⟨h1, h2, h3, h4, h5, h6⟩
 ·exact .inl ⟨h1, h2⟩
 ·refine .inr ⟨h1, h2, ?_, h4, h5, ?_⟩
  ·show (if spB t.l = true then t.l ++ [32] else t.l) ++ [40] = (if p.be = true then p.l ++ [32] else p.l) ++ [40]
   rw [h6, h3]
  ·show spB ((if spB t.l = true then t.l ++ [32] else t.l) ++ [40]) = false
   rw [spB_end]; rfl
theorem Sim.fin {t : RS} {p : PS} (h : Sim t p) : Sim t.fin p.fin := by
 rcases h with ⟨h1, h2⟩ | ⟨h1, h2, h3, h4, h5, h6⟩
 ·exact .inl ⟨h1, h2⟩
 ·exact .inr ⟨h1, h2, by show t.l ++ [41] = p.l ++ [41]; rw [h3], h4, h5, by show spB (t.l ++ [41]) = true; rw [spB_end]; rfl⟩
theorem Sim.deed {t : RS} {p : PS} (h : Sim t p) : Sim t.deed p.deed := by
 rcases h with ⟨h1, h2⟩ | ⟨h1, h2, h3, h4, h5, h6⟩
 ·exact .inl ⟨h1, h2⟩
 ·exact .inr ⟨h1, h2, h3, h4, by show IntKind.i64.wrap (t.deeds + 1) = IntKind.i64.wrap (p.deeds + 1); rw [h5], h6⟩
structure Two (f : RS → RS) (g : PS → PS) : Prop where
 sim : ∀ t p, Sim t p → Sim (f t) (g p)
 mr : ∀ t : RS, t.bad = true → (f t).bad = true
 mp : ∀ t : PS, t.bad = true → (g t).bad = true
theorem Two.comp {f f' : RS → RS} {g g' : PS → PS} (h : Two f g) (k : Two f' g') : Two (fun t => f' (f t)) (fun t => g' (g t)) :=
 ⟨fun t p e => k.sim _ _ (h.sim t p e), fun t e => k.mr _ (h.mr t e), fun t e => k.mp _ (h.mp t e)⟩
theorem Two.put (s : List UInt8) (hs : spB s = true) : Two (fun t => t.put s) (fun t => t.put s) := ⟨fun _ _ h => h.put s hs, fun _ h => h, fun _ h => h⟩
theorem Two.must (b : Bool) : Two (fun t => t.must b) (fun t => t.must b) := ⟨fun _ _ h => h.must b, fun _ h => by simp [h], fun _ h => by simp [h]⟩
theorem Two.plain (s : ByteArray) : Two (fun t => t.plain s) (fun t => t.plain s) := ⟨fun _ _ h => h.plain s, fun _ h => by simp [h], fun _ h => by simp [h]⟩
theorem Two.worst {f : RS → RS} {g : PS → PS} (h : ∀ t, (f t).bad = true) (k : ∀ t, (g t).bad = true) : Two f g := ⟨fun t p _ => .inl ⟨h t, k p⟩, fun t _ => h t, fun t _ => k t⟩
theorem Two.round {f : RS → RS} {g : PS → PS} (h : Two f g) : Two (fun t => (f (t.put [40])).fin) (PS.round g) :=
 ⟨fun _t _p e => (h.sim _ _ e.open_).fin, fun t e => h.mr (t.put [40]) e, fun t e => h.mp t.open_ e⟩
theorem Two.keyF (x : Ex) {key : RS → RS} {key' : PS → PS} (h : Two key key') : Two (RS.keyF x key) (PS.keyF x key') := by
 unfold RS.keyF PS.keyF
 by_cases e : x.key.length = 0
 ·simp only [e, if_true]; exact (Two.put [45] rfl).comp h
 ·simp only [e, if_false]; exact h
theorem Two.pairsF (x : Ex) {pairs : RS → RS} {pairs' : PS → PS} (h : Two pairs pairs') : Two (RS.pairsF x pairs) (PS.pairsF x pairs') := by
 unfold RS.pairsF PS.pairsF
 by_cases e : x.names.length = x.vals.length
 ·simp only [e, if_true, decide_true, RS.must_true]; exact h
 ·simp only [e, if_false, decide_false]; exact .worst (fun t => h.mr _ (by simp)) (fun t => rfl)
theorem Two.named (x : Ex) (names : List ByteArray) {vals : RS → RS} {vals' : PS → PS} (h : Two vals vals') : Two (RS.named x names vals) (PS.named x names vals') := (Two.must _).comp h
theorem Two.elemB (x : Ex) {vals pairs : RS → RS} {vals' pairs' : PS → PS} (hv : Two vals vals') (hp : Two pairs pairs') (hx : ¬ (x.elem = 0 ∨ 9 ≤ x.elem)) (h0 : 0 ≤ x.elem) :
  Two (RS.elemB x vals (RS.pairsF x pairs)) (fun t => PS.elemP x pairs' vals' (PS.nameF x t)) := by
 have h8 : x.elem = 1 ∨ x.elem = 2 ∨ x.elem = 3 ∨ x.elem = 4 ∨ x.elem = 5 ∨ x.elem = 6 ∨ x.elem = 7 ∨ x.elem = 8 := by omega
 unfold RS.elemB PS.elemP PS.nameF
 rcases h8 with e | e | e | e | e | e | e | e <;> simp only [e] <;> simp
 ·exact (Two.plain x.s).comp (hp.pairsF x).round
 ·exact (Two.plain x.s).comp (hp.pairsF x).round
 ·exact (Two.plain x.s).comp (hp.pairsF x).round
 ·exact (Two.must _).comp (hv.named x _)
 ·exact (Two.plain x.s).comp (hv.named x _)
 ·exact (Two.plain x.s).comp (hv.named x _)
 ·exact (Two.must _).comp (hv.named x _)
 ·exact (Two.must _).comp (hv.named x _)
theorem wordE_end (k : Int) : spB (wordE k) = true := by
 unfold wordE
 repeat' split
 all_goals rfl
theorem elemBad_eq (x : Ex) : PS.elemBad x = (decide (x.elem = 0 ∨ 9 ≤ x.elem) || !RS.elemOk x) := by
 rw [Bool.eq_iff_iff]
 unfold PS.elemBad RS.elemOk
 simp only [Bool.or_eq_true, Bool.not_eq_true', Bool.and_eq_false_iff, decide_eq_true_eq, decide_eq_false_iff_not, ne_eq]
 omega
theorem Two.elem (x : Ex) {args vals key pairs : RS → RS} {args' vals' key' pairs' : PS → PS} (hA : Two args args') (hV : Two vals vals') (hK : Two key key') (hP : Two pairs pairs') (h0 : 0 ≤ x.elem) :
  Two (RS.elem x args vals key (RS.pairsF x pairs)) (PS.elem x args' vals' key' pairs') := by
 unfold RS.elem PS.elem
 by_cases he : x.elem = 0 ∨ 9 ≤ x.elem
 ·simp only [he, if_true, elemBad_eq, decide_true, Bool.true_or]
  exact .worst (fun t => by simp) (fun t => rfl)
 ·simp only [he, if_false, elemBad_eq, decide_false, Bool.false_or]
  cases ho : RS.elemOk x
  ·simp only [Bool.not_false, if_true]
   exact .worst (fun t => hA.mr _ ((Two.elemB x hV hP he h0).mr _ ((Two.keyF x hK).mr _ (by simp)))) (fun t => rfl)
  ·simp only [Bool.not_true, Bool.false_eq_true, if_false, RS.must_true]
   exact (((Two.put (wordE x.elem) (wordE_end _)).comp (Two.keyF x hK)).comp (Two.elemB x hV hP he h0)).comp hA
theorem PS.deed_put (t : PS) (s : List UInt8) : (t.put s).deed = t.deed.put s := rfl
theorem Two.form (x : Ex) {args vals key acts pairs : RS → RS} {args' vals' key' acts' pairs' : PS → PS} (hA : Two args args') (hV : Two vals vals') (hK : Two key key') (hC : Two acts acts') (hP : Two pairs pairs') (h0 : 0 ≤ x.elem) :
  Two (RS.form x args vals key acts pairs) (PS.form x args' vals' key' acts' pairs') := by
 by_cases e5 : x.kind = 5
 ·unfold RS.form PS.form
  simp only [e5]
  simp only [if_true, (by decide : ¬ (5 : Int) = 11), (by decide : ¬ (5 : Int) = 12), (by decide : ¬ (5 : Int) = 10), (by decide : ¬ (5 : Int) = 7), if_false]
  cases keyP x.s
  ·simp only [Bool.not_false, Bool.and_true, Bool.false_eq_true, if_false]
   cases bareB x false true true false false
   ·exact .worst (fun t => hA.mr _ (by simp)) (fun t => by simp)
   ·simp only [RS.must_true, PS.must_true]; exact (Two.plain x.s).comp hA
  ·exact .worst (fun t => hA.mr _ (by simp)) (fun t => by simp)
 by_cases e6 : x.kind = 6
 ·unfold RS.form PS.form
  simp only [e6]
  simp [RS.so, PS.word3]
  cases bareB x false false true false false
  ·exact .worst (fun t => hA.mr _ (by simp)) (fun t => by simp)
  ·simp only [Bool.true_and, PS.must_true]; exact ((Two.put [105, 102] rfl).comp (Two.must _)).comp hA
 by_cases e8 : x.kind = 8
 ·unfold RS.form PS.form
  simp only [e8]
  simp [RS.so, PS.word3]
  cases bareB x false false true false false
  ·exact .worst (fun t => hA.mr _ (by simp)) (fun t => by simp)
  ·simp only [Bool.true_and, PS.must_true]; exact ((Two.put [114, 101, 97, 100] rfl).comp (Two.must _)).comp hA
 by_cases e9 : x.kind = 9
 ·unfold RS.form PS.form
  simp only [e9]
  simp [RS.so, PS.word3]
  cases bareB x false false true false false
  ·exact .worst (fun t => hA.mr _ (by simp)) (fun t => by simp)
  ·simp only [Bool.true_and, PS.must_true]; exact ((Two.put [116, 104, 114, 111, 119] rfl).comp (Two.must _)).comp hA
 by_cases e7 : x.kind = 7
 ·unfold RS.form PS.form
  simp only [e7]
  simp
  cases bareB x false true true false false
  ·exact .worst (fun t => hA.mr _ (by simp)) (fun t => by simp)
  ·simp only [Bool.true_and, PS.must_true]
   cases decide (x.args.length = 2)
   ·exact .worst (fun t => hA.mr _ (by simp)) (fun t => hA.mp _ (by simp))
   ·simp only [RS.must_true, PS.must_true]; exact ((Two.put [101, 97, 99, 104] rfl).comp (Two.plain x.s)).comp hA
 by_cases e10 : x.kind = 10
 ·unfold RS.form PS.form
  simp only [e10]
  simp
  cases bareB x false false false true false
  ·exact .worst (fun t => (Two.pairsF x hP).mr _ (by simp)) (fun t => by simp)
  ·simp only [RS.must_true, PS.must_true]; exact (Two.put [114, 101, 99] rfl).comp (Two.pairsF x hP)
 by_cases e12 : x.kind = 12
 ·unfold RS.form PS.form
  simp only [e12]
  simp
  cases bareB x false false false false true
  ·exact .worst (fun t => hC.mr _ (by simp)) (fun t => by simp)
  ·simp only [RS.must_true, PS.must_true]
   refine ⟨fun t p h => ?_, fun t h => hC.mr _ (by simp [h]), fun t h => hC.mp _ (by simp [h])⟩
   rcases h with ⟨h1, h2⟩ | ⟨h1, h2, h3, h4, h5, h6⟩
   ·exact .inl ⟨hC.mr _ (by simp [h1]), hC.mp _ (by simp [h2])⟩
   ·rw [h4, h5]
    refine hC.sim _ _ ?_
    rw [← PS.deed_put]
    exact Sim.deed (t := (t.put [100, 111]).must (siteB x p.name p.deeds)) (p := (p.must (siteB x p.name p.deeds)).put [100, 111])
     (((Sim.must (.inr ⟨h1, h2, h3, h4, h5, h6⟩) (siteB x p.name p.deeds)).put [100, 111] rfl))
 by_cases e11 : x.kind = 11
 ·unfold RS.form PS.form
  simp only [e11]
  simp
  exact Two.elem x hA hV hK hP h0
 ·unfold RS.form PS.form
  simp only [e5, e6, e7, e8, e9, e10, e11, e12, if_false, or_self]
  exact .worst (fun t => by simp) (fun t => by simp)
theorem quoteL_end (l : List UInt8) : spB (quoteL l) = true := by
 unfold quoteL
 rw [← List.cons_append, spB_end]; rfl
theorem itoa_end (n : Int) : spB (Lib.itoa n) = true := by
 have hd : ∀ u c, c ∈ Lib.decDigits u → 48 ≤ c.toNat ∧ c.toNat ≤ 57 := by
  intro u
  induction u using Nat.strongRecOn with
  | _ u ih =>
   intro c hc
   have key : ∀ d, d < 10 → (UInt8.ofNat (48 + d)).toNat = 48 + d := fun d hd => by simp; omega
   rw [Lib.decDigits] at hc
   split at hc
   ·rename_i h
    rw [List.mem_singleton] at hc; subst hc; have := key u h; omega
   ·rename_i h
    rcases List.mem_append.1 hc with h1 | h1
    ·exact ih _ (by omega) c h1
    ·simp only [List.mem_singleton] at h1; subst h1; have := key (u % 10) (by omega); omega
 have hne : ∀ u, Lib.decDigits u ≠ [] := fun u e => by
  have h1 := Lib.decDigits_length u
  have h2 := Lib.nDigits_pos u
  rw [e] at h1; simp at h1; omega
 have key : ∀ (a : List UInt8) u, spB (a ++ Lib.decDigits u) = true := fun a u => by
  unfold spB
  rw [List.getLast?_append]
  cases e : (Lib.decDigits u).getLast? with
  | none => exact absurd (List.getLast?_eq_none_iff.1 e) (hne u)
  | some c =>
   have := hd u c (List.mem_of_getLast? e)
   have h1 : c ≠ 40 := by rintro rfl; exact absurd this.1 (by decide)
   have h2 : c ≠ 10 := by rintro rfl; exact absurd this.1 (by decide)
   simp [h1, h2]
 unfold Lib.itoa
 split
 ·exact key [45] _
 ·exact key [] _
theorem Two.expr (x : Ex) {args vals key acts pairs : RS → RS} {args' vals' key' acts' pairs' : PS → PS} (hA : Two args args') (hV : Two vals vals') (hK : Two key key') (hC : Two acts acts') (hP : Two pairs pairs') (h0 : 0 ≤ x.elem) :
  Two (RS.expr x args vals key acts pairs) (PS.expr x args' vals' key' acts' pairs') := by
 unfold RS.expr PS.expr
 by_cases e0 : x.kind = 0
 ·simp only [e0, if_true, noneB, decide_true, Bool.true_and]
  cases bareB x false false false false false
  ·exact .worst (fun t => by simp) (fun t => by simp)
  ·simp only [RS.must_true, PS.must_true]; exact Two.put _ rfl
 by_cases e1 : x.kind = 1
 ·simp only [e1]
  simp
  cases bareB x true false false false false
  ·exact .worst (fun t => by simp) (fun t => by simp)
  ·simp only [RS.must_true, PS.must_true]; exact Two.put _ (itoa_end _)
 by_cases e2 : x.kind = 2
 ·simp only [e2]
  simp
  cases bareB x true false false false false
  ·exact .worst (fun t => by simp) (fun t => by simp)
  ·simp only [Bool.true_and, PS.must_true]; exact (Two.must _).comp (Two.put _ (by split <;> rfl))
 by_cases e3 : x.kind = 3
 ·simp only [e3]
  simp
  cases bareB x false true false false false
  ·exact .worst (fun t => by simp) (fun t => by simp)
  ·simp only [Bool.true_and, PS.must_true]
   by_cases h : x.s.size ≤ 4096
   ·simp only [h, decide_true, RS.must_true, PS.must_true, if_true]; exact Two.put _ (quoteL_end _)
   ·simp only [h, decide_false]; exact .worst (fun t => by simp) (fun t => by simp)
 by_cases e4 : x.kind = 4
 ·simp only [e4]
  simp
  cases bareB x false true false false false
  ·exact .worst (fun t => by simp) (fun t => by simp)
  ·simp only [RS.must_true, PS.must_true]; exact Two.plain _
 ·simp only [e0, e1, e2, e3, e4, if_false]
  exact (Two.form x hA hV hK hC hP h0).round
theorem Two.act (a : Ac) {ex : RS → RS} {ex' : PS → PS} (hE : Two ex ex') : Two (RS.act a ex) (PS.act a ex') := by
 have key : ∀ c : Bool, Two (fun t : RS => if a.kind = 1 then ex ((t.put [115, 101, 116]).plain a.name) else if a.kind = 2 then ex ((t.put [108, 111, 103]).must c) else if a.kind = 3 then ex ((t.put [102, 97, 105, 108]).must c) else if a.kind = 4 then (t.put [115, 116, 111, 112]).must (c && noneB a.expr) else t.must false)
   (fun t : PS => if a.kind = 1 then ex' ((t.put [115, 101, 116]).plain a.name) else if a.kind = 2 then (ex' (t.put [108, 111, 103])).must c else if a.kind = 3 then (ex' (t.put [102, 97, 105, 108])).must c else ((t.put [115, 116, 111, 112]).must (decide (a.kind = 4) && noneB a.expr)).must c) := by
  intro c
  by_cases e1 : a.kind = 1
  ·simp only [e1, if_true]; exact ((Two.put [115, 101, 116] rfl).comp (Two.plain _)).comp hE
  by_cases e2 : a.kind = 2
  ·simp only [e2]
   simp
   cases c
   ·exact .worst (fun t => hE.mr _ (by simp)) (fun t => by simp)
   ·simp only [RS.must_true, PS.must_true]; exact (Two.put [108, 111, 103] rfl).comp hE
  by_cases e3 : a.kind = 3
  ·simp only [e3]
   simp
   cases c
   ·exact .worst (fun t => hE.mr _ (by simp)) (fun t => by simp)
   ·simp only [RS.must_true, PS.must_true]; exact (Two.put [102, 97, 105, 108] rfl).comp hE
  by_cases e4 : a.kind = 4
  ·simp only [e4]
   simp
   cases c
   ·exact .worst (fun t => by simp) (fun t => by simp)
   ·simp only [Bool.true_and, PS.must_true]; exact (Two.put [115, 116, 111, 112] rfl).comp (Two.must _)
  ·simp only [e1, e2, e3, e4, if_false, decide_false, Bool.false_and]
   exact .worst (fun t => by simp) (fun t => by simp)
 have e : RS.act a ex = fun t => ((fun t : RS => if a.kind = 1 then ex ((t.put [115, 101, 116]).plain a.name) else if a.kind = 2 then ex ((t.put [108, 111, 103]).must (decide (a.name.size = 0))) else if a.kind = 3 then ex ((t.put [102, 97, 105, 108]).must (decide (a.name.size = 0))) else if a.kind = 4 then (t.put [115, 116, 111, 112]).must (decide (a.name.size = 0) && noneB a.expr) else t.must false) (t.put [40])).fin := rfl
 rw [e]
 exact (key (decide (a.name.size = 0))).round
theorem Two.stmt (x : St) {ex deps dos undo body : RS → RS} {ex' deps' dos' undo' body' : PS → PS} (hE : Two ex ex') (hD : Two deps deps') (hO : Two dos dos') (hU : Two undo undo') (hY : Two body body') :
  Two (RS.stmt x ex deps dos undo body) (PS.stmt x ex' deps' dos' undo' body') := by
 have runs : ∀ word, spB word = true → Two (RS.runs word x deps dos undo) (fun t => (PS.round undo' (PS.round dos' (PS.round deps' (t.put word)))).must (PS.restB x false false false true true false)) := fun word hw => by
  unfold RS.runs
  have e : (decide (x.name.size = 0) && decide (x.ctx.size = 0) && noneB x.expr && decide (x.body.length = 0)) = PS.restB x false false false true true false := by
   unfold PS.restB; simp
  simp only [e]
  cases PS.restB x false false false true true false
  ·exact .worst (fun t => hU.mr _ (hO.mr _ (hD.mr _ (by simp)))) (fun t => by simp)
  ·simp only [RS.must_true, PS.must_true]
   exact (((Two.put word hw).comp hD.round).comp hO.round).comp hU.round
 have main : ∀ (f : RS → RS) (g : PS → PS), Two f g → (∀ t, RS.stmt x ex deps dos undo body t = (f (t.put [40])).fin) → (PS.stmt x ex' deps' dos' undo' body' = PS.round g) → Two (RS.stmt x ex deps dos undo body) (PS.stmt x ex' deps' dos' undo' body') := fun f g h k l => by
  have k' : RS.stmt x ex deps dos undo body = fun t => (f (t.put [40])).fin := funext k
  rw [k', l]; exact h.round
 by_cases e1 : x.kind = 1
 ·refine main (fun t => ex (((t.put [108, 101, 116]).must (decide (x.ctx.size = 0) && decide (x.deps.length = 0) && RS.lists x && decide (x.body.length = 0))).plain x.name)) (fun t => (ex' ((t.put [108, 101, 116]).plain x.name)).must (PS.restB x true false true false false false)) ?_ (fun t => by unfold RS.stmt; simp only [e1, if_true]) (by unfold PS.stmt; simp only [e1, if_true])
  have e : (decide (x.ctx.size = 0) && decide (x.deps.length = 0) && RS.lists x && decide (x.body.length = 0)) = PS.restB x true false true false false false := by unfold PS.restB RS.lists; simp
  rw [e]
  cases PS.restB x true false true false false false
  ·exact .worst (fun t => hE.mr _ (by simp)) (fun t => by simp)
  ·simp only [RS.must_true, PS.must_true]; exact ((Two.put [108, 101, 116] rfl).comp (Two.plain _)).comp hE
 by_cases e2 : x.kind = 2
 ·refine main (fun t => ex (((t.put [115, 116, 97, 116, 101]).must (decide (x.ctx.size = 0) && decide (x.deps.length = 0) && RS.lists x && decide (x.body.length = 0))).plain x.name)) (fun t => (ex' ((t.put [115, 116, 97, 116, 101]).plain x.name)).must (PS.restB x true false true false false false)) ?_ (fun t => by unfold RS.stmt; simp only [if_neg e1, if_pos e2]) (by unfold PS.stmt; simp only [if_neg e1, if_pos e2])
  have e : (decide (x.ctx.size = 0) && decide (x.deps.length = 0) && RS.lists x && decide (x.body.length = 0)) = PS.restB x true false true false false false := by unfold PS.restB RS.lists; simp
  rw [e]
  cases PS.restB x true false true false false false
  ·exact .worst (fun t => hE.mr _ (by simp)) (fun t => by simp)
  ·simp only [RS.must_true, PS.must_true]; exact ((Two.put [115, 116, 97, 116, 101] rfl).comp (Two.plain _)).comp hE
 by_cases e3 : x.kind = 3
 ·refine main (fun t => ex ((deps ((((t.put [109, 101, 109, 111]).must (decide (x.ctx.size = 0) && RS.lists x && decide (x.body.length = 0))).plain x.name).put [40])).fin)) (fun t => (ex' (PS.round deps' ((t.put [109, 101, 109, 111]).plain x.name))).must (PS.restB x true false true true false false)) ?_ (fun t => by unfold RS.stmt; simp only [if_neg e1, if_neg e2, if_pos e3]) (by unfold PS.stmt; simp only [if_neg e1, if_neg e2, if_pos e3])
  have e : (decide (x.ctx.size = 0) && RS.lists x && decide (x.body.length = 0)) = PS.restB x true false true true false false := by unfold PS.restB RS.lists; simp
  rw [e]
  cases PS.restB x true false true true false false
  ·exact .worst (fun t => hE.mr _ (hD.mr _ (by simp))) (fun t => by simp)
  ·simp only [RS.must_true, PS.must_true]; exact (((Two.put [109, 101, 109, 111] rfl).comp (Two.plain _)).comp hD.round).comp hE
 by_cases e4 : x.kind = 4
 ·refine main (fun t => (((t.put [117, 115, 101]).must (noneB x.expr && decide (x.deps.length = 0) && RS.lists x && decide (x.body.length = 0))).plain x.name).plain x.ctx) (fun t => (((t.put [117, 115, 101]).plain x.name).plain x.ctx).must (PS.restB x true true false false false false)) ?_ (fun t => by unfold RS.stmt; simp only [if_neg e1, if_neg e2, if_neg e3, if_pos e4]) (by unfold PS.stmt; simp only [if_neg e1, if_neg e2, if_neg e3, if_pos e4])
  have e : (noneB x.expr && decide (x.deps.length = 0) && RS.lists x && decide (x.body.length = 0)) = PS.restB x true true false false false false := by unfold PS.restB RS.lists; simp
  rw [e]
  cases PS.restB x true true false false false false
  ·exact .worst (fun t => by simp) (fun t => by simp)
  ·simp only [RS.must_true, PS.must_true]; exact ((Two.put [117, 115, 101] rfl).comp (Two.plain _)).comp (Two.plain _)
 by_cases e5 : x.kind = 5
 ·exact main _ _ (runs [108, 97, 121, 111, 117, 116] rfl) (fun t => by unfold RS.stmt; simp only [if_neg e1, if_neg e2, if_neg e3, if_neg e4, if_pos e5]) (by unfold PS.stmt; simp only [if_neg e1, if_neg e2, if_neg e3, if_neg e4, if_pos e5])
 by_cases e6 : x.kind = 6
 ·exact main _ _ (runs [101, 102, 102, 101, 99, 116] rfl) (fun t => by unfold RS.stmt; simp only [if_neg e1, if_neg e2, if_neg e3, if_neg e4, if_neg e5, if_pos e6]) (by unfold PS.stmt; simp only [if_neg e1, if_neg e2, if_neg e3, if_neg e4, if_neg e5, if_pos e6])
 by_cases e7 : x.kind = 7
 ·refine main (fun t => body (ex ((t.put [119, 104, 101, 110]).must (decide (x.name.size = 0) && decide (x.ctx.size = 0) && decide (x.deps.length = 0) && RS.lists x)))) (fun t => (body' (ex' (t.put [119, 104, 101, 110]))).must (PS.restB x false false true false false true)) ?_ (fun t => by unfold RS.stmt; simp only [if_neg e1, if_neg e2, if_neg e3, if_neg e4, if_neg e5, if_neg e6, if_pos e7]) (by unfold PS.stmt; simp only [if_neg e1, if_neg e2, if_neg e3, if_neg e4, if_neg e5, if_neg e6, if_pos e7])
  have e : (decide (x.name.size = 0) && decide (x.ctx.size = 0) && decide (x.deps.length = 0) && RS.lists x) = PS.restB x false false true false false true := by unfold PS.restB RS.lists; simp
  rw [e]
  cases PS.restB x false false true false false true
  ·exact .worst (fun t => hY.mr _ (hE.mr _ (by simp))) (fun t => by simp)
  ·simp only [RS.must_true, PS.must_true]; exact ((Two.put [119, 104, 101, 110] rfl).comp hE).comp hY
 ·exact main (fun t => t.must false) (fun t => t.worse.must (PS.restB x false false false false false false)) (.worst (fun t => by simp) (fun t => by simp)) (fun t => by unfold RS.stmt; simp only [e1, e2, e3, e4, e5, e6, e7, if_false]) (by unfold PS.stmt; simp only [e1, e2, e3, e4, e5, e6, e7, if_false])
/-! ### Of whole programs -/
theorem u8_nonneg {n : Int} (h : (Lit.int .u8 n).wf = true) : 0 ≤ n := by
 simp [Lit.wf, IntKind.min, IntKind.max, IntKind.signed, IntKind.bits] at h; omega
def ExTwo (x : Ex) : Prop := x.tr.ok = true → Two (rEx x) (pEx x)
def AcTwo (x : Ac) : Prop := x.tr.ok = true → Two (rAc x) (pAc x)
theorem exs_two (L : List Ex) (hS : ∀ v ∈ L, ExTwo v) (hok : oks (L.map Ex.tr) = true) : Two (rExs L) (pExs L) := by
 induction L with
 | nil => exact ⟨fun t p h => by rw [rExs, pExs]; exact h, fun t h => by rw [rExs]; exact h, fun t h => by rw [pExs]; exact h⟩
 | cons v r ih =>
  rw [List.map_cons, oks, Bool.and_eq_true] at hok
  have := (hS v (by simp) hok.1).comp (ih (fun x hx => hS x (by simp [hx])) hok.2)
  exact ⟨fun t p h => by rw [rExs, pExs]; exact this.sim t p h, fun t h => by rw [rExs]; exact this.mr t h, fun t h => by rw [pExs]; exact this.mp t h⟩
theorem acs_two (L : List Ac) (hS : ∀ v ∈ L, AcTwo v) (hok : oks (L.map Ac.tr) = true) : Two (rAcs L) (pAcs L) := by
 induction L with
 | nil => exact ⟨fun t p h => by rw [rAcs, pAcs]; exact h, fun t h => by rw [rAcs]; exact h, fun t h => by rw [pAcs]; exact h⟩
 | cons v r ih =>
  rw [List.map_cons, oks, Bool.and_eq_true] at hok
  have := (hS v (by simp) hok.1).comp (ih (fun x hx => hS x (by simp [hx])) hok.2)
  exact ⟨fun t p h => by rw [rAcs, pAcs]; exact this.sim t p h, fun t h => by rw [rAcs]; exact this.mr t h, fun t h => by rw [pAcs]; exact this.mp t h⟩
theorem pairs_two (L : List Ex) (hS : ∀ v ∈ L, ExTwo v) (hok : oks (L.map Ex.tr) = true) : ∀ N, Two (rPairs L N) (pPairs L N) := by
 induction L with
 | nil => exact fun N => ⟨fun t p h => by rw [rPairs, pPairs]; exact h, fun t h => by rw [rPairs]; exact h, fun t h => by rw [pPairs]; exact h⟩
 | cons v r ih =>
  intro N
  rw [List.map_cons, oks, Bool.and_eq_true] at hok
  cases N with
  | nil => exact ⟨fun t p h => by rw [rPairs, pPairs]; exact h, fun t h => by rw [rPairs]; exact h, fun t h => by rw [pPairs]; exact h⟩
  | cons s N =>
   have := ((Two.plain s).comp (hS v (by simp) hok.1)).round.comp (ih (fun x hx => hS x (by simp [hx])) hok.2 N)
   exact ⟨fun t p h => by rw [rPairs, pPairs]; exact this.sim t p h, fun t h => by rw [rPairs]; exact this.mr t h, fun t h => by rw [pPairs]; exact this.mp t h⟩
theorem ac_two' (x : Ac) (h : ExTwo x.expr) : AcTwo x := fun hok => by
 rw [rAc_eq, pAc_eq]
 rw [Ac.tr_eq, T.ok] at hok
 simp only [oks, T.ok, Bool.and_eq_true, Bool.and_true] at hok
 exact Two.act x (h hok.2.2)
theorem ex_two (x : Ex) : ExTwo x := by
 refine Ex.both (Q := AcTwo) (fun v h1 h2 h3 h4 hok => ?_) ac_two' x
 rw [rEx_eq, pEx_eq]
 rw [Ex.tr_eq, T.ok] at hok
 simp only [oks, T.ok, Bool.and_eq_true, Bool.and_true] at hok
 obtain ⟨_, _, _, o3, _, o5, o6, o7, o8⟩ := hok
 exact Two.expr v (exs_two _ h1 o3) (exs_two _ h2 o5) (exs_two _ h3 o7) (acs_two _ h4 o8) (pairs_two _ h2 o5 _) (u8_nonneg o6)
theorem ac_two (x : Ac) : AcTwo x := ac_two' x (ex_two _)
def StTwo (x : St) : Prop := x.tr.ok = true → Two (rSt x) (pSt x)
theorem sts_two (L : List St) (hS : ∀ v ∈ L, StTwo v) (hok : oks (L.map St.tr) = true) : Two (rSts L) (pSts L) := by
 induction L with
 | nil => exact ⟨fun t p h => by rw [rSts, pSts]; exact h, fun t h => by rw [rSts]; exact h, fun t h => by rw [pSts]; exact h⟩
 | cons v r ih =>
  rw [List.map_cons, oks, Bool.and_eq_true] at hok
  have := (hS v (by simp) hok.1).comp (ih (fun x hx => hS x (by simp [hx])) hok.2)
  exact ⟨fun t p h => by rw [rSts, pSts]; exact this.sim t p h, fun t h => by rw [rSts]; exact this.mr t h, fun t h => by rw [pSts]; exact this.mp t h⟩
theorem st_two (x : St) : StTwo x := by
 refine St.ind (P := StTwo) (fun v h hok => ?_) x
 rw [rSt_eq, pSt_eq]
 rw [St.tr_eq, T.ok] at hok
 simp only [oks, T.ok, Bool.and_eq_true, Bool.and_true] at hok
 obtain ⟨_, _, _, o3, o4, o5, o6, o7⟩ := hok
 exact Two.stmt v (ex_two _ o3) (exs_two _ (fun x _ => ex_two x) o4) (acs_two _ (fun x _ => ac_two x) o5) (acs_two _ (fun x _ => ac_two x) o6) (sts_two _ h o7)
def Top (t : RS) (p : PS) : Prop := (t.bad = true ∧ p.bad = true) ∨ (t.bad = false ∧ p.bad = false ∧ t.l = p.l ∧ spB t.l = false)
theorem comp_top (c : Co) {body out : RS → RS} {body' out' : PS → PS} (hY : Two body body') (hO : Two out out') (t : RS) (p : PS) (h : Top t p) : Top (RS.comp c body out t) (PS.comp c body' out' p) := by
 have k1 : ∀ u : RS, u.bad = true → (RS.comp c body out u).bad = true := fun u hu => hO.mr _ (hY.mr _ (by show ((((u.put [40]).put [99, 111, 109, 112]).plain c.name).plain c.param).bad = true; simp [hu]))
 have k2 : ∀ u : PS, u.bad = true → (PS.comp c body' out' u).bad = true := fun u hu => hO.mp _ (hY.mp _ (by show (((((u.start c.name).open_).put [99, 111, 109, 112]).plain c.name).plain c.param).bad = true; simp [PS.start, hu]))
 rcases h with ⟨h1, h2⟩ | ⟨h1, h2, h3, h4⟩
 ·exact .inl ⟨k1 t h1, k2 p h2⟩
 have e1 : RS.comp c body out t = ((fun t : RS => (out (((body ((t.put [99, 111, 109, 112]).plain c.name |>.plain c.param)).put [40]).put [115, 104, 111, 119])).fin) ((t.start c.name).put [40])).fin.nl := rfl
 have s0 : Sim ((t.start c.name).put [40]) (p.start c.name).open_ := by
  refine .inr ⟨h1, h2, ?_, rfl, rfl, ?_⟩
  ·show (if spB t.l = true then t.l ++ [32] else t.l) ++ [40] = (if false = true then p.l ++ [32] else p.l) ++ [40]
   rw [h4, h3]
  ·show spB ((if spB t.l = true then t.l ++ [32] else t.l) ++ [40]) = false
   rw [spB_end]; rfl
 have s1 := ((((((Two.put [99, 111, 109, 112] rfl).comp (Two.plain c.name)).comp (Two.plain c.param)).comp hY).comp (((Two.put [115, 104, 111, 119] rfl).comp hO).round)).sim _ _ s0).fin
 rcases s1 with ⟨b1, b2⟩ | ⟨b1, b2, b3, _⟩
 ·exact .inl ⟨b1, b2⟩
 ·exact .inr ⟨b1, b2, congrArg (· ++ [10]) b3, spB_end _ 10⟩
theorem cos_top (L : List Co) (hok : oks (L.map Co.tr) = true) : ∀ (t : RS) (p : PS), Top t p → Top (rCos L t) (pCos L p) := by
 induction L with
 | nil => intro t p h; rw [rCos, pCos]; exact h
 | cons v r ih =>
  intro t p h
  rw [List.map_cons, oks, Bool.and_eq_true] at hok
  rw [rCos, pCos]
  have o := hok.1
  rw [Co.tr_eq, T.ok] at o
  simp only [oks, T.ok, Bool.and_eq_true, Bool.and_true] at o
  obtain ⟨_, _, o2, o3⟩ := o
  exact ih hok.2 _ _ (comp_top v (sts_two _ (fun x _ => st_two x) o2) (ex_two _ o3) t p h)
def rS0 : RS := ⟨[], false, ⟨#[]⟩, 0⟩
def pS0 : PS := ⟨[], false, false, ⟨#[]⟩, 0⟩
def tellB (bad : Bool) (l : List UInt8) : ByteArray × Int := if bad = true then (⟨#[]⟩, 1) else if 65536 < l.length then (⟨#[]⟩, 3) else (bs l, 0)
theorem tell_same (L : List Co) (hok : oks (L.map Co.tr) = true) : tellB (pCos L pS0).bad (pCos L pS0).l = tellB (rCos L rS0).bad (rCos L rS0).l := by
 rcases cos_top L hok rS0 pS0 (.inr ⟨rfl, rfl, rfl, rfl⟩) with ⟨h1, h2⟩ | ⟨h1, h2, h3, _⟩
 ·rw [h1, h2]; rfl
 ·rw [h1, h2, h3]
end Go.Proofs.YtlppklbmdedipaaGreatDoor

namespace Go.Proofs.YtlppklbmdedipaaGreatDoor
open Go Go.RowKit
set_option maxHeartbeats 8000000
set_option maxRecDepth 100000

theorem flat_len {cc : Nat → List Value} {K : Nat} : ∀ {n : Nat}, (∀ i, i < n → (cc i).length = K) → ((List.range n).flatMap cc).length = n * K
 | 0, _ => by simp
 | n + 1, h => by
  rw [List.range_succ, List.flatMap_append, List.length_append, flat_len (fun i hi => h i (by omega))]
  simp [h n (by omega), Nat.add_mul]
theorem flat_get {cc : Nat → List Value} {K : Nat} : ∀ {n : Nat}, (∀ i, i < n → (cc i).length = K) → ∀ i j, i < n → j < K → ((List.range n).flatMap cc)[i * K + j]? = (cc i)[j]?
 | 0, _, i, j, hi, _ => by omega
 | n + 1, h, i, j, hi, hj => by
  have hl := flat_len (fun i hi => h i (show i < n + 1 by omega) : ∀ i, i < n → (cc i).length = K)
  rw [List.range_succ, List.flatMap_append]
  rcases Nat.lt_succ_iff_lt_or_eq.1 hi with hi | rfl
  ·have hlt : i * K + j < n * K := by
    have : (i + 1) * K ≤ n * K := Nat.mul_le_mul_right K hi
    rw [Nat.add_mul] at this; omega
   rw [List.getElem?_append_left (by omega)]
   exact flat_get (fun i hi => h i (by omega)) i j hi hj
  ·rw [List.getElem?_append_right (by omega), hl]
   simp
theorem flat_congr {α : Type} {f g : Nat → List α} {n : Nat} (h : ∀ i, i < n → f i = g i) : (List.range n).flatMap f = (List.range n).flatMap g := by
 rw [List.flatMap_def, List.flatMap_def, List.map_congr_left fun i hi => h i (List.mem_range.1 hi)]

def Grows (base : Nat) (wr : World) (m : Mode) (mk : Nat → List Value) (E K : Nat) (es : List T) (k : Nat) (v : Value) : Prop :=
 base ≤ wr.heap.size ∧ ∃ (cc : Nat → List Value) (RR : Nat → List Row), (∀ i, i < k → (cc i).length = K) ∧ wr.ownsRow base E K v k ((List.range k).flatMap cc) ∧
  (∀ (i : Nat) (h : i < es.length), i < k → Own wr base m mk es[i] (cc i) (RR i)) ∧ Apart (((List.range k).flatMap RR) ++ [⟨E, K, v, k⟩])
theorem Grows.start {base : Nat} {wr : World} {m : Mode} {mk : Nat → List Value} {E K : Nat} {es : List T} {v : Value} (hb : base ≤ wr.heap.size) (ho : wr.ownsRow base E K v 0 []) : Grows base wr m mk E K es 0 v :=
 ⟨hb, fun _ => [], fun _ => [], fun i hi => by omega, ho, fun i _ hi => by omega, by simp [Apart]⟩
theorem apart_last {R : List Row} {a : Row} (h : Apart (R ++ [a])) : Apart R ∧ ∀ r ∈ R, ∀ k, r.v.ownBlock = some k → a.v.ownBlock ≠ some k := by
 unfold Apart at h
 rw [List.pairwise_append] at h
 exact ⟨h.1, fun r hr => h.2.2 r hr a (by simp)⟩
theorem grows_step {base : Nat} {wr w1 w2 : World} {m : Mode} {mk : Nat → List Value} {E K : Nat} {es : List T} {k : Nat} {v v' : Value} {cc : Nat → List Value} {RR : Nat → List Row} {cs : List Value} {R : List Row}
  (hz : base ≤ wr.heap.size) (hcc : ∀ i, i < k → (cc i).length = K) (hown : wr.ownsRow base E K v k ((List.range k).flatMap cc)) (helt : ∀ (i : Nat) (h : i < es.length), i < k → Own wr base m mk es[i] (cc i) (RR i))
  (hap : Apart (((List.range k).flatMap RR) ++ [⟨E, K, v, k⟩])) (hk : k < es.length) (h1 : Below wr.heap.size wr w1) (ho : Own w1 wr.heap.size m mk es[k] cs R) (hR : Apart R) (hcs : cs.length = K) (o : Obj)
  (hg : (w1.alloc o).grownBy w2 v.ownBlock) (hl : v'.ownBlock = v.ownBlock ∨ v'.ownBlock = some (w1.heap.size + 1)) (hown2 : w2.ownsRow base E K v' (k + 1) ((List.range k).flatMap cc ++ cs))
  (hlow : ∀ lo, m.sh = some lo → lo ≤ base := by intro _ h; cases h) : Grows base w2 m mk E K es (k + 1) v' := by
 obtain ⟨hap1, hap2⟩ := apart_last hap
 have hz1 := h1.size
 have hza : (w1.alloc o).heap.size = w1.heap.size + 1 := by simp
 have hal : Below w1.heap.size w1 (w1.alloc o) := (Below.refl _ _).alloc (Nat.le_refl _) _
 have hvlt := hown.lt
 have hlow' : ∀ lo, m.sh = some lo → ∀ q, v.ownBlock = some q → lo ≤ q := fun lo h q hq => Nat.le_trans (hlow lo h) (hvlt q hq).1
 have hin : Within base wr.heap.size ((List.range k).flatMap RR) := fun r hr => by
  obtain ⟨i, hi, hr⟩ := List.mem_flatMap.1 hr
  have hi' : i < k := by simpa using hi
  exact (helt i (by omega) hi').within r hr
 have hRin := ho.within
 have hsame : ∀ i, i < k → (if i < k then cc i else cs) = cc i := fun i hi => if_pos hi
 have hsameR : ∀ i, i < k → (if i < k then RR i else R) = RR i := fun i hi => if_pos hi
 have hgz := hg.size
 refine ⟨by omega, fun i => if i < k then cc i else cs, fun i => if i < k then RR i else R, fun i hi => ?_, ?_, fun i h hi => ?_, ?_⟩
 ·show (if i < k then cc i else cs).length = K
  by_cases e : i < k
  ·rw [if_pos e]; exact hcc i e
  ·rw [if_neg e]; exact hcs
 ·rw [List.range_succ, List.flatMap_append, flat_congr hsame]
  simpa using hown2
 ·show Own w2 base m mk es[i] (if i < k then cc i else cs) (if i < k then RR i else R)
  by_cases e : i < k
  ·rw [if_pos e, if_pos e]
   refine (((helt i h e).later h1).later hal).kept hg (fun r hr q hq => ?_) hlow'
   exact hap2 r (List.mem_flatMap.2 ⟨i, by simpa using e, hr⟩) q hq
  ·obtain rfl : i = k := by omega
   rw [if_neg e, if_neg e]
   refine ((ho.base hz).later hal).kept hg (fun r hr q hq e2 => ?_) hlow'
   have := (hRin r hr q hq).1
   have := (hvlt q e2).2
   omega
 ·rw [List.range_succ, List.flatMap_append, flat_congr hsameR]
  simp only [List.flatMap_cons, List.flatMap_nil, List.append_nil, Nat.lt_irrefl, if_false]
  unfold Apart
  rw [List.pairwise_append, List.pairwise_append]
  refine ⟨⟨hap1, hR, fun x hx y hy q hq e => ?_⟩, List.pairwise_singleton _ _, fun x hx y hy q hq e => ?_⟩
  ·have := (hin x hx q hq).2; have := (hRin y hy q e).1; omega
  ·simp at hy; subst hy
   rcases List.mem_append.1 hx with hx | hx
   ·rcases hl with hl | hl
    ·exact hap2 x hx q hq (hl.symm.trans e)
    ·have := (hin x hx q hq).2
     have e3 : some q = some (w1.heap.size + 1) := e.symm.trans hl
     injection e3 with e3; omega
   ·have h5 := hRin x hx q hq
    rcases hl with hl | hl
    ·have := (hvlt q (hl.symm.trans e)).2; omega
    ·have e3 : some q = some (w1.heap.size + 1) := e.symm.trans hl
     injection e3 with e3; omega
def Grow (w wr : World) (m : Mode) (mk : Nat → List Value) (E K : Nat) (es : List T) (k : Nat) (v : Value) : Prop := Below w.heap.size w wr ∧ Grows w.heap.size wr m mk E K es k v
theorem Grow.start {w wr : World} {m : Mode} {mk : Nat → List Value} {E K : Nat} {es : List T} {v : Value} (hb : Below w.heap.size w wr) (ho : wr.ownsRow w.heap.size E K v 0 []) : Grow w wr m mk E K es 0 v := ⟨hb, Grows.start hb.size ho⟩
theorem grow_step {w wr w1 w2 : World} {m : Mode} {mk : Nat → List Value} {E K : Nat} {es : List T} {k : Nat} {v v' : Value} {cc : Nat → List Value} {RR : Nat → List Row} {cs : List Value} {R : List Row}
  (hb : Below w.heap.size w wr) (hcc : ∀ i, i < k → (cc i).length = K) (hown : wr.ownsRow w.heap.size E K v k ((List.range k).flatMap cc)) (helt : ∀ (i : Nat) (h : i < es.length), i < k → Own wr w.heap.size m mk es[i] (cc i) (RR i))
  (hap : Apart (((List.range k).flatMap RR) ++ [⟨E, K, v, k⟩])) (hk : k < es.length) (h1 : Below wr.heap.size wr w1) (ho : Own w1 wr.heap.size m mk es[k] cs R) (hR : Apart R) (hcs : cs.length = K) (o : Obj)
  (hg : (w1.alloc o).grownBy w2 v.ownBlock) (hl : v'.ownBlock = v.ownBlock ∨ v'.ownBlock = some (w1.heap.size + 1)) (hown2 : w2.ownsRow w.heap.size E K v' (k + 1) ((List.range k).flatMap cc ++ cs))
  (hlow : ∀ lo, m.sh = some lo → lo ≤ w.heap.size := by intro _ h; cases h) : Grow w w2 m mk E K es (k + 1) v' := by
 have hz := hb.size
 have hz1 := h1.size
 have hza : (w1.alloc o).heap.size = w1.heap.size + 1 := by simp
 have hal : Below w1.heap.size w1 (w1.alloc o) := (Below.refl _ _).alloc (Nat.le_refl _) _
 have hvlt := hown.lt
 exact ⟨((hb.trans (h1.mono hz)).trans (hal.mono (by omega))).grown hg (by omega) (fun q hq => (hvlt q hq).1), grows_step hz hcc hown helt hap hk h1 ho hR hcs o hg hl hown2 hlow⟩
theorem ownsRow_cut {w : World} {base e size g n cap : Nat} {xs ys : List Value} (h : w.ownsRow base e size (.slice (some ⟨g, 0, none⟩) (n + 1) cap) (n + 1) (xs ++ ys)) (hx : xs.length = n * size) : w.ownsRow base e size (.slice (some ⟨g, 0, none⟩) n cap) n xs := by
 refine ⟨hx, .inr ?_⟩
 rcases h.2 with ⟨h0, _⟩ | ⟨g', cap', cur, e1, e2, e3, e4, e5, e6, e7⟩
 ·simp at h0
 ·injection e1 with a1 _ a3
  injection a1 with a1
  injection a1 with a1
  subst a1 a3
  refine ⟨g, cap, cur, rfl, e2, e3, by omega, e5, e6, ?_⟩
  have : (cur.toList.take ((n + 1) * size)).take (n * size) = (xs ++ ys).take (n * size) := by rw [e7]
  rw [List.take_take, Nat.min_eq_left (Nat.mul_le_mul_right size (Nat.le_succ n))] at this
  rw [this, ← hx, List.take_left']
  rfl
theorem ownsRow_cap {w : World} {base e size g n cap : Nat} {xs : List Value} (h : w.ownsRow base e size (.slice (some ⟨g, 0, none⟩) n cap) n xs) : n ≤ cap ∧ cap ≤ maxLen := by
 rcases h.2 with ⟨h0, _⟩ | ⟨g', cap', cur, e1, _, _, e4, e5, _⟩
 ·simp at h0
 ·injection e1 with _ _ a3
  omega
theorem grow_mark {w wr w2 : World} {mk : Nat → List Value} {E K g cap : Nat} {es : List T} {v : Value} {cc : Nat → List Value} {RR : Nat → List Row}
  (hb : Below w.heap.size w wr) (hcc : ∀ i, i < es.length → (cc i).length = K) (hown : wr.ownsRow w.heap.size E K v es.length ((List.range es.length).flatMap cc)) (helt : ∀ (i : Nat) (h : i < es.length), i < es.length → Own wr w.heap.size twinM mk es[i] (cc i) (RR i))
  (hap : Apart (((List.range es.length).flatMap RR) ++ [⟨E, K, v, es.length⟩])) (o : Obj) (hmk : (mk E).length = K) (hn : es.length ≤ 1152921504606846976)
  (hg : (wr.alloc o).grownBy w2 v.ownBlock) (hl : (Value.slice (some ⟨g, 0, none⟩) (es.length + 1) cap).ownBlock = v.ownBlock ∨ (Value.slice (some ⟨g, 0, none⟩) (es.length + 1) cap).ownBlock = some (wr.heap.size + 1))
  (hown2 : w2.ownsRow w.heap.size E K (.slice (some ⟨g, 0, none⟩) (es.length + 1) cap) (es.length + 1) ((List.range es.length).flatMap cc ++ mk E)) :
  ∃ R, Own w2 w.heap.size twinM mk (.lst E K es) [.slice (some ⟨g, 0, none⟩) es.length cap] R ∧ Apart R ∧ Below w.heap.size w w2 := by
 obtain ⟨hap1, hap2⟩ := apart_last hap
 have hz := hb.size
 have hza : (wr.alloc o).heap.size = wr.heap.size + 1 := by simp
 have hal : Below wr.heap.size wr (wr.alloc o) := (Below.refl _ _).alloc (Nat.le_refl _) _
 have hvlt := hown.lt
 have hin : Within w.heap.size wr.heap.size ((List.range es.length).flatMap RR) := fun r hr => by
  obtain ⟨i, hi, hr⟩ := List.mem_flatMap.1 hr
  have hi' : i < es.length := by simpa using hi
  exact (helt i hi' hi').within r hr
 have hfl := flat_len hcc
 refine ⟨_, .lst E K (.slice (some ⟨g, 0, none⟩) es.length cap) es _ cc RR hn (ownsRow_cut hown2 hfl) (fun i hi => ⟨hcc i hi, fun j hj => flat_get hcc i j hi hj⟩) (fun i hi => ?_) (fun _ => ⟨g, cap, rfl, ?_, hmk, fun j hj => ?_⟩), ?_, ?_⟩
 ·refine ((helt i hi hi).later hal).kept hg (fun r hr q hq => ?_)
  exact hap2 r (List.mem_flatMap.2 ⟨i, by simpa using hi, hr⟩) q hq
 ·rcases hown2.2 with ⟨h0, _⟩ | ⟨g', cap', cur, e1, e2, e3, e4, _⟩
  ·simp at h0
  ·injection e1 with _ _ a3
   omega
 ·rw [hown2.cellAt (es.length * K + j) (by rw [Nat.add_mul]; omega), List.getElem?_append_right (by omega), hfl]
  congr 1; omega
 ·unfold Apart
  rw [List.pairwise_append]
  refine ⟨hap1, List.pairwise_singleton _ _, fun x hx y hy q hq e => ?_⟩
  simp at hy; subst hy
  have e' : (Value.slice (some ⟨g, 0, none⟩) (es.length + 1) cap).ownBlock = some q := e
  rcases hl with hl | hl
  ·exact hap2 x hx q hq (hl.symm.trans e')
  ·have := (hin x hx q hq).2
   have e3 : some q = some (wr.heap.size + 1) := e'.symm.trans hl
   injection e3 with e3; omega
 ·exact (hb.trans (hal.mono (by omega))).grown hg (by omega) (fun q hq => (hvlt q hq).1)
end Go.Proofs.YtlppklbmdedipaaGreatDoor
