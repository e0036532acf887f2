/- PrintTexts, part 1. -/
import Derived.Test.YtlppklbmdedipaaGreatDoorProg
import Derived.WalkKit
import Derived.WalkSpells
import Derived.WalkLawsBesides
import Derived.BigQuiet
import Derived.Deep.QuietTactic
import Derived.Deep.LoopGhost
import Derived.Lib.Hide
import Derived.Lib.OthersKept
import Derived.Laws.OwnMore
import Derived.StillTailTactics
namespace Go.Proofs.YtlppklbmdedipaaGreatDoor
open Go Go.RowKit

inductive T where
  | int (k : IntKind) (n : Int)
  | txt (s : ByteArray)
  | yes (b : Bool)
  | obj (ps : List T)
  | lst (E K : Nat) (es : List T)

inductive At (w : World) (B : Nat) : T → List Value → Prop
  | int (k : IntKind) (n : Int) (h : (Lit.int k n).wf = true) : At w B (.int k n) [.int k n]
  | txt (s : ByteArray) (h : s.size ≤ 140737488355328) : At w B (.txt s) [.string s]
  | yes (b : Bool) : At w B (.yes b) [.bool b]
  | nil : At w B (.obj []) []
  | cons (p : T) (ps : List T) (c cs : List Value) (h1 : At w B p c) (h2 : At w B (.obj ps) cs) : At w B (.obj (p :: ps)) (c ++ cs)
  | lst (E K : Nat) (ao : Option Addr) (b o cap : Nat) (es : List T) (cc : Nat → List Value) (hn : es.length ≤ 1152921504606846976) (hao : 0 < es.length → ao = some ⟨b, o, none⟩ ∧ b < B)
      (hc : ∀ i, i < es.length → (cc i).length = K ∧ ∀ j, j < K → w.cell? ⟨b, o + (i * K + j), none⟩ = (cc i)[j]?) (he : ∀ (i : Nat) (h : i < es.length), At w B es[i] (cc i)) : At w B (.lst E K es) [.slice ao es.length cap]
theorem At.kept {w w' : World} {B : Nat} {t : T} {cs : List Value} (h : At w B t cs) (hb : Below B w w') : At w' B t cs := by
  induction h with
  | int k n h => exact .int k n h
  | txt s h => exact .txt s h
  | yes b => exact .yes b
  | nil => exact .nil
  | cons p ps c cs _ _ ih1 ih2 => exact .cons p ps c cs ih1 ih2
  | lst E K ao b o cap es cc hn hao hc he ih => exact .lst E K ao b o cap es cc hn hao (fun i hi => ⟨(hc i hi).1, fun j hj => (hb.cell (p := ⟨b, o + (i * K + j), none⟩) (hao (by omega)).2).trans ((hc i hi).2 j hj)⟩) ih
theorem At.mono {w : World} {B B' : Nat} {t : T} {cs : List Value} (h : At w B t cs) (hB : B ≤ B') : At w B' t cs := by
  induction h with
  | int k n h => exact .int k n h
  | txt s h => exact .txt s h
  | yes b => exact .yes b
  | nil => exact .nil
  | cons p ps c cs _ _ ih1 ih2 => exact .cons p ps c cs ih1 ih2
  | lst E K ao b o cap es cc hn hao hc he ih => exact .lst E K ao b o cap es cc hn (fun h0 => ⟨(hao h0).1, Nat.lt_of_lt_of_le (hao h0).2 hB⟩) hc ih
def LAt (w : World) (B K : Nat) (es : List T) (ao : Option Addr) (n : Nat) : Prop :=
  n = es.length ∧ n ≤ 1152921504606846976 ∧ ∃ (b o : Nat) (cc : Nat → List Value), (0 < n → ao = some ⟨b, o, none⟩ ∧ b < B) ∧
    (∀ i, i < n → (cc i).length = K ∧ ∀ j, j < K → w.cell? ⟨b, o + (i * K + j), none⟩ = (cc i)[j]?) ∧ ∀ (i : Nat) (h : i < es.length), At w B es[i] (cc i)
theorem LAt.kept {w w' : World} {B K n : Nat} {es : List T} {ao : Option Addr} (h : LAt w B K es ao n) (hb : Below B w w') : LAt w' B K es ao n := by
  obtain ⟨h1, h2, b, o, cc, h3, h4, h5⟩ := h
  exact ⟨h1, h2, b, o, cc, h3, fun i hi => ⟨(h4 i hi).1, fun j hj => (hb.cell (p := ⟨b, o + (i * K + j), none⟩) (h3 (by omega)).2).trans ((h4 i hi).2 j hj)⟩, fun i hi => (h5 i hi).kept hb⟩
theorem LAt.mono {w : World} {B B' K n : Nat} {es : List T} {ao : Option Addr} (h : LAt w B K es ao n) (hB : B ≤ B') : LAt w B' K es ao n := by
  obtain ⟨h1, h2, b, o, cc, h3, h4, h5⟩ := h
  exact ⟨h1, h2, b, o, cc, fun h0 => ⟨(h3 h0).1, Nat.lt_of_lt_of_le (h3 h0).2 hB⟩, h4, fun i hi => (h5 i hi).mono hB⟩
theorem LAt.later {w w' : World} {K n : Nat} {es : List T} {ao : Option Addr} (h : LAt w w.heap.size K es ao n) (hb : Below w.heap.size w w') : LAt w' w'.heap.size K es ao n := (h.kept hb).mono hb.size
theorem LAt.elem {w : World} {B K n : Nat} {es : List T} {ao : Option Addr} (h : LAt w B K es ao n) (i : Nat) (hi : i < es.length) :
    ∃ (b o : Nat) (cc : List Value), ao = some ⟨b, o, none⟩ ∧ b < B ∧ cc.length = K ∧ (∀ j, j < K → w.cell? ⟨b, o + (i * K + j), none⟩ = cc[j]?) ∧ At w B es[i] cc := by
  obtain ⟨h1, h2, b, o, cc, h3, h4, h5⟩ := h
  obtain ⟨g1, g2⟩ := h3 (by omega)
  exact ⟨b, o, cc i, g1, g2, (h4 i (by omega)).1, (h4 i (by omega)).2, h5 i hi⟩
theorem LAt.at {w : World} {B K n cap : Nat} {es : List T} {ao : Option Addr} (E : Nat) (h : LAt w B K es ao n) : At w B (.lst E K es) [.slice ao n cap] := by
  obtain ⟨h1, h2, b, o, cc, h3, h4, h5⟩ := h
  subst h1
  exact .lst E K ao b o cap es cc h2 h3 h4 h5
theorem LAt.none (w : World) (B K : Nat) : LAt w B K [] .none 0 := ⟨rfl, by omega, 0, 0, fun _ => [], fun h => by omega, fun i h => by omega, fun i h => by simp at h⟩
theorem At.lst_inv {w : World} {B E K : Nat} {es : List T} {cs : List Value} (h : At w B (.lst E K es) cs) : ∃ ao cap, cs = [.slice ao es.length cap] ∧ LAt w B K es ao es.length := by
  cases h with
  | lst _ _ ao b o cap _ cc hn hao hc he => exact ⟨ao, cap, rfl, rfl, hn, b, o, cc, hao, hc, he⟩
theorem At.int_inv {w : World} {B : Nat} {k : IntKind} {n : Int} {cs : List Value} (h : At w B (.int k n) cs) : cs = [.int k n] ∧ (Lit.int k n).wf = true := by
  cases h with
  | int _ _ h => exact ⟨rfl, h⟩
theorem At.txt_inv {w : World} {B : Nat} {s : ByteArray} {cs : List Value} (h : At w B (.txt s) cs) : cs = [.string s] ∧ s.size ≤ 140737488355328 := by
  cases h with
  | txt _ h => exact ⟨rfl, h⟩
theorem At.yes_inv {w : World} {B : Nat} {b : Bool} {cs : List Value} (h : At w B (.yes b) cs) : cs = [.bool b] := by
  cases h with
  | yes _ => rfl
theorem At.nil_inv {w : World} {B : Nat} {cs : List Value} (h : At w B (.obj []) cs) : cs = [] := by
  cases h with
  | nil => rfl
theorem At.cons_inv {w : World} {B : Nat} {p : T} {ps : List T} {cs : List Value} (h : At w B (.obj (p :: ps)) cs) : ∃ c c', cs = c ++ c' ∧ At w B p c ∧ At w B (.obj ps) c' := by
  cases h with
  | cons _ _ c c' h1 h2 => exact ⟨c, c', rfl, h1, h2⟩

structure Row where
  E : Nat
  K : Nat
  v : Value
  n : Nat
def Behind (w : World) (mk : Nat → List Value) (E K n : Nat) (v : Value) : Prop := ∃ g cap, v = .slice (some ⟨g, 0, none⟩) n cap ∧ n < cap ∧ (mk E).length = K ∧ ∀ j, j < K → w.cell? ⟨g, n * K + j, none⟩ = (mk E)[j]?
structure Mode where
  sp : Bool
  sh : Option Nat
abbrev twinM : Mode := ⟨true, none⟩
abbrev ownM : Mode := ⟨false, none⟩
abbrev mixM (lo : Nat) : Mode := ⟨false, some lo⟩
inductive Own (w : World) (base : Nat) (m : Mode) (mk : Nat → List Value) : T → List Value → List Row → Prop
  | int (k : IntKind) (n : Int) (h : (Lit.int k n).wf = true) : Own w base m mk (.int k n) [.int k n] []
  | txt (s : ByteArray) (h : s.size ≤ 140737488355328) : Own w base m mk (.txt s) [.string s] []
  | yes (b : Bool) : Own w base m mk (.yes b) [.bool b] []
  | nil : Own w base m mk (.obj []) [] []
  | old (t : T) (cs : List Value) (lo : Nat) (hlo : lo ≤ w.heap.size) (hm : m.sh = some lo) (h : At w lo t cs) : Own w base m mk t cs []
  | cons (p : T) (ps : List T) (c cs : List Value) (R R' : List Row) (h1 : Own w base m mk p c R) (h2 : Own w base m mk (.obj ps) cs R') : Own w base m mk (.obj (p :: ps)) (c ++ cs) (R ++ R')
  | lst (E K : Nat) (v : Value) (es : List T) (xs : List Value) (cc : Nat → List Value) (RR : Nat → List Row) (hn : es.length ≤ 1152921504606846976) (ho : w.ownsRow base E K v es.length xs)
      (hc : ∀ i, i < es.length → (cc i).length = K ∧ ∀ j, j < K → xs[i * K + j]? = (cc i)[j]?) (he : ∀ (i : Nat) (h : i < es.length), Own w base m mk es[i] (cc i) (RR i)) (hs : m.sp = true → Behind w mk E K es.length v) :
      Own w base m mk (.lst E K es) [v] (((List.range es.length).flatMap RR) ++ [⟨E, K, v, es.length⟩])
def T.flat : T → Bool
  | .obj _ => false
  | _ => true
def T.leaf : T → Bool
  | .int _ _ => true
  | .txt _ => true
  | .yes _ => true
  | _ => false
theorem Own.cons_inv {w : World} {base : Nat} {m : Mode} {mk : Nat → List Value} {p : T} {ps : List T} {cs : List Value} {R : List Row} (h : Own w base m mk (.obj (p :: ps)) cs R) :
    ∃ c c' R1 R2, cs = c ++ c' ∧ R = R1 ++ R2 ∧ Own w base m mk p c R1 ∧ Own w base m mk (.obj ps) c' R2 := by
  cases h with
  | cons _ _ c c' R1 R2 h1 h2 => exact ⟨c, c', R1, R2, rfl, rfl, h1, h2⟩
  | old _ _ lo hlo hm h =>
    obtain ⟨c, c', rfl, h1, h2⟩ := h.cons_inv
    exact ⟨c, c', [], [], rfl, rfl, .old _ _ lo hlo hm h1, .old _ _ lo hlo hm h2⟩
theorem Own.one_inv {w : World} {base : Nat} {m : Mode} {mk : Nat → List Value} {t : T} {cs : List Value} {R : List Row} (h : Own w base m mk t cs R) (ht : t.flat = true) : cs.length = 1 := by
  cases h with
  | int | txt | yes | lst => rfl
  | nil | cons => cases ht
  | old _ _ lo hlo hm h =>
    cases h with
    | int | txt | yes | lst => rfl
    | nil | cons => cases ht
theorem Own.head_inv {w : World} {base : Nat} {m : Mode} {mk : Nat → List Value} {p : T} {ps : List T} {c : Value} {cs : List Value} {R : List Row} (h : Own w base m mk (.obj (p :: ps)) (c :: cs) R) (hp : p.flat = true) :
    ∃ R1 R2, R = R1 ++ R2 ∧ Own w base m mk p [c] R1 ∧ Own w base m mk (.obj ps) cs R2 := by
  obtain ⟨c1, c2, R1, R2, e, e2, h1, h2⟩ := h.cons_inv
  have hl := h1.one_inv hp
  match c1, hl with
  | [x], _ =>
    simp at e
    obtain ⟨rfl, rfl⟩ := e
    exact ⟨R1, R2, e2, h1, h2⟩
def Apart (R : List Row) : Prop := R.Pairwise fun a b => ∀ k, a.v.ownBlock = some k → b.v.ownBlock ≠ some k
def Within (lo hi : Nat) (R : List Row) : Prop := ∀ r ∈ R, ∀ k, r.v.ownBlock = some k → lo ≤ k ∧ k < hi
theorem Within.mono {a b c d : Nat} {R : List Row} (h : Within a b R) (h1 : c ≤ a) (h2 : b ≤ d) : Within c d R := fun r hr k hk => ⟨Nat.le_trans h1 (h r hr k hk).1, Nat.lt_of_lt_of_le (h r hr k hk).2 h2⟩
theorem Within.append {a b : Nat} {R S : List Row} (h : Within a b R) (k : Within a b S) : Within a b (R ++ S) := fun r hr => (List.mem_append.1 hr).elim (h r) (k r)
theorem Within.nil (a b : Nat) : Within a b [] := fun r hr => by cases hr
theorem Apart.nil : Apart [] := List.Pairwise.nil
theorem Apart.append {R S : List Row} {a b c : Nat} (h : Apart R) (k : Apart S) (hR : Within a b R) (hS : Within b c S) : Apart (R ++ S) := by
  unfold Apart
  rw [List.pairwise_append]
  exact ⟨h, k, fun x hx y hy q hq e => by have := (hR x hx q hq).2; have := (hS y hy q e).1; omega⟩
theorem Own.within {w : World} {base : Nat} {m : Mode} {mk : Nat → List Value} {t : T} {cs : List Value} {R : List Row} (h : Own w base m mk t cs R) : Within base w.heap.size R := by
  induction h with
  | int | txt | yes | nil | old => exact Within.nil _ _
  | cons p ps c cs R R' _ _ ih1 ih2 => exact ih1.append ih2
  | lst E K v es xs cc RR hn ho hc he hs ih =>
    refine Within.append (fun r hr => ?_) (fun r hr => ?_)
    · obtain ⟨i, hi, hr⟩ := List.mem_flatMap.1 hr
      exact ih i (by simpa using hi) r hr
    · simp at hr; subst hr; exact ho.lt
theorem Own.at {w : World} {base : Nat} {m : Mode} {mk : Nat → List Value} {t : T} {cs : List Value} {R : List Row} (h : Own w base m mk t cs R) : At w w.heap.size t cs := by
  induction h with
  | int k n h => exact .int k n h
  | txt s h => exact .txt s h
  | yes b => exact .yes b
  | nil => exact .nil
  | old t cs lo hlo hm h => exact h.mono hlo
  | cons p ps c cs R R' _ _ ih1 ih2 => exact .cons p ps c cs ih1 ih2
  | lst E K v es xs cc RR hn ho hc he hs ih =>
    rcases ho.2 with ⟨rfl, h0⟩ | ⟨g, cap, cur, rfl, _, hg, _⟩
    · have : LAt w w.heap.size K es .none es.length := ⟨rfl, hn, 0, 0, cc, fun h => by omega, fun i hi => by omega, ih⟩
      have h9 := this.at (cap := 0) E
      rw [h0] at h9
      exact h9
    · refine .lst E K (some ⟨g, 0, none⟩) g 0 cap es cc hn (fun _ => ⟨rfl, (ho.lt g rfl).2⟩) (fun i hi => ⟨(hc i hi).1, fun j hj => ?_⟩) ih
      rw [Nat.zero_add, ho.cellAt (i * K + j) ?_]
      · exact (hc i hi).2 j hj
      · calc i * K + j < i * K + K := by omega
          _ = (i + 1) * K := by rw [Nat.add_mul]; simp
          _ ≤ es.length * K := Nat.mul_le_mul_right K hi
theorem Behind.kept {w w' : World} {mk : Nat → List Value} {E K n : Nat} {v : Value} {row : Option Nat} (h : Behind w mk E K n v) (hg : w.grownBy w' row) (hlt : ∀ k, v.ownBlock = some k → k < w.heap.size) (hne : v.ownBlock ≠ row) : Behind w' mk E K n v := by
  obtain ⟨g, cap, rfl, h1, h2, h3⟩ := h
  exact ⟨g, cap, rfl, h1, h2, fun j hj => (World.cell?_of_block (a := ⟨g, n * K + j, none⟩) (hg.block g (hlt g rfl) (fun e => hne e))).trans (h3 j hj)⟩
theorem Own.kept {w w' : World} {base : Nat} {m : Mode} {mk : Nat → List Value} {t : T} {cs : List Value} {R : List Row} {row : Option Nat} (h : Own w base m mk t cs R) (hg : w.grownBy w' row) (hne : ∀ r ∈ R, ∀ k, r.v.ownBlock = some k → row ≠ some k) (hlow : ∀ lo, m.sh = some lo → ∀ k, row = some k → lo ≤ k := by intro _ h; cases h) : Own w' base m mk t cs R := by
  induction h with
  | int k n h => exact .int k n h
  | txt s h => exact .txt s h
  | yes b => exact .yes b
  | nil => exact .nil
  | old t cs lo hlo hm h => exact .old t cs lo (Nat.le_trans hlo hg.size) hm (h.kept ⟨hg.os, hg.tape, hg.output, hg.size, fun k hk => hg.block k (by omega) (fun e => by have := hlow lo hm k e.symm; omega)⟩)
  | cons p ps c cs R R' _ _ ih1 ih2 => exact .cons p ps c cs R R' (ih1 fun r hr => hne r (List.mem_append_left _ hr)) (ih2 fun r hr => hne r (List.mem_append_right _ hr))
  | lst E K v es xs cc RR hn ho hc he hs ih =>
    have hv := hne ⟨E, K, v, es.length⟩ (List.mem_append_right _ (by simp))
    have hv2 : v.ownBlock = none ∨ v.ownBlock ≠ row := by
      cases e : v.ownBlock with
      | none => exact .inl rfl
      | some k => exact .inr (fun e2 => hv k e e2.symm)
    refine .lst E K v es xs cc RR hn (ho.kept hg hv2) hc (fun i hi => ih i hi fun r hr => hne r (List.mem_append_left _ (List.mem_flatMap.2 ⟨i, by simpa using hi, hr⟩))) (fun h0 => ?_)
    have hb := hs h0
    refine hb.kept hg (fun k hk => (ho.lt k hk).2) (hv2.resolve_left ?_)
    obtain ⟨g, cap, rfl, _⟩ := hb
    simp [Value.ownBlock]
theorem grown_none {a b : World} (h : Below a.heap.size a b) : a.grownBy b none := ⟨h.os, h.tape, h.output, h.size, fun k hk _ => h.block k hk⟩
theorem Own.later {w w' : World} {base : Nat} {m : Mode} {mk : Nat → List Value} {t : T} {cs : List Value} {R : List Row} (h : Own w base m mk t cs R) (hb : Below w.heap.size w w') : Own w' base m mk t cs R := h.kept (grown_none hb) (fun _ _ _ _ => by simp) (fun _ _ _ e => by cases e)
theorem Own.base {w : World} {base base' : Nat} {m : Mode} {mk : Nat → List Value} {t : T} {cs : List Value} {R : List Row} (h : Own w base m mk t cs R) (hb : base' ≤ base) : Own w base' m mk t cs R := by
  induction h with
  | int k n h => exact .int k n h
  | txt s h => exact .txt s h
  | yes b => exact .yes b
  | nil => exact .nil
  | old t cs lo hlo hm h => exact .old t cs lo hlo hm h
  | cons p ps c cs R R' _ _ ih1 ih2 => exact .cons p ps c cs R R' ih1 ih2
  | lst E K v es xs cc RR hn ho hc he hs ih =>
    refine .lst E K v es xs cc RR hn ⟨ho.1, ho.2.imp id ?_⟩ hc ih hs
    rintro ⟨g, cap, cur, e1, e2, e3⟩
    exact ⟨g, cap, cur, e1, Nat.le_trans hb e2, e3⟩
mutual
inductive Ex where
  | mk (kind : Int) (n : Int) (s : ByteArray) (args : List Ex) (names : List ByteArray) (vals : List Ex) (elem : Int) (key : List Ex) (acts : List Ac) (site : ByteArray)
inductive Ac where
  | mk (kind : Int) (name : ByteArray) (expr : Ex)
end
inductive St where
  | mk (kind : Int) (name : ByteArray) (ctx : ByteArray) (expr : Ex) (deps : List Ex) (dos : List Ac) (undo : List Ac) (body : List St)
inductive Co where
  | mk (name : ByteArray) (param : ByteArray) (body : List St) (out : Ex)
def Ex.kind : Ex → Int | .mk x _ _ _ _ _ _ _ _ _ => x
def Ex.n : Ex → Int | .mk _ x _ _ _ _ _ _ _ _ => x
def Ex.s : Ex → ByteArray | .mk _ _ x _ _ _ _ _ _ _ => x
def Ex.args : Ex → List Ex | .mk _ _ _ x _ _ _ _ _ _ => x
def Ex.names : Ex → List ByteArray | .mk _ _ _ _ x _ _ _ _ _ => x
def Ex.vals : Ex → List Ex | .mk _ _ _ _ _ x _ _ _ _ => x
def Ex.elem : Ex → Int | .mk _ _ _ _ _ _ x _ _ _ => x
def Ex.key : Ex → List Ex | .mk _ _ _ _ _ _ _ x _ _ => x
def Ex.acts : Ex → List Ac | .mk _ _ _ _ _ _ _ _ x _ => x
def Ex.site : Ex → ByteArray | .mk _ _ _ _ _ _ _ _ _ x => x
def Ac.kind : Ac → Int | .mk x _ _ => x
def Ac.name : Ac → ByteArray | .mk _ x _ => x
def Ac.expr : Ac → Ex | .mk _ _ x => x
def St.kind : St → Int | .mk x _ _ _ _ _ _ _ => x
def St.name : St → ByteArray | .mk _ x _ _ _ _ _ _ => x
def St.ctx : St → ByteArray | .mk _ _ x _ _ _ _ _ => x
def St.expr : St → Ex | .mk _ _ _ x _ _ _ _ => x
def St.deps : St → List Ex | .mk _ _ _ _ x _ _ _ => x
def St.dos : St → List Ac | .mk _ _ _ _ _ x _ _ => x
def St.undo : St → List Ac | .mk _ _ _ _ _ _ x _ => x
def St.body : St → List St | .mk _ _ _ _ _ _ _ x => x
def Co.name : Co → ByteArray | .mk x _ _ _ => x
def Co.param : Co → ByteArray | .mk _ x _ _ => x
def Co.body : Co → List St | .mk _ _ x _ => x
def Co.out : Co → Ex | .mk _ _ _ x => x
mutual
def Ex.tr : Ex → T
  | .mk kind n s args names vals elem key acts site => .obj [.int .u8 kind, .int .i64 n, .txt s, .lst 50 10 (trEx args), .lst 9 1 (names.map T.txt), .lst 50 10 (trEx vals), .int .u8 elem, .lst 50 10 (trEx key), .lst 101 12 (trAc acts), .txt site]
def Ac.tr : Ac → T
  | .mk kind name expr => .obj [.int .u8 kind, .txt name, expr.tr]
def trEx : List Ex → List T
  | [] => []
  | v :: r => v.tr :: trEx r
def trAc : List Ac → List T
  | [] => []
  | v :: r => v.tr :: trAc r
end
theorem trEx_map : ∀ L, trEx L = L.map Ex.tr
  | [] => rfl
  | v :: r => by rw [trEx, trEx_map r, List.map_cons]
theorem trAc_map : ∀ L, trAc L = L.map Ac.tr
  | [] => rfl
  | v :: r => by rw [trAc, trAc_map r, List.map_cons]
theorem Ex.tr_eq (v : Ex) : v.tr = .obj [.int .u8 v.kind, .int .i64 v.n, .txt v.s, .lst 50 10 (v.args.map Ex.tr), .lst 9 1 (v.names.map T.txt), .lst 50 10 (v.vals.map Ex.tr), .int .u8 v.elem, .lst 50 10 (v.key.map Ex.tr), .lst 101 12 (v.acts.map Ac.tr), .txt v.site] := by
  cases v; rw [Ex.tr]; simp only [trAc_map, trEx_map]; rfl
theorem Ac.tr_eq (v : Ac) : v.tr = .obj [.int .u8 v.kind, .txt v.name, v.expr.tr] := by
  cases v; rw [Ac.tr]; rfl
mutual
def St.tr : St → T
  | .mk kind name ctx expr deps dos undo body => .obj [.int .u8 kind, .txt name, .txt ctx, expr.tr, .lst 50 10 (deps.map Ex.tr), .lst 101 12 (dos.map Ac.tr), .lst 101 12 (undo.map Ac.tr), .lst 63 17 (trSt body)]
def trSt : List St → List T
  | [] => []
  | v :: r => v.tr :: trSt r
end
theorem trSt_map : ∀ L, trSt L = L.map St.tr
  | [] => rfl
  | v :: r => by rw [trSt, trSt_map r, List.map_cons]
theorem St.tr_eq (v : St) : v.tr = .obj [.int .u8 v.kind, .txt v.name, .txt v.ctx, v.expr.tr, .lst 50 10 (v.deps.map Ex.tr), .lst 101 12 (v.dos.map Ac.tr), .lst 101 12 (v.undo.map Ac.tr), .lst 63 17 (v.body.map St.tr)] := by
  cases v; rw [St.tr]; simp only [trSt_map]; rfl
mutual
def Co.tr : Co → T
  | .mk name param body out => .obj [.txt name, .txt param, .lst 63 17 (body.map St.tr), out.tr]
def trCo : List Co → List T
  | [] => []
  | v :: r => v.tr :: trCo r
end
theorem Co.tr_eq (v : Co) : v.tr = .obj [.txt v.name, .txt v.param, .lst 63 17 (v.body.map St.tr), v.out.tr] := by
  cases v; rw [Co.tr]; rfl
structure QEx where
  argsa : Option Addr
  argsn : Nat
  argsc : Nat
  namesa : Option Addr
  namesn : Nat
  namesc : Nat
  valsa : Option Addr
  valsn : Nat
  valsc : Nat
  keya : Option Addr
  keyn : Nat
  keyc : Nat
  actsa : Option Addr
  actsn : Nat
  actsc : Nat
structure QAc where
  expr : QEx
structure QSt where
  expr : QEx
  depsa : Option Addr
  depsn : Nat
  depsc : Nat
  dosa : Option Addr
  dosn : Nat
  dosc : Nat
  undoa : Option Addr
  undon : Nat
  undoc : Nat
  bodya : Option Addr
  bodyn : Nat
  bodyc : Nat
structure QCo where
  bodya : Option Addr
  bodyn : Nat
  bodyc : Nat
  out : QEx
def QEx.cells (q : QEx) (v : Ex) : List Value := [.int .u8 v.kind, .int .i64 v.n, .string v.s, .slice q.argsa q.argsn q.argsc, .slice q.namesa q.namesn q.namesc, .slice q.valsa q.valsn q.valsc, .int .u8 v.elem, .slice q.keya q.keyn q.keyc, .slice q.actsa q.actsn q.actsc, .string v.site]
def QAc.cells (q : QAc) (v : Ac) : List Value := [.int .u8 v.kind, .string v.name, .int .u8 v.expr.kind, .int .i64 v.expr.n, .string v.expr.s, .slice q.expr.argsa q.expr.argsn q.expr.argsc, .slice q.expr.namesa q.expr.namesn q.expr.namesc, .slice q.expr.valsa q.expr.valsn q.expr.valsc, .int .u8 v.expr.elem, .slice q.expr.keya q.expr.keyn q.expr.keyc, .slice q.expr.actsa q.expr.actsn q.expr.actsc, .string v.expr.site]
def QSt.cells (q : QSt) (v : St) : List Value := [.int .u8 v.kind, .string v.name, .string v.ctx, .int .u8 v.expr.kind, .int .i64 v.expr.n, .string v.expr.s, .slice q.expr.argsa q.expr.argsn q.expr.argsc, .slice q.expr.namesa q.expr.namesn q.expr.namesc, .slice q.expr.valsa q.expr.valsn q.expr.valsc, .int .u8 v.expr.elem, .slice q.expr.keya q.expr.keyn q.expr.keyc, .slice q.expr.actsa q.expr.actsn q.expr.actsc, .string v.expr.site, .slice q.depsa q.depsn q.depsc, .slice q.dosa q.dosn q.dosc, .slice q.undoa q.undon q.undoc, .slice q.bodya q.bodyn q.bodyc]
def QCo.cells (q : QCo) (v : Co) : List Value := [.string v.name, .string v.param, .slice q.bodya q.bodyn q.bodyc, .int .u8 v.out.kind, .int .i64 v.out.n, .string v.out.s, .slice q.out.argsa q.out.argsn q.out.argsc, .slice q.out.namesa q.out.namesn q.out.namesc, .slice q.out.valsa q.out.valsn q.out.valsc, .int .u8 v.out.elem, .slice q.out.keya q.out.keyn q.out.keyc, .slice q.out.actsa q.out.actsn q.out.actsc, .string v.out.site]
abbrev TLs (w : World) (B : Nat) (L : List ByteArray) (a : Option Addr) (n : Nat) : Prop := LAt w B 1 (L.map T.txt) a n
abbrev ExLs (w : World) (B : Nat) (L : List Ex) (a : Option Addr) (n : Nat) : Prop := LAt w B 10 (L.map Ex.tr) a n
abbrev AcLs (w : World) (B : Nat) (L : List Ac) (a : Option Addr) (n : Nat) : Prop := LAt w B 12 (L.map Ac.tr) a n
abbrev StLs (w : World) (B : Nat) (L : List St) (a : Option Addr) (n : Nat) : Prop := LAt w B 17 (L.map St.tr) a n
abbrev CoLs (w : World) (B : Nat) (L : List Co) (a : Option Addr) (n : Nat) : Prop := LAt w B 13 (L.map Co.tr) a n
structure ExAt (w : World) (B : Nat) (v : Ex) (q : QEx) : Prop where
  kind : (Lit.int .u8 v.kind).wf = true
  n : (Lit.int .i64 v.n).wf = true
  s : v.s.size ≤ 140737488355328
  args : ExLs w B v.args q.argsa q.argsn
  names : TLs w B v.names q.namesa q.namesn
  vals : ExLs w B v.vals q.valsa q.valsn
  elem : (Lit.int .u8 v.elem).wf = true
  key : ExLs w B v.key q.keya q.keyn
  acts : AcLs w B v.acts q.actsa q.actsn
  site : v.site.size ≤ 140737488355328
theorem ExAt.kept {w w' : World} {B : Nat} {v : Ex} {q : QEx} (h : ExAt w B v q) (hb : Below B w w') : ExAt w' B v q := ⟨h.kind, h.n, h.s, h.args.kept hb, h.names.kept hb, h.vals.kept hb, h.elem, h.key.kept hb, h.acts.kept hb, h.site⟩
theorem ExAt.mono {w : World} {B B' : Nat} {v : Ex} {q : QEx} (h : ExAt w B v q) (hb : B ≤ B') : ExAt w B' v q := ⟨h.kind, h.n, h.s, h.args.mono hb, h.names.mono hb, h.vals.mono hb, h.elem, h.key.mono hb, h.acts.mono hb, h.site⟩
theorem At.toEx {w : World} {B : Nat} {v : Ex} {cs : List Value} (h : At w B v.tr cs) : ∃ q : QEx, cs = q.cells v ∧ ExAt w B v q := by
  rw [Ex.tr_eq] at h
  obtain ⟨_, _, rfl, h0, h⟩ := h.cons_inv
  obtain ⟨_, _, rfl, h1, h⟩ := h.cons_inv
  obtain ⟨_, _, rfl, h2, h⟩ := h.cons_inv
  obtain ⟨_, _, rfl, h3, h⟩ := h.cons_inv
  obtain ⟨_, _, rfl, h4, h⟩ := h.cons_inv
  obtain ⟨_, _, rfl, h5, h⟩ := h.cons_inv
  obtain ⟨_, _, rfl, h6, h⟩ := h.cons_inv
  obtain ⟨_, _, rfl, h7, h⟩ := h.cons_inv
  obtain ⟨_, _, rfl, h8, h⟩ := h.cons_inv
  obtain ⟨_, _, rfl, h9, h⟩ := h.cons_inv
  obtain rfl := h.nil_inv
  obtain ⟨rfl, g0⟩ := h0.int_inv
  obtain ⟨rfl, g1⟩ := h1.int_inv
  obtain ⟨rfl, g2⟩ := h2.txt_inv
  obtain ⟨a3, c3, rfl, g3⟩ := h3.lst_inv
  obtain ⟨a4, c4, rfl, g4⟩ := h4.lst_inv
  obtain ⟨a5, c5, rfl, g5⟩ := h5.lst_inv
  obtain ⟨rfl, g6⟩ := h6.int_inv
  obtain ⟨a7, c7, rfl, g7⟩ := h7.lst_inv
  obtain ⟨a8, c8, rfl, g8⟩ := h8.lst_inv
  obtain ⟨rfl, g9⟩ := h9.txt_inv
  exact ⟨⟨a3, _, c3, a4, _, c4, a5, _, c5, a7, _, c7, a8, _, c8⟩, by simp [QEx.cells], g0, g1, g2, g3, g4, g5, g6, g7, g8, g9⟩
theorem ExAt.at {w : World} {B : Nat} {v : Ex} {q : QEx} (h : ExAt w B v q) : At w B v.tr (q.cells v) := by
  rw [Ex.tr_eq]
  exact .cons _ _ [_] _ (.int _ _ h.kind) (.cons _ _ [_] _ (.int _ _ h.n) (.cons _ _ [_] _ (.txt _ h.s) (.cons _ _ [_] _ (h.args.at _) (.cons _ _ [_] _ (h.names.at _) (.cons _ _ [_] _ (h.vals.at _) (.cons _ _ [_] _ (.int _ _ h.elem) (.cons _ _ [_] _ (h.key.at _) (.cons _ _ [_] _ (h.acts.at _) (.cons _ _ [_] _ (.txt _ h.site) .nil)))))))))
theorem ExLs.elem {w : World} {B n : Nat} {L : List Ex} {a : Option Addr} (h : ExLs w B L a n) (i : Nat) (hi : i < n) : ∃ (b o : Nat) (v : Ex) (q : QEx), a = some ⟨b, o, none⟩ ∧ b < B ∧ L[i]? = some v ∧ (∀ j, j < 10 → w.cell? ⟨b, o + (i * 10 + j), none⟩ = (q.cells v)[j]?) ∧ ExAt w B v q := by
  have hn := h.1
  rw [List.length_map] at hn
  obtain ⟨b, o, cc, e1, e2, _, e3, e4⟩ := LAt.elem h i (by rw [List.length_map]; omega)
  rw [List.getElem_map] at e4
  obtain ⟨q, rfl, e5⟩ := e4.toEx
  exact ⟨b, o, L[i]'(by omega), q, e1, e2, List.getElem?_eq_getElem (by omega), e3, e5⟩
structure AcAt (w : World) (B : Nat) (v : Ac) (q : QAc) : Prop where
  kind : (Lit.int .u8 v.kind).wf = true
  name : v.name.size ≤ 140737488355328
  expr : ExAt w B v.expr q.expr
theorem AcAt.kept {w w' : World} {B : Nat} {v : Ac} {q : QAc} (h : AcAt w B v q) (hb : Below B w w') : AcAt w' B v q := ⟨h.kind, h.name, h.expr.kept hb⟩
theorem AcAt.mono {w : World} {B B' : Nat} {v : Ac} {q : QAc} (h : AcAt w B v q) (hb : B ≤ B') : AcAt w B' v q := ⟨h.kind, h.name, h.expr.mono hb⟩
theorem At.toAc {w : World} {B : Nat} {v : Ac} {cs : List Value} (h : At w B v.tr cs) : ∃ q : QAc, cs = q.cells v ∧ AcAt w B v q := by
  rw [Ac.tr_eq] at h
  obtain ⟨_, _, rfl, h0, h⟩ := h.cons_inv
  obtain ⟨_, _, rfl, h1, h⟩ := h.cons_inv
  obtain ⟨_, _, rfl, h2, h⟩ := h.cons_inv
  obtain rfl := h.nil_inv
  obtain ⟨rfl, g0⟩ := h0.int_inv
  obtain ⟨rfl, g1⟩ := h1.txt_inv
  obtain ⟨q2, rfl, g2⟩ := h2.toEx
  exact ⟨⟨q2⟩, by simp [QAc.cells, QEx.cells], g0, g1, g2⟩
theorem AcLs.elem {w : World} {B n : Nat} {L : List Ac} {a : Option Addr} (h : AcLs w B L a n) (i : Nat) (hi : i < n) : ∃ (b o : Nat) (v : Ac) (q : QAc), a = some ⟨b, o, none⟩ ∧ b < B ∧ L[i]? = some v ∧ (∀ j, j < 12 → w.cell? ⟨b, o + (i * 12 + j), none⟩ = (q.cells v)[j]?) ∧ AcAt w B v q := by
  have hn := h.1
  rw [List.length_map] at hn
  obtain ⟨b, o, cc, e1, e2, _, e3, e4⟩ := LAt.elem h i (by rw [List.length_map]; omega)
  rw [List.getElem_map] at e4
  obtain ⟨q, rfl, e5⟩ := e4.toAc
  exact ⟨b, o, L[i]'(by omega), q, e1, e2, List.getElem?_eq_getElem (by omega), e3, e5⟩
structure StAt (w : World) (B : Nat) (v : St) (q : QSt) : Prop where
  kind : (Lit.int .u8 v.kind).wf = true
  name : v.name.size ≤ 140737488355328
  ctx : v.ctx.size ≤ 140737488355328
  expr : ExAt w B v.expr q.expr
  deps : ExLs w B v.deps q.depsa q.depsn
  dos : AcLs w B v.dos q.dosa q.dosn
  undo : AcLs w B v.undo q.undoa q.undon
  body : StLs w B v.body q.bodya q.bodyn
theorem StAt.kept {w w' : World} {B : Nat} {v : St} {q : QSt} (h : StAt w B v q) (hb : Below B w w') : StAt w' B v q := ⟨h.kind, h.name, h.ctx, h.expr.kept hb, h.deps.kept hb, h.dos.kept hb, h.undo.kept hb, h.body.kept hb⟩
theorem StAt.mono {w : World} {B B' : Nat} {v : St} {q : QSt} (h : StAt w B v q) (hb : B ≤ B') : StAt w B' v q := ⟨h.kind, h.name, h.ctx, h.expr.mono hb, h.deps.mono hb, h.dos.mono hb, h.undo.mono hb, h.body.mono hb⟩
theorem At.toSt {w : World} {B : Nat} {v : St} {cs : List Value} (h : At w B v.tr cs) : ∃ q : QSt, cs = q.cells v ∧ StAt w B v q := by
  rw [St.tr_eq] at h
  obtain ⟨_, _, rfl, h0, h⟩ := h.cons_inv
  obtain ⟨_, _, rfl, h1, h⟩ := h.cons_inv
  obtain ⟨_, _, rfl, h2, h⟩ := h.cons_inv
  obtain ⟨_, _, rfl, h3, h⟩ := h.cons_inv
  obtain ⟨_, _, rfl, h4, h⟩ := h.cons_inv
  obtain ⟨_, _, rfl, h5, h⟩ := h.cons_inv
  obtain ⟨_, _, rfl, h6, h⟩ := h.cons_inv
  obtain ⟨_, _, rfl, h7, h⟩ := h.cons_inv
  obtain rfl := h.nil_inv
  obtain ⟨rfl, g0⟩ := h0.int_inv
  obtain ⟨rfl, g1⟩ := h1.txt_inv
  obtain ⟨rfl, g2⟩ := h2.txt_inv
  obtain ⟨q3, rfl, g3⟩ := h3.toEx
  obtain ⟨a4, c4, rfl, g4⟩ := h4.lst_inv
  obtain ⟨a5, c5, rfl, g5⟩ := h5.lst_inv
  obtain ⟨a6, c6, rfl, g6⟩ := h6.lst_inv
  obtain ⟨a7, c7, rfl, g7⟩ := h7.lst_inv
  exact ⟨⟨q3, a4, _, c4, a5, _, c5, a6, _, c6, a7, _, c7⟩, by simp [QSt.cells, QEx.cells], g0, g1, g2, g3, g4, g5, g6, g7⟩
theorem StLs.elem {w : World} {B n : Nat} {L : List St} {a : Option Addr} (h : StLs w B L a n) (i : Nat) (hi : i < n) : ∃ (b o : Nat) (v : St) (q : QSt), a = some ⟨b, o, none⟩ ∧ b < B ∧ L[i]? = some v ∧ (∀ j, j < 17 → w.cell? ⟨b, o + (i * 17 + j), none⟩ = (q.cells v)[j]?) ∧ StAt w B v q := by
  have hn := h.1
  rw [List.length_map] at hn
  obtain ⟨b, o, cc, e1, e2, _, e3, e4⟩ := LAt.elem h i (by rw [List.length_map]; omega)
  rw [List.getElem_map] at e4
  obtain ⟨q, rfl, e5⟩ := e4.toSt
  exact ⟨b, o, L[i]'(by omega), q, e1, e2, List.getElem?_eq_getElem (by omega), e3, e5⟩
structure CoAt (w : World) (B : Nat) (v : Co) (q : QCo) : Prop where
  name : v.name.size ≤ 140737488355328
  param : v.param.size ≤ 140737488355328
  body : StLs w B v.body q.bodya q.bodyn
  out : ExAt w B v.out q.out
theorem CoAt.kept {w w' : World} {B : Nat} {v : Co} {q : QCo} (h : CoAt w B v q) (hb : Below B w w') : CoAt w' B v q := ⟨h.name, h.param, h.body.kept hb, h.out.kept hb⟩
theorem CoAt.mono {w : World} {B B' : Nat} {v : Co} {q : QCo} (h : CoAt w B v q) (hb : B ≤ B') : CoAt w B' v q := ⟨h.name, h.param, h.body.mono hb, h.out.mono hb⟩
theorem At.toCo {w : World} {B : Nat} {v : Co} {cs : List Value} (h : At w B v.tr cs) : ∃ q : QCo, cs = q.cells v ∧ CoAt w B v q := by
  rw [Co.tr_eq] at h
  obtain ⟨_, _, rfl, h0, h⟩ := h.cons_inv
  obtain ⟨_, _, rfl, h1, h⟩ := h.cons_inv
  obtain ⟨_, _, rfl, h2, h⟩ := h.cons_inv
  obtain ⟨_, _, rfl, h3, h⟩ := h.cons_inv
  obtain rfl := h.nil_inv
  obtain ⟨rfl, g0⟩ := h0.txt_inv
  obtain ⟨rfl, g1⟩ := h1.txt_inv
  obtain ⟨a2, c2, rfl, g2⟩ := h2.lst_inv
  obtain ⟨q3, rfl, g3⟩ := h3.toEx
  exact ⟨⟨a2, _, c2, q3⟩, by simp [QCo.cells, QEx.cells], g0, g1, g2, g3⟩
theorem CoLs.elem {w : World} {B n : Nat} {L : List Co} {a : Option Addr} (h : CoLs w B L a n) (i : Nat) (hi : i < n) : ∃ (b o : Nat) (v : Co) (q : QCo), a = some ⟨b, o, none⟩ ∧ b < B ∧ L[i]? = some v ∧ (∀ j, j < 13 → w.cell? ⟨b, o + (i * 13 + j), none⟩ = (q.cells v)[j]?) ∧ CoAt w B v q := by
  have hn := h.1
  rw [List.length_map] at hn
  obtain ⟨b, o, cc, e1, e2, _, e3, e4⟩ := LAt.elem h i (by rw [List.length_map]; omega)
  rw [List.getElem_map] at e4
  obtain ⟨q, rfl, e5⟩ := e4.toCo
  exact ⟨b, o, L[i]'(by omega), q, e1, e2, List.getElem?_eq_getElem (by omega), e3, e5⟩
theorem Ex.both {P : Ex → Prop} {Q : Ac → Prop} (h : ∀ v : Ex, (∀ x ∈ v.args, P x) → (∀ x ∈ v.vals, P x) → (∀ x ∈ v.key, P x) → (∀ x ∈ v.acts, Q x) → P v) (k : ∀ v : Ac, P v.expr → Q v) (v : Ex) : P v :=
  Ex.rec (motive_1 := P) (motive_2 := Q) (motive_3 := fun L => ∀ x ∈ L, P x) (motive_4 := fun L => ∀ x ∈ L, Q x)
    (fun a b c d e f g i j l h1 h2 h3 h4 => h (.mk a b c d e f g i j l) h1 h2 h3 h4) (fun a b c h1 => k (.mk a b c) h1) (fun x hx => by cases hx)
    (fun a l ha hl x hx => (List.mem_cons.1 hx).elim (fun e => e ▸ ha) (hl x)) (fun x hx => by cases hx)
    (fun a l ha hl x hx => (List.mem_cons.1 hx).elim (fun e => e ▸ ha) (hl x)) v
theorem St.ind {P : St → Prop} (h : ∀ v : St, (∀ x ∈ v.body, P x) → P v) (v : St) : P v :=
  St.rec (motive_1 := P) (motive_2 := fun L => ∀ x ∈ L, P x) (fun a b c d e f g i h1 => h (.mk a b c d e f g i) h1) (fun x hx => by cases hx)
    (fun a l ha hl x hx => (List.mem_cons.1 hx).elim (fun e => e ▸ ha) (hl x)) v
theorem LAt.len {w : World} {B K n : Nat} {es : List T} {a : Option Addr} (h : LAt w B K es a n) : n = es.length ∧ n ≤ 1152921504606846976 := ⟨h.1, h.2.1⟩
theorem drew_low (w : World) : Below w.heap.size w w.drew := (Below.refl _ _).drew

structure LowW (W : World) where
  w : World
  low : Below W.heap.size W w
instance (W : World) : Inhabited (LowW W) := ⟨⟨W, Below.refl _ _⟩⟩
theorem LowW.cell {W : World} (d : LowW W) {p : Addr} (h : p.block < W.heap.size) : d.w.cell? p = W.cell? p := d.low.cell h
theorem LowW.more {W : World} (d : LowW W) {w' : World} (h : Below d.w.heap.size d.w w') : ∃ d' : LowW W, w' = d'.w := ⟨⟨w', d.low.trans (h.mono d.low.size)⟩, rfl⟩
theorem wp_region_low {P : Program} {W : World} {id : Nat} {Q : Exit → Act → World → Prop} {a : Act} {l : List Oper} (hm : P.follows .mixedOrders = true) (hB : Region.lexB .any l.toArray = true)
    (h : wpQuiet P l.toArray (fun w' => ∃ d : LowW W, w' = d.w) (fun a' => ∀ w', (∃ d : LowW W, w' = d.w) → Q .normal a' w') l a) : (Code.region id l.toArray true).wp P Q a W :=
  wp_region_quiet (C := fun w' => ∃ d : LowW W, w' = d.w) hm hB ⟨⟨{ W with drawn := W.drawn + 1 }, drew_low W⟩, rfl⟩ (by simpa using h)
end Go.Proofs.YtlppklbmdedipaaGreatDoor
