/- Trees of data: what they are, how they lie in memory, and how they lie in memory of their own. -/
import Derived.Test.YtehcbicngbibgaaGreatDoorProg
import Derived.WalkKit
import Derived.WalkSpells
import Derived.WalkLawsBesides
import Derived.BigQuiet
import Derived.Deep.QuietTactic
import Derived.Deep.LoopGhost
import Derived.Lib.Hide
import Derived.Lib.OthersKept
import Derived.Laws.OwnMore
namespace Go.Proofs.YtehcbicngbibgaaGreatDoor
open Go Go.RowKit

/-- Any plain data. -/
inductive T where
  | int (k : IntKind) (n : Int)
  | txt (s : ByteArray)
  | yes (b : Bool)
  | obj (ps : List T)
  | lst (E K : Nat) (es : List T)

/-- A tree at w, in blocks below B. -/
inductive At (w : World) (B : Nat) : T → List Value → Prop
  | int (k : IntKind) (n : Int) (h : (Lit.int k n).wf = true) : At w B (.int k n) [.int k n]
  | txt (s : ByteArray) (h : s.size ≤ 140737488355328) : At w B (.txt s) [.string s]
  | yes (b : Bool) : At w B (.yes b) [.bool b]
  | nil : At w B (.obj []) []
  | cons (p : T) (ps : List T) (c cs : List Value) (h1 : At w B p c) (h2 : At w B (.obj ps) cs) : At w B (.obj (p :: ps)) (c ++ cs)
  | lst (E K : Nat) (ao : Option Addr) (b o cap : Nat) (es : List T) (cc : Nat → List Value) (hn : es.length ≤ 1152921504606846976) (hao : 0 < es.length → ao = some ⟨b, o, none⟩ ∧ b < B)
      (hc : ∀ i, i < es.length → (cc i).length = K ∧ ∀ j, j < K → w.cell? ⟨b, o + (i * K + j), none⟩ = (cc i)[j]?) (he : ∀ (i : Nat) (h : i < es.length), At w B es[i] (cc i)) : At w B (.lst E K es) [.slice ao es.length cap]
theorem At.kept {w w' : World} {B : Nat} {t : T} {cs : List Value} (h : At w B t cs) (hb : Below B w w') : At w' B t cs := by
  induction h with
  | int k n h => exact .int k n h
  | txt s h => exact .txt s h
  | yes b => exact .yes b
  | nil => exact .nil
  | cons p ps c cs _ _ ih1 ih2 => exact .cons p ps c cs ih1 ih2
  | lst E K ao b o cap es cc hn hao hc he ih => exact .lst E K ao b o cap es cc hn hao (fun i hi => ⟨(hc i hi).1, fun j hj => (hb.cell (p := ⟨b, o + (i * K + j), none⟩) (hao (by omega)).2).trans ((hc i hi).2 j hj)⟩) ih
theorem At.mono {w : World} {B B' : Nat} {t : T} {cs : List Value} (h : At w B t cs) (hB : B ≤ B') : At w B' t cs := by
  induction h with
  | int k n h => exact .int k n h
  | txt s h => exact .txt s h
  | yes b => exact .yes b
  | nil => exact .nil
  | cons p ps c cs _ _ ih1 ih2 => exact .cons p ps c cs ih1 ih2
  | lst E K ao b o cap es cc hn hao hc he ih => exact .lst E K ao b o cap es cc hn (fun h0 => ⟨(hao h0).1, Nat.lt_of_lt_of_le (hao h0).2 hB⟩) hc ih
theorem At.later {w w' : World} {t : T} {cs : List Value} (h : At w w.heap.size t cs) (hb : Below w.heap.size w w') : At w' w'.heap.size t cs := (h.kept hb).mono hb.size

/-- A list of them. -/
def LAt (w : World) (B K : Nat) (es : List T) (ao : Option Addr) (n : Nat) : Prop :=
  n = es.length ∧ n ≤ 1152921504606846976 ∧ ∃ (b o : Nat) (cc : Nat → List Value), (0 < n → ao = some ⟨b, o, none⟩ ∧ b < B) ∧
    (∀ i, i < n → (cc i).length = K ∧ ∀ j, j < K → w.cell? ⟨b, o + (i * K + j), none⟩ = (cc i)[j]?) ∧ ∀ (i : Nat) (h : i < es.length), At w B es[i] (cc i)
theorem LAt.kept {w w' : World} {B K n : Nat} {es : List T} {ao : Option Addr} (h : LAt w B K es ao n) (hb : Below B w w') : LAt w' B K es ao n := by
  obtain ⟨h1, h2, b, o, cc, h3, h4, h5⟩ := h
  exact ⟨h1, h2, b, o, cc, h3, fun i hi => ⟨(h4 i hi).1, fun j hj => (hb.cell (p := ⟨b, o + (i * K + j), none⟩) (h3 (by omega)).2).trans ((h4 i hi).2 j hj)⟩, fun i hi => (h5 i hi).kept hb⟩
theorem LAt.mono {w : World} {B B' K n : Nat} {es : List T} {ao : Option Addr} (h : LAt w B K es ao n) (hB : B ≤ B') : LAt w B' K es ao n := by
  obtain ⟨h1, h2, b, o, cc, h3, h4, h5⟩ := h
  exact ⟨h1, h2, b, o, cc, fun h0 => ⟨(h3 h0).1, Nat.lt_of_lt_of_le (h3 h0).2 hB⟩, h4, fun i hi => (h5 i hi).mono hB⟩
theorem LAt.later {w w' : World} {K n : Nat} {es : List T} {ao : Option Addr} (h : LAt w w.heap.size K es ao n) (hb : Below w.heap.size w w') : LAt w' w'.heap.size K es ao n := (h.kept hb).mono hb.size
theorem LAt.elem {w : World} {B K n : Nat} {es : List T} {ao : Option Addr} (h : LAt w B K es ao n) (i : Nat) (hi : i < es.length) :
    ∃ (b o : Nat) (cc : List Value), ao = some ⟨b, o, none⟩ ∧ b < B ∧ cc.length = K ∧ (∀ j, j < K → w.cell? ⟨b, o + (i * K + j), none⟩ = cc[j]?) ∧ At w B es[i] cc := by
  obtain ⟨h1, h2, b, o, cc, h3, h4, h5⟩ := h
  obtain ⟨g1, g2⟩ := h3 (by omega)
  exact ⟨b, o, cc i, g1, g2, (h4 i (by omega)).1, (h4 i (by omega)).2, h5 i hi⟩
theorem LAt.at {w : World} {B K n cap : Nat} {es : List T} {ao : Option Addr} (E : Nat) (h : LAt w B K es ao n) : At w B (.lst E K es) [.slice ao n cap] := by
  obtain ⟨h1, h2, b, o, cc, h3, h4, h5⟩ := h
  subst h1
  exact .lst E K ao b o cap es cc h2 h3 h4 h5
theorem LAt.none (w : World) (B K : Nat) : LAt w B K [] .none 0 := ⟨rfl, by omega, 0, 0, fun _ => [], fun h => by omega, fun i h => by omega, fun i h => by simp at h⟩
theorem At.lst_inv {w : World} {B E K : Nat} {es : List T} {cs : List Value} (h : At w B (.lst E K es) cs) : ∃ ao cap, cs = [.slice ao es.length cap] ∧ LAt w B K es ao es.length := by
  cases h with
  | lst _ _ ao b o cap _ cc hn hao hc he => exact ⟨ao, cap, rfl, rfl, hn, b, o, cc, hao, hc, he⟩
theorem At.int_inv {w : World} {B : Nat} {k : IntKind} {n : Int} {cs : List Value} (h : At w B (.int k n) cs) : cs = [.int k n] ∧ (Lit.int k n).wf = true := by
  cases h with
  | int _ _ h => exact ⟨rfl, h⟩
theorem At.txt_inv {w : World} {B : Nat} {s : ByteArray} {cs : List Value} (h : At w B (.txt s) cs) : cs = [.string s] ∧ s.size ≤ 140737488355328 := by
  cases h with
  | txt _ h => exact ⟨rfl, h⟩
theorem At.yes_inv {w : World} {B : Nat} {b : Bool} {cs : List Value} (h : At w B (.yes b) cs) : cs = [.bool b] := by
  cases h with
  | yes _ => rfl
theorem At.nil_inv {w : World} {B : Nat} {cs : List Value} (h : At w B (.obj []) cs) : cs = [] := by
  cases h with
  | nil => rfl
theorem At.cons_inv {w : World} {B : Nat} {p : T} {ps : List T} {cs : List Value} (h : At w B (.obj (p :: ps)) cs) : ∃ c c', cs = c ++ c' ∧ At w B p c ∧ At w B (.obj ps) c' := by
  cases h with
  | cons _ _ c c' h1 h2 => exact ⟨c, c', rfl, h1, h2⟩

/-- A list's row: its elements' type and size, the list, how many. -/
structure Row where
  E : Nat
  K : Nat
  v : Value
  n : Nat
/-- The cells of the mark behind a list. -/
def Behind (w : World) (mk : Nat → List Value) (E K n : Nat) (v : Value) : Prop := ∃ g cap, v = .slice (some ⟨g, 0, none⟩) n cap ∧ n < cap ∧ (mk E).length = K ∧ ∀ j, j < K → w.cell? ⟨g, n * K + j, none⟩ = (mk E)[j]?
/-- Is there a mark behind each list; below which bound may parts lie that are shared. -/
structure Mode where
  sp : Bool
  sh : Option Nat
abbrev twinM : Mode := ⟨true, none⟩
abbrev ownM : Mode := ⟨false, none⟩
abbrev mixM (lo : Nat) : Mode := ⟨false, some lo⟩
/-- A tree in memory of its own, from block base on: R are all its lists' rows; where the mode says so, behind each a mark; or shared with what lies below a bound. -/
inductive Own (w : World) (base : Nat) (m : Mode) (mk : Nat → List Value) : T → List Value → List Row → Prop
  | int (k : IntKind) (n : Int) (h : (Lit.int k n).wf = true) : Own w base m mk (.int k n) [.int k n] []
  | txt (s : ByteArray) (h : s.size ≤ 140737488355328) : Own w base m mk (.txt s) [.string s] []
  | yes (b : Bool) : Own w base m mk (.yes b) [.bool b] []
  | nil : Own w base m mk (.obj []) [] []
  | old (t : T) (cs : List Value) (lo : Nat) (hlo : lo ≤ w.heap.size) (hm : m.sh = some lo) (h : At w lo t cs) : Own w base m mk t cs []
  | cons (p : T) (ps : List T) (c cs : List Value) (R R' : List Row) (h1 : Own w base m mk p c R) (h2 : Own w base m mk (.obj ps) cs R') : Own w base m mk (.obj (p :: ps)) (c ++ cs) (R ++ R')
  | lst (E K : Nat) (v : Value) (es : List T) (xs : List Value) (cc : Nat → List Value) (RR : Nat → List Row) (hn : es.length ≤ 1152921504606846976) (ho : w.ownsRow base E K v es.length xs)
      (hc : ∀ i, i < es.length → (cc i).length = K ∧ ∀ j, j < K → xs[i * K + j]? = (cc i)[j]?) (he : ∀ (i : Nat) (h : i < es.length), Own w base m mk es[i] (cc i) (RR i)) (hs : m.sp = true → Behind w mk E K es.length v) :
      Own w base m mk (.lst E K es) [v] (((List.range es.length).flatMap RR) ++ [⟨E, K, v, es.length⟩])
def T.flat : T → Bool
  | .obj _ => false
  | _ => true
def T.leaf : T → Bool
  | .int _ _ => true
  | .txt _ => true
  | .yes _ => true
  | _ => false
theorem Own.cons_inv {w : World} {base : Nat} {m : Mode} {mk : Nat → List Value} {p : T} {ps : List T} {cs : List Value} {R : List Row} (h : Own w base m mk (.obj (p :: ps)) cs R) :
    ∃ c c' R1 R2, cs = c ++ c' ∧ R = R1 ++ R2 ∧ Own w base m mk p c R1 ∧ Own w base m mk (.obj ps) c' R2 := by
  cases h with
  | cons _ _ c c' R1 R2 h1 h2 => exact ⟨c, c', R1, R2, rfl, rfl, h1, h2⟩
  | old _ _ lo hlo hm h =>
    obtain ⟨c, c', rfl, h1, h2⟩ := h.cons_inv
    exact ⟨c, c', [], [], rfl, rfl, .old _ _ lo hlo hm h1, .old _ _ lo hlo hm h2⟩
theorem Own.one_inv {w : World} {base : Nat} {m : Mode} {mk : Nat → List Value} {t : T} {cs : List Value} {R : List Row} (h : Own w base m mk t cs R) (ht : t.flat = true) : cs.length = 1 := by
  cases h with
  | int | txt | yes | lst => rfl
  | nil | cons => cases ht
  | old _ _ lo hlo hm h =>
    cases h with
    | int | txt | yes | lst => rfl
    | nil | cons => cases ht
theorem Own.leaf_rows {w : World} {base : Nat} {m : Mode} {mk : Nat → List Value} {t : T} {cs : List Value} {R : List Row} (h : Own w base m mk t cs R) (ht : t.leaf = true) : R = [] := by
  cases h with
  | int | txt | yes => rfl
  | nil | cons | lst => cases ht
  | old => rfl
theorem Own.nil_rows {w : World} {base : Nat} {m : Mode} {mk : Nat → List Value} {cs : List Value} {R : List Row} (h : Own w base m mk (.obj []) cs R) : cs = [] ∧ R = [] := by
  cases h with
  | nil => exact ⟨rfl, rfl⟩
  | old _ _ lo hlo hm h => exact ⟨h.nil_inv, rfl⟩
/-- The first cell of an object whose first part is one cell. -/
theorem Own.head_inv {w : World} {base : Nat} {m : Mode} {mk : Nat → List Value} {p : T} {ps : List T} {c : Value} {cs : List Value} {R : List Row} (h : Own w base m mk (.obj (p :: ps)) (c :: cs) R) (hp : p.flat = true) :
    ∃ R1 R2, R = R1 ++ R2 ∧ Own w base m mk p [c] R1 ∧ Own w base m mk (.obj ps) cs R2 := by
  obtain ⟨c1, c2, R1, R2, e, e2, h1, h2⟩ := h.cons_inv
  have hl := h1.one_inv hp
  match c1, hl with
  | [x], _ =>
    simp at e
    obtain ⟨rfl, rfl⟩ := e
    exact ⟨R1, R2, e2, h1, h2⟩
/-- No two rows are of one block. -/
def Apart (R : List Row) : Prop := R.Pairwise fun a b => ∀ k, a.v.ownBlock = some k → b.v.ownBlock ≠ some k
/-- All rows are at or above lo, below hi. -/
def Within (lo hi : Nat) (R : List Row) : Prop := ∀ r ∈ R, ∀ k, r.v.ownBlock = some k → lo ≤ k ∧ k < hi
theorem Within.mono {a b c d : Nat} {R : List Row} (h : Within a b R) (h1 : c ≤ a) (h2 : b ≤ d) : Within c d R := fun r hr k hk => ⟨Nat.le_trans h1 (h r hr k hk).1, Nat.lt_of_lt_of_le (h r hr k hk).2 h2⟩
theorem Within.append {a b : Nat} {R S : List Row} (h : Within a b R) (k : Within a b S) : Within a b (R ++ S) := fun r hr => (List.mem_append.1 hr).elim (h r) (k r)
theorem Within.nil (a b : Nat) : Within a b [] := fun r hr => by cases hr
theorem Apart.nil : Apart [] := List.Pairwise.nil
theorem Apart.append {R S : List Row} {a b c : Nat} (h : Apart R) (k : Apart S) (hR : Within a b R) (hS : Within b c S) : Apart (R ++ S) := by
  unfold Apart
  rw [List.pairwise_append]
  exact ⟨h, k, fun x hx y hy q hq e => by have := (hR x hx q hq).2; have := (hS y hy q e).1; omega⟩
theorem Own.within {w : World} {base : Nat} {m : Mode} {mk : Nat → List Value} {t : T} {cs : List Value} {R : List Row} (h : Own w base m mk t cs R) : Within base w.heap.size R := by
  induction h with
  | int | txt | yes | nil | old => exact Within.nil _ _
  | cons p ps c cs R R' _ _ ih1 ih2 => exact ih1.append ih2
  | lst E K v es xs cc RR hn ho hc he hs ih =>
    refine Within.append (fun r hr => ?_) (fun r hr => ?_)
    · obtain ⟨i, hi, hr⟩ := List.mem_flatMap.1 hr
      exact ih i (by simpa using hi) r hr
    · simp at hr; subst hr; exact ho.lt
/-- It is a tree in memory. -/
theorem Own.at {w : World} {base : Nat} {m : Mode} {mk : Nat → List Value} {t : T} {cs : List Value} {R : List Row} (h : Own w base m mk t cs R) : At w w.heap.size t cs := by
  induction h with
  | int k n h => exact .int k n h
  | txt s h => exact .txt s h
  | yes b => exact .yes b
  | nil => exact .nil
  | old t cs lo hlo hm h => exact h.mono hlo
  | cons p ps c cs R R' _ _ ih1 ih2 => exact .cons p ps c cs ih1 ih2
  | lst E K v es xs cc RR hn ho hc he hs ih =>
    rcases ho.2 with ⟨rfl, h0⟩ | ⟨g, cap, cur, rfl, _, hg, _⟩
    · have : LAt w w.heap.size K es .none es.length := ⟨rfl, hn, 0, 0, cc, fun h => by omega, fun i hi => by omega, ih⟩
      have h9 := this.at (cap := 0) E
      rw [h0] at h9
      exact h9
    · refine .lst E K (some ⟨g, 0, none⟩) g 0 cap es cc hn (fun _ => ⟨rfl, (ho.lt g rfl).2⟩) (fun i hi => ⟨(hc i hi).1, fun j hj => ?_⟩) ih
      rw [Nat.zero_add, ho.cellAt (i * K + j) ?_]
      · exact (hc i hi).2 j hj
      · calc i * K + j < i * K + K := by omega
          _ = (i + 1) * K := by rw [Nat.add_mul]; simp
          _ ≤ es.length * K := Nat.mul_le_mul_right K hi
theorem Behind.kept {w w' : World} {mk : Nat → List Value} {E K n : Nat} {v : Value} {row : Option Nat} (h : Behind w mk E K n v) (hg : w.grownBy w' row) (hlt : ∀ k, v.ownBlock = some k → k < w.heap.size) (hne : v.ownBlock ≠ row) : Behind w' mk E K n v := by
  obtain ⟨g, cap, rfl, h1, h2, h3⟩ := h
  exact ⟨g, cap, rfl, h1, h2, fun j hj => (World.cell?_of_block (a := ⟨g, n * K + j, none⟩) (hg.block g (hlt g rfl) (fun e => hne e))).trans (h3 j hj)⟩
/-- What is written elsewhere leaves it. -/
theorem Own.kept {w w' : World} {base : Nat} {m : Mode} {mk : Nat → List Value} {t : T} {cs : List Value} {R : List Row} {row : Option Nat} (h : Own w base m mk t cs R) (hg : w.grownBy w' row) (hne : ∀ r ∈ R, ∀ k, r.v.ownBlock = some k → row ≠ some k) (hlow : ∀ lo, m.sh = some lo → ∀ k, row = some k → lo ≤ k := by intro _ h; cases h) : Own w' base m mk t cs R := by
  induction h with
  | int k n h => exact .int k n h
  | txt s h => exact .txt s h
  | yes b => exact .yes b
  | nil => exact .nil
  | old t cs lo hlo hm h => exact .old t cs lo (Nat.le_trans hlo hg.size) hm (h.kept ⟨hg.os, hg.tape, hg.output, hg.size, fun k hk => hg.block k (by omega) (fun e => by have := hlow lo hm k e.symm; omega)⟩)
  | cons p ps c cs R R' _ _ ih1 ih2 => exact .cons p ps c cs R R' (ih1 fun r hr => hne r (List.mem_append_left _ hr)) (ih2 fun r hr => hne r (List.mem_append_right _ hr))
  | lst E K v es xs cc RR hn ho hc he hs ih =>
    have hv := hne ⟨E, K, v, es.length⟩ (List.mem_append_right _ (by simp))
    have hv2 : v.ownBlock = none ∨ v.ownBlock ≠ row := by
      cases e : v.ownBlock with
      | none => exact .inl rfl
      | some k => exact .inr (fun e2 => hv k e e2.symm)
    refine .lst E K v es xs cc RR hn (ho.kept hg hv2) hc (fun i hi => ih i hi fun r hr => hne r (List.mem_append_left _ (List.mem_flatMap.2 ⟨i, by simpa using hi, hr⟩))) (fun h0 => ?_)
    have hb := hs h0
    refine hb.kept hg (fun k hk => (ho.lt k hk).2) (hv2.resolve_left ?_)
    obtain ⟨g, cap, rfl, _⟩ := hb
    simp [Value.ownBlock]
theorem grown_none {a b : World} (h : Below a.heap.size a b) : a.grownBy b none := ⟨h.os, h.tape, h.output, h.size, fun k hk _ => h.block k hk⟩
theorem Own.later {w w' : World} {base : Nat} {m : Mode} {mk : Nat → List Value} {t : T} {cs : List Value} {R : List Row} (h : Own w base m mk t cs R) (hb : Below w.heap.size w w') : Own w' base m mk t cs R := h.kept (grown_none hb) (fun _ _ _ _ => by simp) (fun _ _ _ e => by cases e)
theorem Own.base {w : World} {base base' : Nat} {m : Mode} {mk : Nat → List Value} {t : T} {cs : List Value} {R : List Row} (h : Own w base m mk t cs R) (hb : base' ≤ base) : Own w base' m mk t cs R := by
  induction h with
  | int k n h => exact .int k n h
  | txt s h => exact .txt s h
  | yes b => exact .yes b
  | nil => exact .nil
  | old t cs lo hlo hm h => exact .old t cs lo hlo hm h
  | cons p ps c cs R R' _ _ ih1 ih2 => exact .cons p ps c cs R R' ih1 ih2
  | lst E K v es xs cc RR hn ho hc he hs ih =>
    refine .lst E K v es xs cc RR hn ⟨ho.1, ho.2.imp id ?_⟩ hc ih hs
    rintro ⟨g, cap, cur, e1, e2, e3⟩
    exact ⟨g, cap, cur, e1, Nat.le_trans hb e2, e3⟩
/-- Each row owns its cells. -/
theorem Own.rows {w : World} {base : Nat} {m : Mode} {mk : Nat → List Value} {t : T} {cs : List Value} {R : List Row} (h : Own w base m mk t cs R) : ∀ r ∈ R, ∃ xs, w.ownsRow base r.E r.K r.v r.n xs := by
  induction h with
  | int | txt | yes | nil | old => intro r hr; cases hr
  | cons p ps c cs R R' _ _ ih1 ih2 => exact fun r hr => (List.mem_append.1 hr).elim (ih1 r) (ih2 r)
  | lst E K v es xs cc RR hn ho hc he hs ih =>
    intro r hr
    rcases List.mem_append.1 hr with hr | hr
    · obtain ⟨i, hi, hr⟩ := List.mem_flatMap.1 hr
      exact ih i (by simpa using hi) r hr
    · simp at hr; subst hr; exact ⟨xs, ho⟩
end Go.Proofs.YtehcbicngbibgaaGreatDoor
