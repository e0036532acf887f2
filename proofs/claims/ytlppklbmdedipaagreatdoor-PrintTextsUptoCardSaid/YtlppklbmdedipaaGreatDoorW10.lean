/- PrintTexts, part 10. -/
import Derived.Test.YtlppklbmdedipaaGreatDoorW02
import Derived.Test.YtlppklbmdedipaaGreatDoorW05
import Derived.Test.YtlppklbmdedipaaGreatDoorW08
import Derived.Test.YtlppklbmdedipaaGreatDoorW09
import Derived.Maps.AppendAt
import Derived.Deep.QuietTactic
import Derived.Lib.Builder
import Derived.Lib.AppendStr
import Derived.Lib.UnsafeStr
import Derived.Laws.Externs
namespace Go.Proofs.YtlppklbmdedipaaGreatDoor
open Go Go.RowKit
set_option maxHeartbeats 8000000
set_option maxRecDepth 100000

abbrev Bx := List (Nat × Obj)
structure Kit (w0 : World) (B : Nat) (T : TypeId) (b : Nat) (C : Value → Array Value → Prop) (l : List UInt8) (bx : Bx) (w : World) : Prop where
 ex : ∃ v cs, C v cs ∧ w.heap[b]? = some (.cells cs T (0, 0)) ∧ w.ownsRow B 5 1 v l.length (Lib.byteCells l) ∧ v.ownBlock ≠ some b ∧ ∀ x ∈ bx, x.1 < w.heap.size ∧ B ≤ x.1 ∧ x.1 ≠ b ∧ some x.1 ≠ v.ownBlock ∧ w.heap[x.1]? = some x.2
 pw : bx.Pairwise fun x y => x.1 ≠ y.1
 le : B ≤ b
 low : Below B w0 w
 sz : B ≤ w0.heap.size
 env : Lx.Env w0
 und : Lx.EnvUnder B
section
variable {w0 : World} {B : Nat} {T : TypeId} {b : Nat} {C : Value → Array Value → Prop} {l : List UInt8} {bx : Bx} {w : World}
theorem Kit.lt (h : Kit w0 B T b C l bx w) : b < w.heap.size := by
 obtain ⟨_, _, _, h1, _⟩ := h.ex
 exact (Array.getElem?_eq_some_iff.1 h1).1
theorem Kit.size (h : Kit w0 B T b C l bx w) : B ≤ w.heap.size := Nat.le_trans h.sz h.low.size
theorem Kit.box (h : Kit w0 B T b C l bx w) {k : Nat} {o : Obj} (hx : (k, o) ∈ bx) : w.heap[k]? = some o := by
 obtain ⟨_, _, _, _, _, _, h1⟩ := h.ex
 exact (h1 (k, o) hx).2.2.2.2
theorem Kit.boxlt (h : Kit w0 B T b C l bx w) {k : Nat} {o : Obj} (hx : (k, o) ∈ bx) : k < w.heap.size ∧ B ≤ k := by
 obtain ⟨_, _, _, _, _, _, h1⟩ := h.ex
 exact ⟨(h1 (k, o) hx).1, (h1 (k, o) hx).2.1⟩
theorem Kit.envw (h : Kit w0 B T b C l bx w) : Lx.Env w := h.env.below h.low h.und
theorem Kit.below (h : Kit w0 B T b C l bx w) {w' : World} (hb : Below w.heap.size w w') : Kit w0 B T b C l bx w' := by
 have hlt := h.lt
 have hsz := h.size
 obtain ⟨v, cs, h1, h2, h3, h4, h5⟩ := h.ex
 refine ⟨⟨v, cs, h1, (hb.block b hlt).trans h2, h3.kept (grown_none hb) (Classical.em _), h4, fun x hx => ?_⟩, h.pw, h.le, h.low.trans (hb.mono hsz), h.sz, h.env, h.und⟩
 obtain ⟨g1, g2, g3, g4, g5⟩ := h5 x hx
 exact ⟨Nat.lt_of_lt_of_le g1 hb.size, g2, g3, g4, (hb.block _ g1).trans g5⟩
theorem Kit.alloc (h : Kit w0 B T b C l bx w) (o : Obj) : Kit w0 B T b C l ((w.heap.size, o) :: bx) (w.alloc o) := by
 have h' := h.below ((Below.refl _ w).alloc (Nat.le_refl _) o)
 have hlt := h.lt
 have hsz := h.size
 obtain ⟨v0, cs0, _, _, h30, _, h50⟩ := h.ex
 obtain ⟨v, cs, h1, h2, h3, h4, h5⟩ := h'.ex
 refine ⟨⟨v0, cs0, ?_, ?_, h30.alloc o, ?_, ?_⟩, ?_, h.le, h'.low, h.sz, h.env, h.und⟩
 ·obtain ⟨v1, cs1, a1, a2, a3, a4, a5⟩ := h.ex
  have := h.ex
  exact (by assumption)
 ·exact (Below.heap_alloc w o b hlt).trans (by assumption)
 ·assumption
 ·intro x hx
  rcases List.mem_cons.1 hx with rfl | hx
  ·refine ⟨by simp, hsz, by show w.heap.size ≠ b; omega, ?_, heap_alloc_new w o⟩
   intro e
   have := (h30.lt _ e.symm).2
   exact absurd this (Nat.lt_irrefl _)
  ·obtain ⟨g1, g2, g3, g4, g5⟩ := h50 x hx
   exact ⟨by simp; omega, g2, g3, g4, (Below.heap_alloc w o _ g1).trans g5⟩
 ·refine List.Pairwise.cons (fun x hx => ?_) h.pw
  have := (h50 x hx).1
  show w.heap.size ≠ x.1
  omega
theorem Kit.drop {x : Nat × Obj} (h : Kit w0 B T b C l (x :: bx) w) : Kit w0 B T b C l bx w := by
 obtain ⟨v, cs, h1, h2, h3, h4, h5⟩ := h.ex
 exact ⟨⟨v, cs, h1, h2, h3, h4, fun y hy => h5 y (List.mem_cons_of_mem _ hy)⟩, h.pw.of_cons, h.le, h.low, h.sz, h.env, h.und⟩
theorem Kit.swap {x y : Nat × Obj} (h : Kit w0 B T b C l (x :: y :: bx) w) : Kit w0 B T b C l (y :: x :: bx) w := by
 obtain ⟨v, cs, h1, h2, h3, h4, h5⟩ := h.ex
 refine ⟨⟨v, cs, h1, h2, h3, h4, fun z hz => h5 z ?_⟩, ?_, h.le, h.low, h.sz, h.env, h.und⟩
 ·simp only [List.mem_cons] at hz ⊢
  rcases hz with h | h | h
  ·exact .inr (.inl h)
  ·exact .inl h
  ·exact .inr (.inr h)
 ·have := h.pw
  simp only [List.pairwise_cons, List.mem_cons] at this ⊢
  refine ⟨fun z hz => ?_, fun z hz => this.1 z (.inr hz), this.2.2⟩
  rcases hz with rfl | hz
  ·exact fun e => this.1 y (.inl rfl) e.symm
  ·exact this.2.1 z hz
theorem Kit.set {k : Nat} {cs : Array Value} {t : TypeId} (h : Kit w0 B T b C l ((k, .cells cs t (0, 0)) :: bx) w) (j : Nat) (u : Value) : Kit w0 B T b C l ((k, .cells (cs.setIfInBounds j u) t (0, 0)) :: bx) (w.setCell ⟨k, j, none⟩ u) := by
 have hg := cell_grown w k j u
 obtain ⟨hkl, hkB⟩ := h.boxlt M0_
 have hlt := h.lt
 have hsz := h.size
 have hpw := h.pw
 obtain ⟨v, cs1, h1, h2, h3, h4, h5⟩ := h.ex
 obtain ⟨g1, g2, g3, g4, g5⟩ := h5 _ M0_
 refine ⟨⟨v, cs1, h1, (hg.block b hlt (fun e => by injection e with e; exact g3 e.symm)).trans h2, h3.kept hg (.inr fun e => g4 e.symm), h4, fun x hx => ?_⟩, ?_, h.le, h.low.grown hg hsz (fun q hq => by injection hq with hq; omega), h.sz, h.env, h.und⟩
 ·rcases List.mem_cons.1 hx with rfl | hx
  ·exact ⟨by simpa using g1, g2, g3, g4, blk_set g5 j u⟩
  ·obtain ⟨f1, f2, f3, f4, f5⟩ := h5 x (List.mem_cons_of_mem _ hx)
   refine ⟨by simpa using f1, f2, f3, f4, (hg.block _ f1 (fun e => ?_)).trans f5⟩
   injection e with e
   exact (List.pairwise_cons.1 hpw).1 x hx e.symm
 ·rw [List.pairwise_cons] at hpw ⊢
  exact ⟨fun x hx => hpw.1 x hx, hpw.2⟩
theorem Kit.head {C' : Value → Array Value → Prop} (h : Kit w0 B T b C l bx w) (j : Nat) (u : Value) (hC : ∀ v cs, C v cs → C' v (cs.setIfInBounds j u)) : Kit w0 B T b C' l bx (w.setCell ⟨b, j, none⟩ u) := by
 have hg := cell_grown w b j u
 have hlt := h.lt
 have hsz := h.size
 have hle := h.le
 obtain ⟨v, cs, h1, h2, h3, h4, h5⟩ := h.ex
 refine ⟨⟨v, _, hC v cs h1, blk_set h2 j u, h3.kept hg (.inr h4), h4, fun x hx => ?_⟩, h.pw, h.le, h.low.grown hg hsz (fun q hq => by injection hq with hq; omega), h.sz, h.env, h.und⟩
 obtain ⟨f1, f2, f3, f4, f5⟩ := h5 x hx
 exact ⟨by simpa using f1, f2, f3, f4, (hg.block _ f1 (fun e => by injection e with e; exact f3 e)).trans f5⟩
theorem Kit.grow {C' : Value → Array Value → Prop} {l' : List UInt8} {v v' : Value} {cs : Array Value} {w1 : World} (h : Kit w0 B T b C l bx w) (h2 : w.heap[b]? = some (.cells cs T (0, 0))) (h3 : w.ownsRow B 5 1 v l.length (Lib.byteCells l)) (h4 : v.ownBlock ≠ some b) (h5 : ∀ x ∈ bx, some x.1 ≠ v.ownBlock) (j : Nat) (hC : C' v' (cs.setIfInBounds j v'))
  (hg : w.grownBy w1 v.ownBlock) (ho : w1.ownsRow B 5 1 v' l'.length (Lib.byteCells l')) (hl : v'.ownBlock = v.ownBlock ∨ ∃ q, v'.ownBlock = some q ∧ w.heap.size ≤ q) : Kit w0 B T b C' l' bx (w1.setCell ⟨b, j, none⟩ v') := by
 have hlt := h.lt
 have hsz := h.size
 have hle := h.le
 have hs := cell_grown w1 b j v'
 have hz := hg.size
 have hb1 : w1.heap[b]? = some (.cells cs T (0, 0)) := (hg.block b hlt (fun e => h4 e.symm)).trans h2
 have hneb : v'.ownBlock ≠ some b := by
  rcases hl with e | ⟨q, e, hq⟩
  ·rw [e]; exact h4
  ·rw [e]; intro e2; injection e2 with e2; omega
 have hvB : ∀ q, v.ownBlock = some q → B ≤ q := fun q e => (h3.lt q e).1
 obtain ⟨_, _, _, _, _, _, h6⟩ := h.ex
 refine ⟨⟨v', _, hC, blk_set hb1 j v', ho.kept hs (.inr hneb), hneb, fun x hx => ?_⟩, h.pw, h.le, (h.low.grown hg hsz hvB).grown hs (by omega) (fun q hq => by injection hq with hq; omega), h.sz, h.env, h.und⟩
 obtain ⟨f1, f2, f3, f4, f5⟩ := h6 x hx
 refine ⟨by rw [show (w1.setCell ⟨b, j, none⟩ v').heap.size = w1.heap.size by simp]; omega, f2, f3, ?_, (hs.block _ (by omega) (fun e => by injection e with e; exact f3 e)).trans ((hg.block _ f1 (h5 x hx)).trans f5)⟩
 rcases hl with e | ⟨q, e, hq⟩
 ·rw [e]; exact h5 x hx
 ·rw [e]; intro e2; injection e2 with e2; omega
end
/-! ### The reference's teller -/
def RC (t : RS) (v : Value) (cs : Array Value) : Prop := cs = #[v, .bool t.bad, .string t.name, .int .i64 t.deeds] ∧ (Lit.int .i64 t.deeds).wf = true ∧ t.name.size ≤ 140737488355328
abbrev RK (w0 : World) (B b : Nat) (t : RS) (bx : Bx) (w : World) : Prop := Kit w0 B 58 b (RC t) t.l bx w
theorem RK.cells {w0 : World} {B b : Nat} {t : RS} {bx : Bx} {w : World} (h : RK w0 B b t bx w) : ∃ v, w.heap[b]? = some (.cells #[v, .bool t.bad, .string t.name, .int .i64 t.deeds] 58 (0, 0)) ∧ w.ownsRow B 5 1 v t.l.length (Lib.byteCells t.l) ∧ v.ownBlock ≠ some b ∧ (∀ x ∈ bx, some x.1 ≠ v.ownBlock) ∧ (Lit.int .i64 t.deeds).wf = true ∧ t.name.size ≤ 140737488355328 := by
 obtain ⟨v, cs, ⟨rfl, h1⟩, h2, h3, h4, h5⟩ := h.ex
 exact ⟨v, h2, h3, h4, fun x hx => (h5 x hx).2.2.2.1, h1⟩
def FitR (t : RS) : Prop := t.l.length ≤ 1073741824
def DoesR (w0 : World) (B b : Nat) (k : Nat) (args : Array Value) (t t' : RS) : Prop :=
 ∀ bx w, RK w0 B b t bx w → FitR t' → Calls Tryz.prog k args w fun e w' => e = .returned (.tuple #[]) ∧ RK w0 B b t' bx w'
theorem bytes_of (w : World) (l : List UInt8) : ∃ (cp : Nat) (C : Array Value), (convert 9 37 (.string (bs l))).run Tryz.prog w = .ok (.slice (some ⟨w.heap.size, 0, none⟩) l.length cp) (w.drew.alloc (.cells C 5 (C.size, C.size + 1))) ∧
  ∀ j (h : j < l.length), C[j]? = some (.int .u8 (l[j].toNat : Int)) := by
 have h := run_bytes_of_string (P := Tryz.prog) w 9 37 5 (bs l) Tryz.underlying9 Tryz.underlying37 Tryz.underlying5
 rw [bs_size] at h
 refine ⟨_, _, h, fun j hj => ?_⟩
 rw [bytesRow_at (bs l) _ j (by simpa [bs] using hj)]
 simp [bs]
theorem cells_new (w : World) (C : Array Value) (l : List UInt8) (t : TypeId) (fr : Nat × Nat) (h : ∀ j (h : j < l.length), C[j]? = some (.int .u8 (l[j].toNat : Int))) :
  ∀ j u, (Lib.byteCells l)[j]? = some u → (w.alloc (.cells C t fr)).drew.cell? ((⟨w.heap.size, 0, none⟩ : Addr).add j) = some u := by
 intro j u hu
 have hj : j < l.length := by
  have := (List.getElem?_eq_some_iff.1 hu).1
  simpa [Lib.byteCells] using this
 have e : (w.alloc (.cells C t fr)).drew.cell? ⟨w.heap.size, j, none⟩ = C[j]? := World.cell?_alloc_mark w C t fr j
 have e2 : (⟨w.heap.size, 0, none⟩ : Addr).add j = ⟨w.heap.size, j, none⟩ := by simp [Addr.add]; omega
 rw [e2, e, h j hj, ← hu]
 simp [Lib.byteCells, hj]
theorem must_R (w0 : World) (B b : Nat) (t : RS) (ok : Bool) : DoesR w0 B b 34 #[.pointer (some ⟨b, 0, none⟩), .bool ok] t (t.must ok) := by
 intro bx w h _
 obtain ⟨v, hb, _, _, _, _⟩ := h.cells
 have c1 : w.cell? ⟨b, 1, none⟩ = some (.bool t.bad) := by simp [World.cell?, hb]
 have f1 : w.frozen? ⟨b, 1, none⟩ = false := fz_ hb
 have hfin : ∀ z, z = (t.bad || !ok) → RK w0 B b (t.must ok) bx (w.setCell ⟨b, 1, none⟩ (.bool z)) := fun z hz => h.head 1 _ (by
  rintro v cs ⟨rfl, h2⟩
  exact ⟨by rw [hz]; rfl, h2⟩)
 replace hfin := hi_ hfin
 replace h := hi_ h
 replace hb := hi_ hb
 generalize t.bad = x at *
 cases x <;> cases ok
 all_goals
  go_enter Tryz.func34, Tryz.ntmps34
  go_wp2_with fail
  exact bodyPost_end (v := .tuple #[]) (results_none (by kernel_rfl) _ _ _) rfl ⟨rfl, hfin.out _ rfl⟩
theorem byte_app (a b : List UInt8) : Lib.byteCells (a ++ b) = Lib.byteCells a ++ Lib.byteCells b := by simp [Lib.byteCells]
theorem byteCells_one (l : List UInt8) : ∀ u ∈ Lib.byteCells l, u.oneCell' = true := fun u hu => by
 simp [Lib.byteCells] at hu; obtain ⟨y, _, rfl⟩ := hu; rfl
theorem infoU8 : (Tryz.prog.info? 5).map (fun i => (i.zero, i.size, i.bytes)) = some (some (.int .u8 0), 1, 1) := by kernel_rfl
theorem slice_of {w : World} {base : Nat} {e : TypeId} {size : Nat} {v : Value} {n : Nat} {xs : List Value} (h : w.ownsRow base e size v n xs) : ∃ ao cap, v = .slice ao n cap := by
 rcases h.2 with ⟨rfl, rfl⟩ | ⟨g, cap, cur, rfl, _⟩
 ·exact ⟨_, _, rfl⟩
 ·exact ⟨_, _, rfl⟩
theorem end_R (w0 : World) (B b : Nat) (t : RS) : DoesR w0 B b 21 #[.pointer (some ⟨b, 0, none⟩)] t t.fin := by
 intro bx w h hF
 obtain ⟨i0, hi, hz0, hz1, hz2⟩ := info_parts infoU8
 obtain ⟨v, hb, hown, hne, hbx, hd⟩ := h.cells
 have hlen : t.l.length + 1 ≤ 1073741824 := by have := hF; unfold FitR RS.fin at this; simpa using this
 have c0 : w.cell? ⟨b, 0, none⟩ = some v := by simp [World.cell?, hb]
 have hsz := h.size
 have hlt := h.lt
 have h' := h.below ((Below.refl _ w).alloc (Nat.le_refl _) (.cells #[.int .u8 41] 5))
 have hb' : (w.alloc (.cells #[.int .u8 41] 5)).heap[b]? = some (.cells #[v, .bool t.bad, .string t.name, .int .i64 t.deeds] 58 (0, 0)) := (Below.heap_alloc w _ b hlt).trans hb
 replace h := hi_ h
 replace hb := hi_ hb
 replace hd := hi_ hd
 clear hF
 go_enter Tryz.func21, Tryz.ntmps21
 go_wp2_with (at_builtin; refine wpList_append_own_at _ rfl _ _ 37 rfl B 5 i0 (.int .u8 0) 1 1 Tryz.underlying37 hi hz0 hz1 hz2 rfl (by decide) _ _ _ rfl (hown.alloc _) ⟨w.heap.size, 0, none⟩ 1 1 [.int .u8 41] rfl rfl (World.news_of_block (cs := #[.int .u8 41]) (t := 5) (fr := (0, 0)) (heap_alloc_new w _)) (by simp [Value.oneCell']) (by unfold maxLen; omega) (by omega) (by simp; omega) ?_)
 intro v' w2 hown' hgrow _ hloc
 have hb2 : w2.heap[b]? = some (.cells #[v, .bool t.bad, .string t.name, .int .i64 t.deeds] 58 (0, 0)) := (hgrow.block b (by simp; omega) (fun e => hne e.symm)).trans hb'
 have f2 : w2.frozen? ⟨b, 0, none⟩ = false := Lib.frozen_of_heap hb2 0
 have d2 : w2.cell? ⟨b, 0, none⟩ = some v := by simp [World.cell?, hb2]
 have hfin : RK w0 B b t.fin bx (w2.setCell ⟨b, 0, none⟩ v') := h'.grow (C' := RC t.fin) (l' := t.l ++ [41]) hb' (hown.alloc _) hne hbx 0 ⟨rfl, hd.out⟩ hgrow (by simpa [byte_app, Lib.byteCells] using hown') (hloc.imp id fun e => ⟨w.heap.size + 1, e, by simp⟩)
 obtain ⟨ao, cap, rfl⟩ := slice_of hown'
 replace hfin := hi_ hfin
 replace hb2 := hi_ hb2
 replace h' := hi_ h'
 replace hb' := hi_ hb'
 clear hown' hgrow hloc
 go_wp2_with fail
 exact bodyPost_end (v := .tuple #[]) (results_none (by kernel_rfl) _ _ _) rfl ⟨rfl, hfin.out⟩
end Go.Proofs.YtlppklbmdedipaaGreatDoor

namespace Go.Proofs.YtlppklbmdedipaaGreatDoor.Pr
open Go Go.RowKit
set_option maxHeartbeats 8000000
set_option maxRecDepth 100000

structure Turn (w w' : World) (b : Nat) (v v' : Value) : Prop where
 os : w'.os = w.os
 tape : w'.tape = w.tape
 output : w'.output = w.output
 size : w.heap.size ≤ w'.heap.size
 block : ∀ j, j < w.heap.size → j ≠ b → some j ≠ v.ownBlock → w'.heap[j]? = w.heap[j]?
 loc : v'.ownBlock = v.ownBlock ∨ ∃ g, v'.ownBlock = some g ∧ w.heap.size ≤ g
theorem Turn.low {w w' : World} {b : Nat} {v v' : Value} {B : Nat} (h : Turn w w' b v v') (h1 : B ≤ b) (h2 : ∀ k, v.ownBlock = some k → B ≤ k) (h3 : B ≤ w.heap.size) : Below B w w' :=
 ⟨h.os, h.tape, h.output, h.size, fun j hj => h.block j (by omega) (by omega) (fun e => by have := h2 j e.symm; omega)⟩
theorem Turn.high {w w' : World} {b : Nat} {v v' : Value} {B : Nat} (h : Turn w w' b v v') (h2 : ∀ k, v.ownBlock = some k → B ≤ k) (h3 : B ≤ w.heap.size) : ∀ k, v'.ownBlock = some k → B ≤ k := fun k hk => by
 rcases h.loc with e | ⟨g, e, hg⟩
 ·exact h2 k (e.symm.trans hk)
 ·have : some g = some k := e.symm.trans hk
  injection this with this; omega

def Bat (r : PS) (T b : Nat) (v : Value) (l : List Value) (w : World) : Prop :=
 (∃ p, (p = .pointer none ∨ p = .pointer (some ⟨b, 0, none⟩)) ∧ w.heap[b]? = some (.cells #[p, v, .bool r.be, .bool r.bad, .string r.name, .int .i64 r.deeds] T (0, 0))) ∧ w.ownsRow 0 5 1 v l.length l ∧ v.ownBlock ≠ some b ∧ (l = [] → v = .slice none 0 0)
def Heads (T : Nat) : Prop := liesAt Tryz.prog Tryz.prog.depth T (6 / Tryz.prog.cellsOf T) 0 39 1 = true
theorem heads_print : Heads 41 := by show _ = true; kernel_rfl
theorem Bat.lt {r : PS} {T b : Nat} {v : Value} {l : List Value} {w : World} (h : Bat r T b v l w) : b < w.heap.size := by
 obtain ⟨⟨p, _, h⟩, _⟩ := h
 exact (Array.getElem?_eq_some_iff.1 h).1
theorem check_used (b : Nat) (w : World) (h0 : w.cell? ⟨b, 0, none⟩ = some (.pointer (some ⟨b, 0, none⟩))) :
  Calls Tryz.prog 62 #[.pointer (some ⟨b, 0, none⟩)] w fun e w' => e = .returned (.tuple #[]) ∧ w' = w := by
 obtain ⟨j, hj, _⟩ := Option.map_eq_some_iff.1 (show (Tryz.prog.info? 39).map (fun i => i.size) = some 2 from by kernel_rfl)
 go_enter Tryz.func62, Tryz.ntmps62
 go_wp2
 rw [Lib.run_neq_ptr_same w _ Tryz.underlying36 hj]
 go_wp2
 go_end0
 exact ⟨rfl, rfl⟩
theorem check_fresh (T b : Nat) (hT : Heads T) (w : World) (h0 : w.cell? ⟨b, 0, none⟩ = some (.pointer none)) (hsh : w.shape? b = some (T, 6)) (hfz : w.frozen? ⟨b, 0, none⟩ = false) :
  Calls Tryz.prog 62 #[.pointer (some ⟨b, 0, none⟩)] w fun e w' => e = .returned (.tuple #[]) ∧ w' = w.setCell ⟨b, 0, none⟩ (.pointer (some ⟨b, 0, none⟩)) := by
 obtain ⟨j, hj, hjs⟩ := Option.map_eq_some_iff.1 (show (Tryz.prog.info? 39).map (fun i => i.size) = some 2 from by kernel_rfl)
 have hlies := hi_ hT
 replace hjs := hi_ hjs
 go_enter Tryz.func62, Tryz.ntmps62
 go_wp2
 rw [Lib.run_to_unsafe w ⟨b, 0, none⟩ Tryz.underlying36 Tryz.underlying137 hj (by rw [hjs.out]; decide) hsh (Nat.zero_lt_succ 5)]
 simp only [Result.andThen]
 rw [Oper.upon_value]
 go_wp2
 rw [run_callFunc_extern Tryz.func94 (by kernel_rfl) (by kernel_rfl) (by kernel_rfl) (e := Extern.AbiNoEscape.same) (by kernel_rfl)]
 rw [Lib.run_noEscape]
 simp only [Result.andThen]
 rw [Oper.upon_value]
 go_wp2
 rw [Lib.run_from_unsafe w ⟨b, 0, none⟩ Tryz.underlying137 Tryz.underlying36 hj hsh hlies.out]
 simp only [Result.andThen]
 rw [Oper.upon_value]
 go_wp2
 go_end0
 exact ⟨rfl, rfl⟩
def Checked (r : PS) (T b : Nat) (v : Value) (l : List Value) (w w' : World) : Prop := w'.heap[b]? = some (.cells #[.pointer (some ⟨b, 0, none⟩), v, .bool r.be, .bool r.bad, .string r.name, .int .i64 r.deeds] T (0, 0)) ∧ w'.ownsRow 0 5 1 v l.length l ∧ w.grownBy w' (some b) ∧ w'.heap.size = w.heap.size
theorem check_any (r : PS) (T b : Nat) (hT : Heads T) (v : Value) (l : List Value) (w : World) (h : Bat r T b v l w) :
  Calls Tryz.prog 62 #[.pointer (some ⟨b, 0, none⟩)] w fun e w' => e = .returned (.tuple #[]) ∧ Checked r T b v l w w' := by
 obtain ⟨⟨p, hp, h1⟩, h2, h3, _⟩ := h
 rcases hp with rfl | rfl
 ·refine (check_fresh T b hT w (by simp [World.cell?, h1]) (by simp [World.shape?, h1]) (by simp [World.frozen?, h1])).mono ?_
  rintro e w' ⟨rfl, rfl⟩
  have hg := cell_grown w b 0 (.pointer (some ⟨b, 0, none⟩))
  exact ⟨rfl, blk_set h1 0 _, h2.kept hg (.inr h3), hg, by simp⟩
 ·refine (check_used b w (by simp [World.cell?, h1])).mono ?_
  rintro e w' ⟨rfl, rfl⟩
  exact ⟨rfl, h1, h2, ⟨rfl, rfl, rfl, Nat.le_refl _, fun _ _ _ => rfl⟩, rfl⟩
theorem infoByte : (Tryz.prog.info? 5).map (fun i => (i.zero, i.size, i.bytes)) = some (some (.int .u8 0), 1, 1) := by kernel_rfl
def Wrote (r : PS) (T b : Nat) (v : Value) (l : List Value) (w w' : World) : Prop := ∃ v', Bat r T b v' l w' ∧ Turn w w' b v v'
theorem wrote_of {r : PS} {T b g c : Nat} {v : Value} {l x : List Value} {w w1 w2 w3 : World} {ao : Option Addr} (hc : Checked r T b v l w w1) (hne : v.ownBlock ≠ some b) (hlt : b < w.heap.size) (hg : w1.grownBy w2 v.ownBlock) (ho : w2.ownsRow 0 5 1 (.slice ao g c) (l ++ x).length (l ++ x))
  (hl : (Value.slice ao g c).ownBlock = v.ownBlock ∨ ∃ q, (Value.slice ao g c).ownBlock = some q ∧ w1.heap.size ≤ q) (hnil : l ++ x = [] → Value.slice ao g c = .slice none 0 0) (hw : w3 = w2.setCell ⟨b, 1, none⟩ (.slice ao g c)) : Wrote r T b v (l ++ x) w w3 := by
 obtain ⟨h1, _, h3, h4⟩ := hc
 have hz := hg.size
 have hb2 : w2.heap[b]? = some (.cells #[.pointer (some ⟨b, 0, none⟩), v, .bool r.be, .bool r.bad, .string r.name, .int .i64 r.deeds] T (0, 0)) := (hg.block b (by omega) (fun e => hne e.symm)).trans h1
 have hneb : (Value.slice ao g c).ownBlock ≠ some b := by
  rcases hl with e | ⟨q, e, hq⟩
  ·rw [e]; exact hne
  ·rw [e]; intro e2; injection e2 with e2; omega
 have hs := cell_grown w2 b 1 (.slice ao g c)
 rw [← hw] at hs
 refine ⟨.slice ao g c, ⟨⟨_, .inr rfl, by rw [hw]; exact blk_set hb2 1 _⟩, ho.kept hs (.inr hneb), hneb, hnil⟩, ?_⟩
 refine ⟨hs.os.trans (hg.os.trans h3.os), hs.tape.trans (hg.tape.trans h3.tape), hs.output.trans (hg.output.trans h3.output), by have := hs.size; omega, fun j hj hjb hjv => ?_, ?_⟩
 ·exact (hs.block j (by omega) (fun e => by injection e with e; exact hjb e)).trans ((hg.block j (by omega) hjv).trans (h3.block j hj (fun e => by injection e with e; exact hjb e)))
 ·rcases hl with e | ⟨q, e, hq⟩
  ·exact .inl e
  ·exact .inr ⟨q, e, by omega⟩
theorem run_string_at (P : Program) (w : World) (base : Nat) (t u ty e : TypeId) (i : TypeInfo) (ht : P.underlying t = some (.slice e)) (hu : P.underlying u = some .string) (hi : P.info? e = some i) (hz : i.zero = some (.int .u8 0)) (hsize : i.size = 1) (hby : i.bytes = 1)
  (v : Value) (n : Nat) (xs : List Value) (hown : w.ownsRow base e 1 v n xs) (s : ByteArray) (hb : n + s.size ≤ 1073741824) (hbase : base ≤ w.heap.size) :
  ∃ v' w', (Builtin.append_ #[t, u] ty #[v, .string s]).run P w = .ok v' w' ∧ w'.ownsRow base e 1 v' (n + s.size) (xs ++ Lib.strCells s) ∧ w.grownBy w' v.ownBlock ∧ (v'.ownBlock = v.ownBlock ∨ v'.ownBlock = some w.heap.size) ∧ (v' = .slice none 0 0 ↔ v = .slice none 0 0 ∧ s.size = 0) := by
 obtain ⟨v', w', hr, h2, h3, h4⟩ := Lib.run_append_own_string (P := P) w base t u ty e i ht hu hi hz hsize hby v n xs hown s (by unfold maxLen; omega) (by omega) hbase
 refine ⟨v', w', hr, h2, h3, ?_, h4⟩
 rcases hown.2 with ⟨rfl, rfl⟩ | ⟨g, cap, cur, rfl, _, hg, hnc, _, hcs, _⟩
 ·by_cases hm : s.size = 0
  ·left; rw [h4.2 ⟨rfl, hm⟩]
  ·right
   rw [run_append_nil_string (P := P) w t u ty e i (.int .u8 0) ht hu hi hz s (by omega) (by omega) (by rw [hby]; omega)] at hr
   injection hr with hr _
   rw [← hr]; rfl
 ·by_cases hroom : n + s.size ≤ cap
  ·left
   rw [Lib.run_append_room_string (P := P) w t u ty e i ht hu hi hsize g n cap cur hg s hroom (by omega)] at hr
   injection hr with hr _
   rw [← hr]; rfl
  ·right
   have hxl : xs.length = n := by simpa using hown.1
   have holds : ∀ j u, xs[j]? = some u → w.cell? ((⟨g, 0, none⟩ : Addr).add j) = some u := hown.cells (g := g) rfl
   rw [Lib.run_append_grow_string (P := P) w t u ty e i (.int .u8 0) ht hu hi hz ⟨g, 0, none⟩ n cap xs (by rw [hsize]; omega) holds s (by omega) (by omega) (by rw [hby]; exact growslice_fits (by omega) (by omega))] at hr
   injection hr with hr _
   rw [← hr]; rfl
theorem wpList_string_at {P : Program} (w : World) {ops : Array Oper} {rest : List Oper} {o : Oper} {a : Act} {Q : Exit → Act → World → Prop} (hgd : o.guard = none) (sl x : Operand) (t u : TypeId)
  (ho : o.op = .call { callee := .builtin .append, args := #[sl, x], argTypes := #[t, u] })
  (base : Nat) (e : TypeId) (i : TypeInfo) (ht : P.underlying t = some (.slice e)) (hu : P.underlying u = some .string) (hi : P.info? e = some i) (hz : i.zero = some (.int .u8 0)) (hsize : i.size = 1) (hby : i.bytes = 1)
  (v : Value) (n : Nat) (xs : List Value) (hs : a.eval sl = v) (hown : w.ownsRow base e 1 v n xs) (s : ByteArray) (hx : a.eval x = .string s) (hb : n + s.size ≤ 1073741824) (hbase : base ≤ w.heap.size)
  (h : ∀ v' w', w'.ownsRow base e 1 v' (n + s.size) (xs ++ Lib.strCells s) → w.grownBy w' v.ownBlock → (v'.ownBlock = v.ownBlock ∨ v'.ownBlock = some w.heap.size) → (v' = .slice none 0 0 ↔ v = .slice none 0 0 ∧ s.size = 0) → wpList P ops Q rest (a.put o.dst v') w') : wpList P ops Q (o :: rest) a w := by
 refine wpList_plain hgd fun K hK => ?_
 obtain ⟨v', w', hr, h2, h3, h4, h5⟩ := run_string_at P w base t u o.type e i ht hu hi hz hsize hby v n xs hown s hb hbase
 unfold Oper.wp execOp
 simp only [ho, resolve, invoke, builtin, Sem.run_bind, Sem.run_pure, Result.andThen_ok, List.map_toArray, List.map_cons, List.map_nil, hs, hx, hr]
 exact hK _ _ (h v' w' h2 h3 h4 h5)
theorem byte_any (r : PS) (T b : Nat) (hT : Heads T) (v : Value) (l : List Value) (c : Int) (w : World) (h : Bat r T b v l w) (hlen : l.length + 1 ≤ 1073741824) :
  Calls Tryz.prog 33 #[.pointer (some ⟨b, 0, none⟩), .int .u8 c] w fun e w' => e = .returned .nilIface ∧ Wrote r T b v (l ++ [.int .u8 c]) w w' := by
 obtain ⟨i0, hi, hz0, hz1, hz2⟩ := info_parts infoByte
 have cC := check_any r T b hT v l w h
 have hlt := h.lt
 have hne := h.2.2.1
 have hnil := h.2.2.2
 replace cC := hi_ cC
 replace hT := hi_ hT
 replace h := hi_ h
 replace hnil := hi_ hnil
 go_enter Tryz.func33, Tryz.ntmps33
 go_wp2_with (go_at_call 62; refine cC.out.mono ?_)
 first | rintro e w1 rfl hc | rintro e w1 ⟨rfl, hc⟩
 have hbk := hc.1
 have hown := hc.2.1
 have hz := hi_ hc.2.2.2
 have c1 : w1.cell? ⟨b, 1, none⟩ = some v := by rw [Lib.cell_of_heap hbk]; rfl
 replace hbk := hi_ hbk
 replace hc := hi_ hc
 replace hown := hi_ hown
 go_wp2_with (at_builtin; refine wpList_append_own_at _ rfl _ _ 37 rfl 0 5 i0 (.int .u8 0) 1 1 Tryz.underlying37 hi hz0 hz1 hz2 rfl (by decide) _ _ _ rfl (hown.out.alloc _) ⟨w1.heap.size, 0, none⟩ 1 1 [.int .u8 c] rfl rfl (World.news_of_block (cs := #[.int .u8 c]) (t := 5) (fr := (0, 0)) (heap_alloc_new w1 _)) (by simp [Value.oneCell']) (by unfold maxLen; omega) (by omega) (Nat.zero_le _) ?_)
 intro v' w2 hown' hgrow _ hloc
 have hz := hz.out
 have hz2 := hgrow.size
 have hza : (w1.alloc (.cells #[.int .u8 c] 5)).heap.size = w1.heap.size + 1 := by simp
 have hal : w1.grownBy (w1.alloc (.cells #[.int .u8 c] 5)) v.ownBlock := World.grownBy_alloc _ _ _
 have hg2 := grown_again hal hgrow
 have hb2 : w2.heap[b]? = some (.cells #[.pointer (some ⟨b, 0, none⟩), v, .bool r.be, .bool r.bad, .string r.name, .int .i64 r.deeds] T (0, 0)) := (hg2.block b (by omega) (fun e => hne e.symm)).trans hbk.out
 have d1 : w2.cell? ⟨b, 1, none⟩ = some v := by rw [Lib.cell_of_heap hb2]; rfl
 have f1 : w2.frozen? ⟨b, 1, none⟩ = false := Lib.frozen_of_heap hb2 1
 obtain ⟨ao, cap, rfl⟩ := slice_of hown'
 have hfin : ∀ w3, w3 = w2.setCell ⟨b, 1, none⟩ (.slice ao (l.length + 1) cap) → Wrote r T b v (l ++ [.int .u8 c]) w w3 := fun w3 e =>
  wrote_of hc.out hne hlt hg2 (by simpa using hown') (hloc.imp id (fun e => ⟨_, e, by omega⟩)) (fun e => by simp at e) e
 replace hfin := hi_ hfin
 replace hb2 := hi_ hb2
 clear hown' hgrow hloc hal hg2
 go_wp2_with fail
 go_ret
 exact ⟨rfl, hfin.out _ rfl⟩
theorem str_any (r : PS) (T b : Nat) (hT : Heads T) (v : Value) (l : List Value) (s : ByteArray) (w : World) (h : Bat r T b v l w) (hlen : l.length + s.size ≤ 1073741824) :
  Calls Tryz.prog 49 #[.pointer (some ⟨b, 0, none⟩), .string s] w fun e w' => e = .returned (.tuple #[.int .i64 s.size, .nilIface]) ∧ Wrote r T b v (l ++ Lib.strCells s) w w' := by
 obtain ⟨i0, hi, hz0, hz1, hz2⟩ := info_parts infoByte
 have cC := check_any r T b hT v l w h
 have hlt := h.lt
 have hne := h.2.2.1
 have hnil := h.2.2.2
 replace cC := hi_ cC
 replace hT := hi_ hT
 replace h := hi_ h
 replace hnil := hi_ hnil
 go_enter Tryz.func49, Tryz.ntmps49
 go_wp2_with (go_at_call 62; refine cC.out.mono ?_)
 first | rintro e w1 rfl hc | rintro e w1 ⟨rfl, hc⟩
 have hbk := hc.1
 have hown := hc.2.1
 have hz := hi_ hc.2.2.2
 have c1 : w1.cell? ⟨b, 1, none⟩ = some v := by rw [Lib.cell_of_heap hbk]; rfl
 replace hbk := hi_ hbk
 replace hc := hi_ hc
 replace hown := hi_ hown
 go_wp2_with (at_builtin; refine wpList_string_at _ rfl _ _ 37 9 rfl 0 5 i0 Tryz.underlying37 Tryz.underlying9 hi hz0 hz1 hz2 _ _ _ rfl hown.out s rfl hlen (Nat.zero_le _) ?_)
 intro v' w2 hown' hgrow hloc hiff
 have hz := hz.out
 have hn' : l ++ Lib.strCells s = [] → v' = .slice none 0 0 := fun e => by
  obtain ⟨e1, e2⟩ := List.append_eq_nil_iff.1 e
  exact hiff.2 ⟨hnil.out e1, by have := Lib.strCells_length s; rw [e2] at this; simpa using this.symm⟩
 clear hiff
 have hz2 := hgrow.size
 have hb2 : w2.heap[b]? = some (.cells #[.pointer (some ⟨b, 0, none⟩), v, .bool r.be, .bool r.bad, .string r.name, .int .i64 r.deeds] T (0, 0)) := (hgrow.block b (by omega) (fun e => hne e.symm)).trans hbk.out
 have d1 : w2.cell? ⟨b, 1, none⟩ = some v := by rw [Lib.cell_of_heap hb2]; rfl
 have f1 : w2.frozen? ⟨b, 1, none⟩ = false := Lib.frozen_of_heap hb2 1
 obtain ⟨ao, cap, rfl⟩ := slice_of hown'
 have hfin : ∀ w3, w3 = w2.setCell ⟨b, 1, none⟩ (.slice ao (l.length + s.size) cap) → Wrote r T b v (l ++ Lib.strCells s) w w3 := fun w3 e =>
  wrote_of hc.out hne hlt hgrow (by simpa [Lib.strCells_length] using hown') (hloc.imp id (fun e => ⟨_, e, by omega⟩)) hn' e
 replace hfin := hi_ hfin
 replace hb2 := hi_ hb2
 clear hown' hgrow hloc
 go_wp2_with fail
 go_ret2
 exact ⟨rfl, hfin.out _ rfl⟩
theorem ustr_none (w : World) : (Builtin.unsafeString_ #[73, 3] 9 #[.pointer none, .int .i64 0]).run Tryz.prog w = .ok (.string ⟨#[]⟩) w := Lib.run_unsafeString_none w _ _ _ none
theorem cells_byte : Tryz.prog.cellsOf 5 = 1 := by kernel_rfl
theorem text_any (r : PS) (T b B : Nat) (v : Value) (l : List UInt8) (w : World) (h : Bat r T b v (Lib.byteCells l) w) (hB : ∀ k, v.ownBlock = some k → B ≤ k) :
  Calls Tryz.prog 15 #[.pointer (some ⟨b, 0, none⟩)] w fun e w' => e = .returned (.string ⟨l.toArray⟩) ∧ Below B w w' := by
 have hlt := h.lt
 obtain ⟨⟨p, hp, hbk⟩, hown, hne, hnil⟩ := h
 rw [Lib.byteCells_length] at hown
 by_cases h0 : l = []
 ·subst h0
  obtain rfl := hnil rfl
  have c1 : w.drew.cell? ⟨b, 1, none⟩ = some (.slice none 0 0) := by
   have : w.drew.heap[b]? = some (.cells #[p, .slice none 0 0, .bool r.be, .bool r.bad, .string r.name, .int .i64 r.deeds] T (0, 0)) := hbk
   rw [Lib.cell_of_heap this]; rfl
  have hSD : (Builtin.unsafeSliceData_ #[37] 73 #[.slice none 0 0]).run Tryz.prog w.drew = .ok (.pointer none) w.drew := rfl
  have hUS := ustr_none w.drew
  replace hB := hi_ hB
  go_enter Tryz.func15, Tryz.ntmps15
  go_wp2
  go_region
  all_goals (go_wp2; go_ret; exact ⟨rfl, Below.drew (Below.refl B w)⟩)
 ·have hl0 : l.length ≠ 0 := by simpa using h0
  obtain ⟨g, cap, cur, rfl, hbg, hg, hnc, hcm, hcs, htake⟩ : ∃ g cap cur, v = .slice (some ⟨g, 0, none⟩) l.length cap ∧ 0 ≤ g ∧ w.heap[g]? = some (.cells cur 5 (0, 0)) ∧ l.length ≤ cap ∧ cap ≤ maxLen ∧ cur.size = cap * 1 ∧ cur.toList.take (l.length * 1) = Lib.byteCells l := by
   rcases hown.2 with ⟨_, hz⟩ | ⟨g, cap, cur, hv, r⟩
   ·exact absurd hz hl0
   ·exact ⟨g, cap, cur, hv, r⟩
  have hBg : B ≤ g := hB g rfl
  have c1 : w.drew.cell? ⟨b, 1, none⟩ = some (.slice (some ⟨g, 0, none⟩) l.length cap) := by
   have : w.drew.heap[b]? = some (.cells #[p, .slice (some ⟨g, 0, none⟩) l.length cap, .bool r.be, .bool r.bad, .string r.name, .int .i64 r.deeds] T (0, 0)) := hbk
   rw [Lib.cell_of_heap this]; rfl
  have hSD : (Builtin.unsafeSliceData_ #[37] 73 #[.slice (some ⟨g, 0, none⟩) l.length cap]).run Tryz.prog w.drew = .ok (.pointer (some ⟨g, 0, none⟩)) w.drew :=
   Lib.run_unsafeSliceData_row _ _ _ _ _ _ (by omega)
  have hUS : (Builtin.unsafeString_ #[73, 3] 9 #[.pointer (some ⟨g, 0, none⟩), .int .i64 l.length]).run Tryz.prog w.drew = .ok (.string ⟨l.toArray⟩) (w.drew.freeze ⟨g, 0, none⟩ l.length) := by
   refine Lib.run_unsafeString_row w.drew 73 3 9 5 Tryz.underlying73 cells_byte g cur.size (by have hg' : w.drew.heap[g]? = some (.cells cur 5 (0, 0)) := hg; simp [World.shape?, hg']) l h0 (by omega) (by unfold maxLen at hcm; omega) ?_
   intro j x hx
   have := hown.cells (g := g) rfl j (.int .u8 x.toNat) (by simp [Lib.byteCells, hx])
   exact this
  replace hB := hi_ hB
  replace hown := hi_ hown
  clear htake hnil
  go_enter Tryz.func15, Tryz.ntmps15
  go_wp2
  go_region
  all_goals (go_wp2; go_ret; exact ⟨rfl, Lib.below_freeze (Below.drew (Below.refl B w)) (p := ⟨g, 0, none⟩) hBg _⟩)
end Go.Proofs.YtlppklbmdedipaaGreatDoor.Pr

namespace Go.Proofs.YtlppklbmdedipaaGreatDoor
open Go Go.RowKit
set_option maxHeartbeats 8000000
set_option maxRecDepth 100000
theorem add_off (g j : Nat) : (⟨g, 0, none⟩ : Addr).add j = ⟨g, j, none⟩ := by
 cases j with
 | zero => rfl
 | succ j => simp [Addr.add]
theorem bytes_last {w : World} {base g n c : Nat} {l : List UInt8} {x : UInt8} (h : w.ownsRow base 5 1 (.slice (some ⟨g, 0, none⟩) n c) (l ++ [x]).length (Lib.byteCells (l ++ [x]))) : w.cell? ⟨g, l.length, none⟩ = some (.int .u8 x.toNat) := by
 have := h.cells (g := g) rfl l.length (.int .u8 x.toNat) (by simp [Lib.byteCells])
 rwa [add_off] at this
theorem put_R (w0 : World) (B b : Nat) (t : RS) (s : List UInt8) : DoesR w0 B b 17 #[.pointer (some ⟨b, 0, none⟩), .string (bs s)] t (t.put s) := by
 intro bx w h hF
 obtain ⟨i0, hi, hz0, hz1, hz2⟩ := info_parts infoU8
 have hFL : (t.put s).l.length ≤ 1073741824 := hF
 have hgoal : spB t.l = false → Hid (∀ w', RK w0 B b { t with l := t.l ++ s } bx w' → RK w0 B b (t.put s) bx w') := fun e w' k => by
  have : t.put s = { t with l := t.l ++ s } := by unfold RS.put; rw [if_neg (by rw [e]; decide)]
  rw [this]; exact k
 have hgoal2 : spB t.l = true → Hid (∀ w', RK w0 B b { t with l := (t.l ++ [32]) ++ s } bx w' → RK w0 B b (t.put s) bx w') := fun e w' k => by
  have : t.put s = { t with l := (t.l ++ [32]) ++ s } := by unfold RS.put; rw [if_pos e]
  rw [this]; exact k
 have hl1 : spB t.l = false → t.l.length + s.length ≤ 1073741824 := fun e => by
  unfold RS.put at hFL; rw [if_neg (by rw [e]; decide)] at hFL; simpa using hFL
 have hl2 : spB t.l = true → t.l.length + 1 + s.length ≤ 1073741824 := fun e => by
  unfold RS.put at hFL; rw [if_pos e] at hFL; simp at hFL; omega
 clear hF hFL
 obtain ⟨v, hb, hown, hne, hbx, hd⟩ := h.cells
 have c0 : ∀ d : LowW w, d.w.cell? ⟨b, 0, none⟩ = some v := fun d => (d.cell h.lt).trans (by simp [World.cell?, hb])
 rcases List.eq_nil_or_concat t.l with e | ⟨r, x, e⟩
 ·have hsp : spB t.l = false := by rw [e]; rfl
  replace hgoal := hgoal hsp
  have lens := hl1 hsp
  clear hgoal2 hl1 hl2
  obtain ⟨ao, cap, rfl⟩ := slice_of hown
  have hn0 : t.l.length = 0 := by rw [e]; rfl
  rw [hn0] at c0
  replace hb := hi_ hb
  replace hown := hi_ hown
  replace hd := hi_ hd
  replace hn0 := hi_ hn0
  replace e := hi_ e
  replace h := hi_ h
  go_enter Tryz.func17, Tryz.ntmps17
  go_wp2_with fail
  refine wp_region_low (by kernel_rfl) (by kernel_rfl) ?_
  repeat (go_big_quiet_step (fail))
  refine wpQuiet_nil ?_
  rintro _ ⟨d, rfl⟩
  have h2 := h.out.below d.low
  clear hb hown hd c0 h hne hbx
  obtain ⟨v, hb, hown, hne, hbx, hd⟩ := RK.cells h2
  have c0 : d.w.cell? ⟨b, 0, none⟩ = some v := by simp [World.cell?, hb]
  have hsz := h2.size
  have hlt := h2.lt
  obtain ⟨cp, C, hcv, hC⟩ := bytes_of d.w s
  have hbel : Below d.w.heap.size d.w (d.w.alloc (.cells C 5 (C.size, C.size + 1))).drew := ((Below.refl _ _).alloc (Nat.le_refl _) _).drew
  have h' := h2.below hbel
  have hb' : (d.w.alloc (.cells C 5 (C.size, C.size + 1))).drew.heap[b]? = some (.cells #[v, .bool t.bad, .string t.name, .int .i64 t.deeds] 58 (0, 0)) := (Below.heap_alloc d.w _ b hlt).trans hb
  have hown5 : (d.w.alloc (.cells C 5 (C.size, C.size + 1))).drew.ownsRow B 5 1 v t.l.length (Lib.byteCells t.l) := show World.ownsRow (d.w.alloc _) _ _ _ _ _ _ from hown.alloc _
  have hcell := hi_ (cells_new d.w C s 5 (C.size, C.size + 1) hC)
  have htn : (Lib.byteCells s).length = s.length * 1 := by simp [Lib.byteCells]
  have hone := hi_ (byteCells_one s)
  have hCs : Hid (B ≤ (d.w.alloc (.cells C 5 (C.size, C.size + 1))).drew.heap.size) := by show _ ≤ _; simp; omega
  have hzz : (d.w.alloc (.cells C 5 (C.size, C.size + 1))).drew.heap.size = d.w.heap.size + 1 := by simp
  have hzz' := hi_ hzz
  clear hzz
  replace h2 := hi_ h2
  replace hb := hi_ hb
  replace hd := hi_ hd
  replace htn := hi_ htn
  replace hC := hi_ hC
  replace hbel := hi_ hbel
  clear hown
  go_wp2_with (first  | (at_builtin; refine wpList_append_own_at _ rfl _ _ 37 rfl B 5 i0 (.int .u8 0) 1 1 Tryz.underlying37 hi hz0 hz1 hz2 rfl (by decide) _ _ _ rfl hown5 ⟨d.w.heap.size, 0, none⟩ s.length cp (Lib.byteCells s) rfl htn.out hcell.out hone.out (by unfold maxLen; omega) (by omega) hCs.out ?_))
  intro v' w2 hown' hgrow _ hloc
  have hb2 : w2.heap[b]? = some (.cells #[v, .bool t.bad, .string t.name, .int .i64 t.deeds] 58 (0, 0)) := (hgrow.block b (by rw [hzz'.out]; omega) (fun e => hne e.symm)).trans hb'
  have f2 : w2.frozen? ⟨b, 0, none⟩ = false := Lib.frozen_of_heap hb2 0
  have d2 : w2.cell? ⟨b, 0, none⟩ = some v := by simp [World.cell?, hb2]
  have hfin := hgoal.out _ (h'.grow (C' := RC { t with l := t.l ++ s }) (l' := t.l ++ s) hb' hown5 hne hbx 0 ⟨rfl, hd.out⟩ hgrow (by simpa [byte_app, Lib.byteCells] using hown') (hloc.imp id fun e => ⟨d.w.heap.size + 1, e, Nat.le_of_eq hzz'.out⟩))
  obtain ⟨ao, cap, rfl⟩ := slice_of hown'
  replace hfin := hi_ hfin
  replace hb2 := hi_ hb2
  replace h' := hi_ h'
  replace hb' := hi_ hb'
  clear hown' hgrow hloc
  go_wp2_with fail
  exact bodyPost_end (v := .tuple #[]) (results_none (by kernel_rfl) _ _ _) rfl ⟨rfl, hfin.out⟩
 ·rw [List.concat_eq_append] at e
  have hlen : t.l.length = r.length + 1 := by rw [e]; simp
  have hx0 := hown
  rw [e] at hx0
  obtain ⟨g, cap, hv⟩ : ∃ g cap, v = .slice (some ⟨g, 0, none⟩) t.l.length cap := by
   rcases hown.2 with ⟨_, e0⟩ | ⟨g, cap, cur, hv, _⟩
   ·omega
   ·exact ⟨g, cap, hv⟩
  subst hv
  have hgl := (hown.lt g rfl).2
  have hlst := bytes_last hx0
  have hxw : ∀ d : LowW w, d.w.cell? ⟨g, r.length, none⟩ = some (.int .u8 (x.toNat : Int)) := fun d => (d.cell hgl).trans hlst
  have hsp : spB t.l = (x != 40 && x != 10) := by rw [e]; exact spB_end r x
  rw [hlen] at c0
  have hx40 : ((x.toNat : Int) != 40) = (x != 40) := by
   rw [Bool.eq_iff_iff]; simp [bne_iff_ne, ← UInt8.toNat_inj]; omega
  have hx10 : ((x.toNat : Int) != 10) = (x != 10) := by
   rw [Bool.eq_iff_iff]; simp [bne_iff_ne, ← UInt8.toNat_inj]; omega
  clear hx0 hlst
  have hr1 : (r.length : Int) + 1 ≤ 1073741824 := by
   by_cases hs : spB t.l = true
   ·have := hl2 hs; omega
   ·have := hl1 (by simpa using hs); omega
  by_cases k1 : (x != 40) = true
  ·by_cases k2 : (x != 10) = true
   ·have hs : spB t.l = true := by rw [hsp, k1, k2]; rfl
    have lens0 := hl2 hs
    replace hgoal := hgoal2 hs
    clear hgoal2 hl1 hl2
    have y1 : ((x.toNat : Int) != 40) = true := hx40.trans k1
    have y2 : ((x.toNat : Int) != 10) = true := hx10.trans k2
    replace hb := hi_ hb
    replace hown := hi_ hown
    replace hd := hi_ hd
    replace e := hi_ e
    replace h := hi_ h
    replace hlen := hi_ hlen
    clear hsp hx40 hx10 k1 k2 hs
    go_enter Tryz.func17, Tryz.ntmps17
    go_wp2_with fail
    refine wp_region_low (by kernel_rfl) (by kernel_rfl) ?_
    repeat (go_big_quiet_step (fail))
    refine wpQuiet_nil ?_
    rintro _ ⟨d, rfl⟩
    have h2 := h.out.below d.low
    clear hb hown hd h hne hbx hxw y1 y2
    have c0' := c0 d
    obtain ⟨v, hb, hown, hne, hbx, hd⟩ := RK.cells h2
    have hvv : v = .slice (some ⟨g, 0, none⟩) (r.length + 1) cap := by
     have : d.w.cell? ⟨b, 0, none⟩ = some v := by simp [World.cell?, hb]
     rw [c0'] at this; injection this with this; exact this.symm
    have hvh := hi_ hvv
    clear hvv
    have hsz := h2.size
    have hlt := h2.lt
    have h' := h2.below ((Below.refl _ d.w).alloc (Nat.le_refl _) (.cells #[.int .u8 32] 5))
    have hb' : (d.w.alloc (.cells #[.int .u8 32] 5)).heap[b]? = some (.cells #[v, .bool t.bad, .string t.name, .int .i64 t.deeds] 58 (0, 0)) := (Below.heap_alloc d.w _ b hlt).trans hb
    have c0n : (d.w).cell? ⟨b, 0, none⟩ = some v := by simp [World.cell?, hb]
    replace hb := hi_ hb
    replace hd := hi_ hd
    clear c0 c0' hgl
    rw [← hvh.out]
    go_wp2_with (at_builtin; refine wpList_append_own_at _ rfl _ _ 37 rfl B 5 i0 (.int .u8 0) 1 1 Tryz.underlying37 hi hz0 hz1 hz2 rfl (by decide) _ _ _ rfl (hown.alloc _) ⟨d.w.heap.size, 0, none⟩ 1 1 [.int .u8 32] rfl rfl (World.news_of_block (cs := #[.int .u8 32]) (t := 5) (fr := (0, 0)) (heap_alloc_new d.w _)) (by simp [Value.oneCell']) (by unfold maxLen; omega) (by omega) (by simp; omega) ?_)
    intro v' w2 hown' hgrow _ hloc
    have hb2 : w2.heap[b]? = some (.cells #[v, .bool t.bad, .string t.name, .int .i64 t.deeds] 58 (0, 0)) := (hgrow.block b (by simp; omega) (fun e => hne e.symm)).trans hb'
    have f2 : w2.frozen? ⟨b, 0, none⟩ = false := Lib.frozen_of_heap hb2 0
    have d2 : w2.cell? ⟨b, 0, none⟩ = some v := by simp [World.cell?, hb2]
    have hfin : RK w0 B b { t with l := t.l ++ [32] } bx (w2.setCell ⟨b, 0, none⟩ v') := h'.grow (C' := RC { t with l := t.l ++ [32] }) (l' := t.l ++ [32]) hb' (hown.alloc _) hne hbx 0 ⟨rfl, hd.out⟩ hgrow (by simpa [byte_app, Lib.byteCells] using hown') (hloc.imp id fun e => ⟨d.w.heap.size + 1, e, by simp⟩)
    obtain ⟨ao, cp9, rfl⟩ := slice_of hown'
    replace hfin := hi_ hfin
    replace hb2 := hi_ hb2
    replace h' := hi_ h'
    replace hb' := hi_ hb'
    clear hown' hgrow hloc c0n
    obtain ⟨t2, ht2⟩ : ∃ t2 : RS, t2 = { t with l := t.l ++ [32] } := ⟨_, rfl⟩
    have h3 : RK w0 B b t2 bx (w2.setCell ⟨b, 0, none⟩ (.slice ao (t.l.length + 1) cp9)) := by rw [ht2]; exact hfin.out
    have lens : t2.l.length + s.length ≤ 1073741824 := by rw [ht2]; simp; omega
    have hg3 : Hid (∀ w', RK w0 B b { t2 with l := t2.l ++ s } bx w' → RK w0 B b (t.put s) bx w') := by rw [ht2]; exact hgoal
    clear hgoal
    have hgoal := hg3
    clear hg3 hfin
    replace ht2 := hi_ ht2
    obtain ⟨W3, hW3⟩ : ∃ W3, W3 = w2.setCell ⟨b, 0, none⟩ (.slice ao (t.l.length + 1) cp9) := ⟨_, rfl⟩
    rw [← hW3] at h3
    have hW3' := hi_ hW3
    clear hW3 hown hb hne hbx hvh h2 hd
    obtain ⟨v, hb, hown, hne, hbx, hd⟩ := RK.cells h3
    have c0 : W3.cell? ⟨b, 0, none⟩ = some v := by simp [World.cell?, hb]
    have hsz := h3.size
    have hlt := h3.lt
    obtain ⟨cp, C, hcv, hC⟩ := bytes_of W3 s
    have hbel : Below W3.heap.size W3 (W3.alloc (.cells C 5 (C.size, C.size + 1))).drew := ((Below.refl _ _).alloc (Nat.le_refl _) _).drew
    have h' := h3.below hbel
    have hb' : (W3.alloc (.cells C 5 (C.size, C.size + 1))).drew.heap[b]? = some (.cells #[v, .bool t2.bad, .string t2.name, .int .i64 t2.deeds] 58 (0, 0)) := (Below.heap_alloc W3 _ b hlt).trans hb
    have hown5 : (W3.alloc (.cells C 5 (C.size, C.size + 1))).drew.ownsRow B 5 1 v t2.l.length (Lib.byteCells t2.l) := show World.ownsRow (W3.alloc _) _ _ _ _ _ _ from hown.alloc _
    have hcell := hi_ (cells_new W3 C s 5 (C.size, C.size + 1) hC)
    have htn : (Lib.byteCells s).length = s.length * 1 := by simp [Lib.byteCells]
    have hone := hi_ (byteCells_one s)
    have hCs : Hid (B ≤ (W3.alloc (.cells C 5 (C.size, C.size + 1))).drew.heap.size) := by show _ ≤ _; simp; omega
    have hzz : (W3.alloc (.cells C 5 (C.size, C.size + 1))).drew.heap.size = W3.heap.size + 1 := by simp
    have hzz' := hi_ hzz
    clear hzz
    replace h3 := hi_ h3
    replace hb := hi_ hb
    replace hd := hi_ hd
    replace htn := hi_ htn
    replace hC := hi_ hC
    replace hbel := hi_ hbel
    clear hown
    go_wp2_with (first | (rw [← hW3'.out]) | (at_builtin; refine wpList_append_own_at _ rfl _ _ 37 rfl B 5 i0 (.int .u8 0) 1 1 Tryz.underlying37 hi hz0 hz1 hz2 rfl (by decide) _ _ _ rfl hown5 ⟨W3.heap.size, 0, none⟩ s.length cp (Lib.byteCells s) rfl htn.out hcell.out hone.out (by unfold maxLen; omega) (by omega) hCs.out ?_))
    intro v' w2 hown' hgrow _ hloc
    have hb2 : w2.heap[b]? = some (.cells #[v, .bool t2.bad, .string t2.name, .int .i64 t2.deeds] 58 (0, 0)) := (hgrow.block b (by rw [hzz'.out]; omega) (fun e => hne e.symm)).trans hb'
    have f2 : w2.frozen? ⟨b, 0, none⟩ = false := Lib.frozen_of_heap hb2 0
    have d2 : w2.cell? ⟨b, 0, none⟩ = some v := by simp [World.cell?, hb2]
    have hfin := hgoal.out _ (h'.grow (C' := RC { t2 with l := t2.l ++ s }) (l' := t2.l ++ s) hb' hown5 hne hbx 0 ⟨rfl, hd.out⟩ hgrow (by simpa [byte_app, Lib.byteCells] using hown') (hloc.imp id fun e => ⟨W3.heap.size + 1, e, Nat.le_of_eq hzz'.out⟩))
    obtain ⟨ao, cap, rfl⟩ := slice_of hown'
    replace hfin := hi_ hfin
    replace hb2 := hi_ hb2
    replace h' := hi_ h'
    replace hb' := hi_ hb'
    clear hown' hgrow hloc
    go_wp2_with fail
    exact bodyPost_end (v := .tuple #[]) (results_none (by kernel_rfl) _ _ _) rfl ⟨rfl, hfin.out⟩
   ·skip
    have hs : spB t.l = false := by rw [hsp]; simp [k2]
    have lens := hl1 hs
    replace hgoal := hgoal hs
    clear hgoal2 hl1 hl2
    have y1 : ((x.toNat : Int) != 40) = true := hx40.trans k1
    have y2 : ((x.toNat : Int) != 10) = false := hx10.trans (by simpa using k2)
    replace hb := hi_ hb
    replace hown := hi_ hown
    replace hd := hi_ hd
    replace e := hi_ e
    replace h := hi_ h
    replace hlen := hi_ hlen
    clear hsp hx40 hx10 k1 k2 hs
    go_enter Tryz.func17, Tryz.ntmps17
    go_wp2_with fail
    refine wp_region_low (by kernel_rfl) (by kernel_rfl) ?_
    repeat (go_big_quiet_step (fail))
    refine wpQuiet_nil ?_
    rintro _ ⟨d, rfl⟩
    have h2 := h.out.below d.low
    clear hb hown hd c0 h hne hbx hxw hgl y1 y2
    obtain ⟨v, hb, hown, hne, hbx, hd⟩ := RK.cells h2
    have c0 : d.w.cell? ⟨b, 0, none⟩ = some v := by simp [World.cell?, hb]
    have hsz := h2.size
    have hlt := h2.lt
    obtain ⟨cp, C, hcv, hC⟩ := bytes_of d.w s
    have hbel : Below d.w.heap.size d.w (d.w.alloc (.cells C 5 (C.size, C.size + 1))).drew := ((Below.refl _ _).alloc (Nat.le_refl _) _).drew
    have h' := h2.below hbel
    have hb' : (d.w.alloc (.cells C 5 (C.size, C.size + 1))).drew.heap[b]? = some (.cells #[v, .bool t.bad, .string t.name, .int .i64 t.deeds] 58 (0, 0)) := (Below.heap_alloc d.w _ b hlt).trans hb
    have hown5 : (d.w.alloc (.cells C 5 (C.size, C.size + 1))).drew.ownsRow B 5 1 v t.l.length (Lib.byteCells t.l) := show World.ownsRow (d.w.alloc _) _ _ _ _ _ _ from hown.alloc _
    have hcell := hi_ (cells_new d.w C s 5 (C.size, C.size + 1) hC)
    have htn : (Lib.byteCells s).length = s.length * 1 := by simp [Lib.byteCells]
    have hone := hi_ (byteCells_one s)
    have hCs : Hid (B ≤ (d.w.alloc (.cells C 5 (C.size, C.size + 1))).drew.heap.size) := by show _ ≤ _; simp; omega
    have hzz : (d.w.alloc (.cells C 5 (C.size, C.size + 1))).drew.heap.size = d.w.heap.size + 1 := by simp
    have hzz' := hi_ hzz
    clear hzz
    replace h2 := hi_ h2
    replace hb := hi_ hb
    replace hd := hi_ hd
    replace htn := hi_ htn
    replace hC := hi_ hC
    replace hbel := hi_ hbel
    clear hown
    go_wp2_with (first  | (at_builtin; refine wpList_append_own_at _ rfl _ _ 37 rfl B 5 i0 (.int .u8 0) 1 1 Tryz.underlying37 hi hz0 hz1 hz2 rfl (by decide) _ _ _ rfl hown5 ⟨d.w.heap.size, 0, none⟩ s.length cp (Lib.byteCells s) rfl htn.out hcell.out hone.out (by unfold maxLen; omega) (by omega) hCs.out ?_))
    intro v' w2 hown' hgrow _ hloc
    have hb2 : w2.heap[b]? = some (.cells #[v, .bool t.bad, .string t.name, .int .i64 t.deeds] 58 (0, 0)) := (hgrow.block b (by rw [hzz'.out]; omega) (fun e => hne e.symm)).trans hb'
    have f2 : w2.frozen? ⟨b, 0, none⟩ = false := Lib.frozen_of_heap hb2 0
    have d2 : w2.cell? ⟨b, 0, none⟩ = some v := by simp [World.cell?, hb2]
    have hfin := hgoal.out _ (h'.grow (C' := RC { t with l := t.l ++ s }) (l' := t.l ++ s) hb' hown5 hne hbx 0 ⟨rfl, hd.out⟩ hgrow (by simpa [byte_app, Lib.byteCells] using hown') (hloc.imp id fun e => ⟨d.w.heap.size + 1, e, Nat.le_of_eq hzz'.out⟩))
    obtain ⟨ao, cap, rfl⟩ := slice_of hown'
    replace hfin := hi_ hfin
    replace hb2 := hi_ hb2
    replace h' := hi_ h'
    replace hb' := hi_ hb'
    clear hown' hgrow hloc
    go_wp2_with fail
    exact bodyPost_end (v := .tuple #[]) (results_none (by kernel_rfl) _ _ _) rfl ⟨rfl, hfin.out⟩
  ·skip
   have hs : spB t.l = false := by rw [hsp]; simp [k1]
   have lens := hl1 hs
   replace hgoal := hgoal hs
   clear hgoal2 hl1 hl2
   have y1 : ((x.toNat : Int) != 40) = false := hx40.trans (by simpa using k1)
   replace hb := hi_ hb
   replace hown := hi_ hown
   replace hd := hi_ hd
   replace e := hi_ e
   replace h := hi_ h
   replace hlen := hi_ hlen
   clear hsp hx40 hx10 k1 hs
   go_enter Tryz.func17, Tryz.ntmps17
   go_wp2_with fail
   refine wp_region_low (by kernel_rfl) (by kernel_rfl) ?_
   repeat (go_big_quiet_step (fail))
   refine wpQuiet_nil ?_
   rintro _ ⟨d, rfl⟩
   have h2 := h.out.below d.low
   clear hb hown hd c0 h hne hbx hxw hgl y1
   obtain ⟨v, hb, hown, hne, hbx, hd⟩ := RK.cells h2
   have c0 : d.w.cell? ⟨b, 0, none⟩ = some v := by simp [World.cell?, hb]
   have hsz := h2.size
   have hlt := h2.lt
   obtain ⟨cp, C, hcv, hC⟩ := bytes_of d.w s
   have hbel : Below d.w.heap.size d.w (d.w.alloc (.cells C 5 (C.size, C.size + 1))).drew := ((Below.refl _ _).alloc (Nat.le_refl _) _).drew
   have h' := h2.below hbel
   have hb' : (d.w.alloc (.cells C 5 (C.size, C.size + 1))).drew.heap[b]? = some (.cells #[v, .bool t.bad, .string t.name, .int .i64 t.deeds] 58 (0, 0)) := (Below.heap_alloc d.w _ b hlt).trans hb
   have hown5 : (d.w.alloc (.cells C 5 (C.size, C.size + 1))).drew.ownsRow B 5 1 v t.l.length (Lib.byteCells t.l) := show World.ownsRow (d.w.alloc _) _ _ _ _ _ _ from hown.alloc _
   have hcell := hi_ (cells_new d.w C s 5 (C.size, C.size + 1) hC)
   have htn : (Lib.byteCells s).length = s.length * 1 := by simp [Lib.byteCells]
   have hone := hi_ (byteCells_one s)
   have hCs : Hid (B ≤ (d.w.alloc (.cells C 5 (C.size, C.size + 1))).drew.heap.size) := by show _ ≤ _; simp; omega
   have hzz : (d.w.alloc (.cells C 5 (C.size, C.size + 1))).drew.heap.size = d.w.heap.size + 1 := by simp
   have hzz' := hi_ hzz
   clear hzz
   replace h2 := hi_ h2
   replace hb := hi_ hb
   replace hd := hi_ hd
   replace htn := hi_ htn
   replace hC := hi_ hC
   replace hbel := hi_ hbel
   clear hown
   go_wp2_with (first  | (at_builtin; refine wpList_append_own_at _ rfl _ _ 37 rfl B 5 i0 (.int .u8 0) 1 1 Tryz.underlying37 hi hz0 hz1 hz2 rfl (by decide) _ _ _ rfl hown5 ⟨d.w.heap.size, 0, none⟩ s.length cp (Lib.byteCells s) rfl htn.out hcell.out hone.out (by unfold maxLen; omega) (by omega) hCs.out ?_))
   intro v' w2 hown' hgrow _ hloc
   have hb2 : w2.heap[b]? = some (.cells #[v, .bool t.bad, .string t.name, .int .i64 t.deeds] 58 (0, 0)) := (hgrow.block b (by rw [hzz'.out]; omega) (fun e => hne e.symm)).trans hb'
   have f2 : w2.frozen? ⟨b, 0, none⟩ = false := Lib.frozen_of_heap hb2 0
   have d2 : w2.cell? ⟨b, 0, none⟩ = some v := by simp [World.cell?, hb2]
   have hfin := hgoal.out _ (h'.grow (C' := RC { t with l := t.l ++ s }) (l' := t.l ++ s) hb' hown5 hne hbx 0 ⟨rfl, hd.out⟩ hgrow (by simpa [byte_app, Lib.byteCells] using hown') (hloc.imp id fun e => ⟨d.w.heap.size + 1, e, Nat.le_of_eq hzz'.out⟩))
   obtain ⟨ao, cap, rfl⟩ := slice_of hown'
   replace hfin := hi_ hfin
   replace hb2 := hi_ hb2
   replace h' := hi_ h'
   replace hb' := hi_ hb'
   clear hown' hgrow hloc
   go_wp2_with fail
   exact bodyPost_end (v := .tuple #[]) (results_none (by kernel_rfl) _ _ _) rfl ⟨rfl, hfin.out⟩
theorem open_R (w0 : World) (B b : Nat) (t : RS) : DoesR w0 B b 16 #[.pointer (some ⟨b, 0, none⟩)] t (t.put [40]) := by
 intro bx w h hF
 have c := put_R w0 B b t [40] bx w h hF
 replace c := hi_ c
 replace h := hi_ h
 clear hF
 go_enter Tryz.func16, Tryz.ntmps16
 go_wp2_with (go_at_call 17; refine c.out.mono ?_)
 first | rintro e w3 rfl hb3 | rintro e w3 ⟨rfl, hb3⟩
 replace hb3 := hi_ hb3
 go_wp2_with fail
 exact bodyPost_end (v := .tuple #[]) (results_none (by kernel_rfl) _ _ _) rfl ⟨rfl, hb3.out⟩
end Go.Proofs.YtlppklbmdedipaaGreatDoor

namespace Go.Proofs.YtlppklbmdedipaaGreatDoor.Lx
open Go Go.RowKit
set_option maxHeartbeats 8000000
set_option maxRecDepth 100000

def digitB (c : UInt8) : Bool := decide (48 ≤ c.toNat) && decide (c.toNat ≤ 57)
theorem rdigit_any (c : UInt8) (w : World) : Calls Tryz.prog 95 #[.int .u8 (c.toNat : Int)] w fun e w' => e = .returned (.bool (digitB c)) ∧ w' = w := by
 have h : (decide ((48 : Int) ≤ (c.toNat : Int)) && decide ((c.toNat : Int) ≤ 57)) = digitB c := by
  rw [Bool.eq_iff_iff]; simp [digitB]; omega
 have H := hi_ h; clear h
 go_enter Tryz.func95, Tryz.ntmps95
 go_wp2
 all_goals go_ret
 all_goals refine ⟨ret_bool ?_, rfl⟩
 all_goals (rw [Bool.eq_iff_iff]; simp only [digitB, Bool.and_eq_true, decide_eq_true_eq, Bool.false_eq_true, false_iff]; omega)

def letterB (c : UInt8) : Bool := (decide (97 ≤ c.toNat) && decide (c.toNat ≤ 122)) || (decide (65 ≤ c.toNat) && decide (c.toNat ≤ 90))
theorem rletter_any (c : UInt8) (w : World) : Calls Tryz.prog 130 #[.int .u8 (c.toNat : Int)] w fun e w' => e = .returned (.bool (letterB c)) ∧ w' = w := by
 go_enter Tryz.func130, Tryz.ntmps130
 go_wp2
 all_goals go_ret
 all_goals refine ⟨ret_bool ?_, rfl⟩
 all_goals (rw [Bool.eq_iff_iff]; simp only [letterB, Bool.and_eq_true, Bool.or_eq_true, decide_eq_true_eq, Bool.false_eq_true, false_iff, true_iff]; omega)

theorem rname_any (c : UInt8) (w : World) : Calls Tryz.prog 96 #[.int .u8 (c.toNat : Int)] w fun e w' => e = .returned (.bool (part c)) ∧ w' = w := by
 have hp : Hid (part c = (digitB c || letterB c || c.toNat == 45 || c.toNat == 95 || c.toNat == 58 || c.toNat == 46 || c.toNat == 35 || c.toNat == 33 || c.toNat == 63)) := by
  show _ = _
  unfold part kindOf digitB letterB
  rw [Bool.eq_iff_iff]
  simp only [decide_eq_true_eq, Bool.or_eq_true, Bool.and_eq_true, beq_iff_eq]
  repeat' split
  all_goals omega
 go_enter Tryz.func96, Tryz.ntmps96
 go_wp2_with (first | (go_at_call 95; refine (rdigit_any _ _).mono ?_; rintro e w' ⟨rfl, rfl⟩) | (go_at_call 130; refine (rletter_any _ _).mono ?_; rintro e w' ⟨rfl, rfl⟩))
 all_goals go_ret
 all_goals refine ⟨ret_bool ?_, rfl⟩
 all_goals
  have hp := hp.out
  try simp only [beq_iff_eq, beq_eq_false_iff_ne, ne_eq] at *
  rw [hp, Bool.eq_iff_iff]
  simp only [Bool.or_eq_true, beq_iff_eq, Bool.false_eq_true, false_iff, true_iff]
  clear hp
  first | omega | (simp only [*, true_or, or_true, Bool.false_eq_true, false_or]; try omega)
end Go.Proofs.YtlppklbmdedipaaGreatDoor.Lx
