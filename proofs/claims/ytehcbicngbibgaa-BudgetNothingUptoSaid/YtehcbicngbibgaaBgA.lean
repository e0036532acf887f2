/- Documents in memory, and a map of seats by numbers. -/
import Derived.Test.YtehcbicngbibgaaProg
import Derived.WalkKit
import Derived.WalkSpells
import Derived.WalkLawsBesides
import Derived.BigQuiet
import Derived.Deep.QuietTactic
import Derived.Deep.LoopGhost
import Derived.Lib.Hide
import Derived.Lib.OthersKept
import Derived.Maps.OwnSet
import Derived.Maps.AppendAt
namespace Go.Proofs.Ytehcbicngbibgaa
open Go Go.RowKit Go.Maps

/-- A node, the one within which it stands, its place there. -/
structure Seat where
  id : Int
  tag : ByteArray
  text : ByteArray
  aa : Option Addr
  an : Nat
  ac : Nat
  ka : Option Addr
  kn : Nat
  kc : Nat
  row : Int
  pos : Nat
def Seat.attrs (s : Seat) : Value := .slice s.aa s.an s.ac
def Seat.kids (s : Seat) : Value := .slice s.ka s.kn s.kc
def Seat.cells (s : Seat) : List Value := [.int .i64 s.id, .string s.tag, .string s.text, .slice s.aa s.an s.ac, .slice s.ka s.kn s.kc]
def Seat.val (s : Seat) : Value := .agg #[.int .i64 s.id, .string s.tag, .string s.text, .slice s.aa s.an s.ac, .slice s.ka s.kn s.kc, .int .i64 s.row, .int .i64 (s.pos : Nat)]
def Seat.good (s : Seat) : Prop := (Lit.int .i64 s.id).wf = true
def zeroSeat : Value := .agg #[.int .i64 0, .string ByteArray.empty, .string ByteArray.empty, .slice none 0 0, .slice none 0 0, .int .i64 0, .int .i64 0]

theorem zeroE51 (w : World) : (zeroValue 45).run Try.prog w = .ok zeroSeat w := by kernel_rfl
theorem law3 : Keyed Try.prog 3 := int_keyed Try.underlying3

/-- An element stands for itself. -/
def R (v : Value) : Option (DataW Value × List MemPlace) := some (.held v, [])
def keyL (n : Int) : Lit := .int .i64 n
def mapTo (D : DataW Value) (S : List Seat) : DataW Value := S.foldl (fun D s => D.put (keyL s.id) (.held s.val)) D
def mapOf (S : List Seat) : DataW Value := mapTo (.map []) S
theorem mapOf_nil : mapOf [] = .map [] := rfl
theorem mapOf_snoc (S : List Seat) (s : Seat) : mapOf (S ++ [s]) = (mapOf S).put (keyL s.id) (.held s.val) := by simp [mapOf, mapTo, List.foldl_append]
theorem isKeyL (n : Int) : WideAt.IsKeyLit (keyL n) := trivial
theorem keyL_ne {a b : Int} (h : a ≠ b) : keyL a ≠ keyL b := fun e => h (by injection e)
theorem mapTo_isMap : ∀ (S : List Seat) (D : DataW Value), IsMap D → IsMap (mapTo D S)
  | [], _, h => h
  | _ :: S, _, h => mapTo_isMap S _ (h.put _ _)
theorem mapOf_isMap (S : List Seat) : IsMap (mapOf S) := mapTo_isMap S _ isMap_empty
theorem has_mapTo (k : Int) : ∀ (S : List Seat) (D : DataW Value), IsMap D → Maps.has (mapTo D S) (keyL k) = (Maps.has D (keyL k) || S.any fun s => s.id == k)
  | [], _, _ => by simp [mapTo]
  | s :: S, D, h => by
    rw [show mapTo D (s :: S) = mapTo (D.put (keyL s.id) (.held s.val)) S from rfl, has_mapTo k S _ (h.put _ _), List.any_cons]
    by_cases hk : s.id = k
    · subst hk; rw [has_put_same h (isKeyL _)]; simp
    · rw [has_put_other (keyL_ne (fun e => hk e.symm))]
      have : (s.id == k) = false := by simpa using hk
      rw [this, Bool.false_or]
theorem has_mapOf (S : List Seat) (k : Int) : Maps.has (mapOf S) (keyL k) = S.any fun s => s.id == k := by
  rw [mapOf, has_mapTo k S _ isMap_empty, Maps.has_eq]; simp
theorem at_mapTo_out (k : Int) (z : DataW Value) : ∀ (S : List Seat) (D : DataW Value), (∀ s ∈ S, s.id ≠ k) → (mapTo D S).atKey (keyL k) z = D.atKey (keyL k) z
  | [], _, _ => rfl
  | s :: S, D, h => by
    rw [show mapTo D (s :: S) = mapTo (D.put (keyL s.id) (.held s.val)) S from rfl, at_mapTo_out k z S _ (fun x hx => h x (List.mem_cons_of_mem _ hx))]
    exact atKey_put_other (keyL_ne (fun e => h s (List.mem_cons_self ..) e.symm)) _ _
theorem at_mapTo (z : DataW Value) : ∀ (S : List Seat) (D : DataW Value), IsMap D → (S.map (·.id)).Nodup → ∀ s ∈ S, (mapTo D S).atKey (keyL s.id) z = .held s.val
  | [], _, _, _, _, hs => by simp at hs
  | x :: S, D, h, hn, s, hs => by
    rw [show mapTo D (x :: S) = mapTo (D.put (keyL x.id) (.held x.val)) S from rfl]
    rw [List.map_cons, List.nodup_cons] at hn
    rcases List.mem_cons.1 hs with rfl | hs
    · rw [at_mapTo_out s.id z S _ (fun y hy e => hn.1 (by rw [← e]; exact List.mem_map_of_mem hy))]
      exact atKey_put_same h (isKeyL _) _ _
    · exact at_mapTo z S _ (h.put _ _) hn.2 s hs
theorem at_mapOf (S : List Seat) (hn : (S.map (·.id)).Nodup) (s : Seat) (hs : s ∈ S) (z : DataW Value) : (mapOf S).atKey (keyL s.id) z = .held s.val := at_mapTo z S _ isMap_empty hn s hs
theorem at_mapOf_out (S : List Seat) (k : Int) (h : ∀ s ∈ S, s.id ≠ k) (z : DataW Value) : (mapOf S).atKey (keyL k) z = z := at_mapTo_out k z S _ h

/-- A list of nodes at w, in blocks below B, within the node 'row': all its seats, parents first. -/
inductive Flat (w : World) (B : Nat) : Value → Int → List Seat → Prop
  | mk (ao : Option Addr) (b o n cap : Nat) (row : Int) (N : Nat → Seat) (F : Nat → List Seat) (hn : n ≤ 1152921504606846976) (hao : 0 < n → ao = some ⟨b, o, none⟩ ∧ b < B)
      (hc : ∀ i, i < n → ∀ j, j < 5 → w.cell? ⟨b, o + (i * 5 + j), none⟩ = (N i).cells[j]?)
      (hrow : ∀ i, i < n → (N i).row = row ∧ (N i).pos = i ∧ (N i).good)
      (hk : ∀ i, i < n → Flat w B (N i).kids (N i).id (F i)) : Flat w B (.slice ao n cap) row ((List.range n).flatMap fun i => N i :: F i)
theorem Flat.kept {w w' : World} {B : Nat} {v : Value} {row : Int} {S : List Seat} (h : Flat w B v row S) (hb : Below B w w') : Flat w' B v row S := by
  induction h with
  | mk ao b o n cap row N F hn hao hc hrow hk ih =>
    exact Flat.mk ao b o n cap row N F hn hao (fun i hi j hj => (hb.cell (p := ⟨b, o + (i * 5 + j), none⟩) (hao (by omega)).2).trans (hc i hi j hj)) hrow ih

theorem blk_set {w : World} {g : Nat} {cs : Array Value} {t : TypeId} (h : w.heap[g]? = some (.cells cs t (0, 0))) (j : Nat) (v : Value) :
    (w.setCell ⟨g, j, none⟩ v).heap[g]? = some (.cells (cs.setIfInBounds j v) t (0, 0)) := by
  simp [World.setCell, Array.getElem?_modify, h]
/-- What seats turns: the map's block, the order's own row; the order's new row is that one, or a new block. -/
structure Turn (w w' : World) (bm : Nat) (ov ov' : Value) : Prop where
  os : w'.os = w.os
  tape : w'.tape = w.tape
  output : w'.output = w.output
  size : w.heap.size ≤ w'.heap.size
  block : ∀ j, j < w.heap.size → j ≠ bm → some j ≠ ov.ownBlock → w'.heap[j]? = w.heap[j]?
  loc : ov'.ownBlock = ov.ownBlock ∨ ∃ b, ov'.ownBlock = some b ∧ w.heap.size ≤ b
theorem Turn.refl (w : World) (bm : Nat) (ov : Value) : Turn w w bm ov ov := ⟨rfl, rfl, rfl, Nat.le_refl _, fun _ _ _ _ => rfl, .inl rfl⟩
theorem Turn.trans {w w1 w2 : World} {bm : Nat} {ov o1 o2 : Value} (h : Turn w w1 bm ov o1) (k : Turn w1 w2 bm o1 o2) : Turn w w2 bm ov o2 := by
  refine ⟨k.os.trans h.os, k.tape.trans h.tape, k.output.trans h.output, Nat.le_trans h.size k.size, fun j hj hb ho => ?_, ?_⟩
  · refine (k.block j (Nat.lt_of_lt_of_le hj h.size) hb ?_).trans (h.block j hj hb ho)
    rcases h.loc with e | ⟨b, e, hb2⟩
    · rw [e]; exact ho
    · rw [e]; intro e2; injection e2 with e2; omega
  · rcases k.loc with e | ⟨b, e, hb2⟩
    · rcases h.loc with e2 | ⟨b2, e2, hb3⟩
      · exact .inl (e.trans e2)
      · exact .inr ⟨b2, e.trans e2, hb3⟩
    · exact .inr ⟨b, e, Nat.le_trans h.size hb2⟩
theorem Turn.below {w w1 : World} {bm : Nat} {ov : Value} (h : Below w.heap.size w w1) : Turn w w1 bm ov ov :=
  ⟨h.os, h.tape, h.output, h.size, fun j hj _ _ => h.block j hj, .inl rfl⟩
theorem Turn.grown {w w1 : World} {bm : Nat} {ov o1 : Value} (h : w.grownBy w1 ov.ownBlock) (hl : o1.ownBlock = ov.ownBlock ∨ ∃ b, o1.ownBlock = some b ∧ w.heap.size ≤ b) : Turn w w1 bm ov o1 :=
  ⟨h.os, h.tape, h.output, h.size, fun j hj _ ho => h.block j hj ho, hl⟩
theorem Turn.map {w w1 : World} {bm : Nat} {ov : Value} (h : w.grownBy w1 (some bm)) : Turn w w1 bm ov ov :=
  ⟨h.os, h.tape, h.output, h.size, fun j hj hb _ => h.block j hj (fun e => hb (by injection e)), .inl rfl⟩
theorem Turn.toBelow {w w' : World} {bm : Nat} {ov ov' : Value} {B : Nat} (h : Turn w w' bm ov ov') (h1 : B ≤ bm) (h2 : ∀ k, ov.ownBlock = some k → B ≤ k) (h3 : B ≤ w.heap.size) : Below B w w' :=
  ⟨h.os, h.tape, h.output, h.size, fun j hj => h.block j (by omega) (by omega) (fun e => by have := h2 j e.symm; omega)⟩
end Go.Proofs.Ytehcbicngbibgaa
