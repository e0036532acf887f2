/- What a Book keeps of values, fields, nodes: all their lists. (By XGr.gen.py.) -/
import Derived.Test.YtehcbicngbibgaaGreatDoorZGk
namespace Go.Proofs.YtehcbicngbibgaaGreatDoor
open Go Go.RowKit
/-- Where a Book stands while it keeps lists of what lay in w0. -/
structure Reg (B n : Nat) (hs : Nat → Value) (LV LF LN : List Ent) (w0 W : World) : Prop where
  book : BookSt W B n hs
  low : Below B w0 W
  le : w0.heap.size ≤ B
  cnt : LV.length + LF.length + LN.length = n
  nil : ∀ j, 1 ≤ j → j ≤ 16 → j ≠ 3 → j ≠ 4 → j ≠ 13 → hs j = .slice none 0 0
  oV : W.ownsRow (B + 1) 102 3 (hs 3) LV.length (hcells LV)
  oF : W.ownsRow (B + 1) 105 3 (hs 4) LF.length (hcells LF)
  oN : W.ownsRow (B + 1) 93 3 (hs 13) LN.length (hcells LN)
  dVF : ∀ b, (hs 3).ownBlock = some b → (hs 4).ownBlock ≠ some b
  dVN : ∀ b, (hs 3).ownBlock = some b → (hs 13).ownBlock ≠ some b
  dFN : ∀ b, (hs 4).ownBlock = some b → (hs 13).ownBlock ≠ some b
theorem Reg.later {B n : Nat} {hs : Nat → Value} {LV LF LN : List Ent} {w0 W W' : World} (h : Reg B n hs LV LF LN w0 W) (hb : Below W.heap.size W W') : Reg B n hs LV LF LN w0 W' :=
  ⟨h.book.same (hb.block B h.book.lt), h.low.trans (hb.mono (Nat.le_of_lt h.book.lt)), h.le, h.cnt, h.nil, own_same h.oV (fun b hb2 => hb.block b (h.oV.lt b hb2).2), own_same h.oF (fun b hb2 => hb.block b (h.oF.lt b hb2).2), own_same h.oN (fun b hb2 => hb.block b (h.oN.lt b hb2).2), h.dVF, h.dVN, h.dFN⟩
/-- What keeping changes: the Book's block, its rows' blocks; those are where they were, or new. -/
structure Ext (B : Nat) (hs hs' : Nat → Value) (W W' : World) : Prop where
  frm : Frm (fun b => b = B ∨ ((hs 3).ownBlock = some b ∨ (hs 4).ownBlock = some b ∨ (hs 13).ownBlock = some b)) W W'
  loc : ∀ b, ((hs' 3).ownBlock = some b ∨ (hs' 4).ownBlock = some b ∨ (hs' 13).ownBlock = some b) → ((hs 3).ownBlock = some b ∨ (hs 4).ownBlock = some b ∨ (hs 13).ownBlock = some b) ∨ W.heap.size ≤ b
theorem Ext.refl (B : Nat) (hs : Nat → Value) (W : World) : Ext B hs hs W W := ⟨Frm.refl _ _, fun _ h => .inl h⟩
theorem Ext.trans {B : Nat} {h1 h2 h3 : Nat → Value} {a b c : World} (h : Ext B h1 h2 a b) (k : Ext B h2 h3 b c) : Ext B h1 h3 a c := by
  refine ⟨⟨k.frm.os.trans h.frm.os, k.frm.tape.trans h.frm.tape, k.frm.output.trans h.frm.output, Nat.le_trans h.frm.size k.frm.size, fun i hi hp => ?_⟩, fun i hi => ?_⟩
  · refine (k.frm.block i (Nat.lt_of_lt_of_le hi h.frm.size) (fun h9 => ?_)).trans (h.frm.block i hi hp)
    rcases h9 with h9 | h9
    · exact hp (.inl h9)
    · rcases h.loc i h9 with h8 | h8
      · exact hp (.inr h8)
      · omega
  · rcases k.loc i hi with h9 | h9
    · exact h.loc i h9
    · exact .inr (Nat.le_trans h.frm.size h9)
theorem Ext.later {B : Nat} {h1 h2 : Nat → Value} {a b c : World} (h : Ext B h1 h2 b c) (k : Below a.heap.size a b) : Ext B h1 h2 a c := (show Ext B h1 h1 a b from ⟨Frm.of_below k, fun _ h => .inl h⟩).trans h
theorem Reg.keepValue {B n : Nat} {hs : Nat → Value} {LV LF LN : List Ent} {w0 W : World} (h : Reg B n hs LV LF LN w0 W) (hn : n + 1 ≤ 1073741824) (a1 : Option Addr) (n1 c1 : Nat) :
    Calls Tryz.prog 190 #[.pointer (some ⟨B, 0, none⟩), .slice a1 n1 c1] W fun e w' => e = .returned (.tuple #[]) ∧ ∃ hs', Reg B (n + 1) hs' (LV ++ [⟨.slice a1 n1 c1, n1, n + 1, .slice none 0 0⟩]) LF LN w0 w' ∧ Ext B hs hs' W w' := by
  have hcnt := h.cnt
  refine (keepValue_any (B + 1) B n LV.length hs (hcells LV) a1 n1 c1 W h.book h.oV (Nat.le_refl _) (fun b hb => by have := (h.oV.lt b hb).1; omega) (by omega) (by omega)).mono ?_
  rintro e w' ⟨he, hv', hb, ho, hF, hloc⟩
  refine ⟨he, upd hs 3 hv', ⟨hb, ?_, h.le, by simp only [List.length_append, List.length_cons, List.length_nil]; omega, fun i h1 h2 h3 h4 h5 => ?_, (by rw [List.length_append, hcells_append]; exact ho), own_same h.oF (fun b hb => hF.block b (h.oF.lt b hb).2 (fun h9 => by
      rcases h9 with h9 | h9
      · have := (h.oF.lt b hb).1; omega
      · exact h.dVF b h9 hb)), own_same h.oN (fun b hb => hF.block b (h.oN.lt b hb).2 (fun h9 => by
      rcases h9 with h9 | h9
      · have := (h.oN.lt b hb).1; omega
      · exact h.dVN b h9 hb)), (fun b hb e => by
      rcases hloc b hb with h9 | h9
      · exact h.dVF b h9 e
      · have := (h.oF.lt b e).2; omega), (fun b hb e => by
      rcases hloc b hb with h9 | h9
      · exact h.dVN b h9 e
      · have := (h.oN.lt b e).2; omega), h.dFN⟩, hF.weak (fun b h9 => ?_), fun b h9 => ?_⟩
  · exact h.low.trans (hF.low (Nat.le_of_lt h.book.lt) (fun b h9 => by
      rcases h9 with h9 | h9
      · omega
      · have := (h.oV.lt b h9).1; omega))
  · have : upd hs 3 hv' i = hs i := if_neg (by omega)
    rw [this]; exact h.nil i h1 h2 h3 h4 h5
  · rcases h9 with h9 | h9
    · exact .inl h9
    · exact .inr (.inl h9)
  · rcases h9 with h9 | h9 | h9
    · rcases hloc b h9 with h9 | h9
      · exact .inl (.inl h9)
      · exact .inr h9
    · exact .inl (.inr (.inl h9))
    · exact .inl (.inr (.inr h9))
theorem Reg.keepField {B n : Nat} {hs : Nat → Value} {LV LF LN : List Ent} {w0 W : World} (h : Reg B n hs LV LF LN w0 W) (hn : n + 1 ≤ 1073741824) (a1 : Option Addr) (n1 c1 : Nat) :
    Calls Tryz.prog 143 #[.pointer (some ⟨B, 0, none⟩), .slice a1 n1 c1] W fun e w' => e = .returned (.tuple #[]) ∧ ∃ hs', Reg B (n + 1) hs' LV (LF ++ [⟨.slice a1 n1 c1, n1, n + 1, .slice none 0 0⟩]) LN w0 w' ∧ Ext B hs hs' W w' := by
  have hcnt := h.cnt
  refine (keepField_any (B + 1) B n LF.length hs (hcells LF) a1 n1 c1 W h.book h.oF (Nat.le_refl _) (fun b hb => by have := (h.oF.lt b hb).1; omega) (by omega) (by omega)).mono ?_
  rintro e w' ⟨he, hv', hb, ho, hF, hloc⟩
  refine ⟨he, upd hs 4 hv', ⟨hb, ?_, h.le, by simp only [List.length_append, List.length_cons, List.length_nil]; omega, fun i h1 h2 h3 h4 h5 => ?_, own_same h.oV (fun b hb => hF.block b (h.oV.lt b hb).2 (fun h9 => by
      rcases h9 with h9 | h9
      · have := (h.oV.lt b hb).1; omega
      · exact h.dVF b hb h9)), (by rw [List.length_append, hcells_append]; exact ho), own_same h.oN (fun b hb => hF.block b (h.oN.lt b hb).2 (fun h9 => by
      rcases h9 with h9 | h9
      · have := (h.oN.lt b hb).1; omega
      · exact h.dFN b h9 hb)), (fun b hb e => by
      rcases hloc b e with h9 | h9
      · exact h.dVF b hb h9
      · have := (h.oV.lt b hb).2; omega), h.dVN, (fun b hb e => by
      rcases hloc b hb with h9 | h9
      · exact h.dFN b h9 e
      · have := (h.oN.lt b e).2; omega)⟩, hF.weak (fun b h9 => ?_), fun b h9 => ?_⟩
  · exact h.low.trans (hF.low (Nat.le_of_lt h.book.lt) (fun b h9 => by
      rcases h9 with h9 | h9
      · omega
      · have := (h.oF.lt b h9).1; omega))
  · have : upd hs 4 hv' i = hs i := if_neg (by omega)
    rw [this]; exact h.nil i h1 h2 h3 h4 h5
  · rcases h9 with h9 | h9
    · exact .inl h9
    · exact .inr (.inr (.inl h9))
  · rcases h9 with h9 | h9 | h9
    · exact .inl (.inl h9)
    · rcases hloc b h9 with h9 | h9
      · exact .inl (.inr (.inl h9))
      · exact .inr h9
    · exact .inl (.inr (.inr h9))
theorem Reg.keepNode {B n : Nat} {hs : Nat → Value} {LV LF LN : List Ent} {w0 W : World} (h : Reg B n hs LV LF LN w0 W) (hn : n + 1 ≤ 1073741824) (a1 : Option Addr) (n1 c1 : Nat) :
    Calls Tryz.prog 28 #[.pointer (some ⟨B, 0, none⟩), .slice a1 n1 c1] W fun e w' => e = .returned (.tuple #[]) ∧ ∃ hs', Reg B (n + 1) hs' LV LF (LN ++ [⟨.slice a1 n1 c1, n1, n + 1, .slice none 0 0⟩]) w0 w' ∧ Ext B hs hs' W w' := by
  have hcnt := h.cnt
  refine (keepNode_any (B + 1) B n LN.length hs (hcells LN) a1 n1 c1 W h.book h.oN (Nat.le_refl _) (fun b hb => by have := (h.oN.lt b hb).1; omega) (by omega) (by omega)).mono ?_
  rintro e w' ⟨he, hv', hb, ho, hF, hloc⟩
  refine ⟨he, upd hs 13 hv', ⟨hb, ?_, h.le, by simp only [List.length_append, List.length_cons, List.length_nil]; omega, fun i h1 h2 h3 h4 h5 => ?_, own_same h.oV (fun b hb => hF.block b (h.oV.lt b hb).2 (fun h9 => by
      rcases h9 with h9 | h9
      · have := (h.oV.lt b hb).1; omega
      · exact h.dVN b hb h9)), own_same h.oF (fun b hb => hF.block b (h.oF.lt b hb).2 (fun h9 => by
      rcases h9 with h9 | h9
      · have := (h.oF.lt b hb).1; omega
      · exact h.dFN b hb h9)), (by rw [List.length_append, hcells_append]; exact ho), h.dVF, (fun b hb e => by
      rcases hloc b e with h9 | h9
      · exact h.dVN b hb h9
      · have := (h.oV.lt b hb).2; omega), (fun b hb e => by
      rcases hloc b e with h9 | h9
      · exact h.dFN b hb h9
      · have := (h.oF.lt b hb).2; omega)⟩, hF.weak (fun b h9 => ?_), fun b h9 => ?_⟩
  · exact h.low.trans (hF.low (Nat.le_of_lt h.book.lt) (fun b h9 => by
      rcases h9 with h9 | h9
      · omega
      · have := (h.oN.lt b h9).1; omega))
  · have : upd hs 13 hv' i = hs i := if_neg (by omega)
    rw [this]; exact h.nil i h1 h2 h3 h4 h5
  · rcases h9 with h9 | h9
    · exact .inl h9
    · exact .inr (.inr (.inr h9))
  · rcases h9 with h9 | h9 | h9
    · exact .inl (.inl h9)
    · exact .inl (.inr (.inl h9))
    · rcases hloc b h9 with h9 | h9
      · exact .inl (.inr (.inr h9))
      · exact .inr h9
/-- What was kept for the rows R. -/
structure Add (R : List Row) (AV AF AN : List Ent) (hi : Nat) : Prop where
  ap : EApart (AV ++ (AF ++ AN))
  rV : ∀ x ∈ AV, (⟨59, 8, x.v, x.n⟩ : Row) ∈ R
  rF : ∀ x ∈ AF, (⟨61, 9, x.v, x.n⟩ : Row) ∈ R
  rN : ∀ x ∈ AN, (⟨53, 5, x.v, x.n⟩ : Row) ∈ R
  u : ∀ x ∈ AV ++ (AF ++ AN), x.u = .slice none 0 0 ∧ x.i ≤ hi
theorem Add.nil (R : List Row) (hi : Nat) : Add R [] [] [] hi := ⟨List.Pairwise.nil, fun x hx => (by cases hx), fun x hx => (by cases hx), fun x hx => (by cases hx), fun x hx => (by cases hx)⟩
theorem Add.row {R : List Row} {AV AF AN : List Ent} {hi : Nat} (h : Add R AV AF AN hi) {x : Ent} (hx : x ∈ AV ++ (AF ++ AN)) : ∃ r ∈ R, r.v = x.v := by
  rcases List.mem_append.1 hx with hx | hx
  · exact ⟨_, h.rV x hx, rfl⟩
  · rcases List.mem_append.1 hx with hx | hx
    · exact ⟨_, h.rF x hx, rfl⟩
    · exact ⟨_, h.rN x hx, rfl⟩
theorem perm6 (a b c d e f : List Ent) : List.Perm ((a ++ d) ++ ((b ++ e) ++ (c ++ f))) ((a ++ (b ++ c)) ++ (d ++ (e ++ f))) := by
  classical
  rw [List.perm_iff_count]
  intro x
  simp only [List.count_append]
  omega
theorem eapart_perm {L M : List Ent} (h : List.Perm L M) (k : EApart M) : EApart L :=
  (h.pairwise_iff (R := fun a b : Ent => ∀ k, a.v.ownBlock = some k → b.v.ownBlock ≠ some k) (fun {x y} hxy q hq e => hxy q e hq)).2 k
theorem Add.comb {R S : List Row} {AV AF AN BV BF BN : List Ent} {hi hj : Nat} (h : Add R AV AF AN hi) (k : Add S BV BF BN hj) (hij : hi ≤ hj) (hap : Apart (R ++ S)) : Add (R ++ S) (AV ++ BV) (AF ++ BF) (AN ++ BN) hj := by
  have hp := perm6 AV AF AN BV BF BN
  refine ⟨eapart_perm hp ?_, fun x hx => ?_, fun x hx => ?_, fun x hx => ?_, fun x hx => ?_⟩
  · unfold EApart
    rw [List.pairwise_append]
    refine ⟨h.ap, k.ap, fun x hx y hy q hq => ?_⟩
    obtain ⟨r, hr, e1⟩ := h.row hx
    obtain ⟨s, hs, e2⟩ := k.row hy
    have := (List.pairwise_append.1 hap).2.2 r hr s hs q (by rw [e1]; exact hq)
    rwa [e2] at this
  · exact (List.mem_append.1 hx).elim (fun h9 => List.mem_append_left _ (h.rV x h9)) (fun h9 => List.mem_append_right _ (k.rV x h9))
  · exact (List.mem_append.1 hx).elim (fun h9 => List.mem_append_left _ (h.rF x h9)) (fun h9 => List.mem_append_right _ (k.rF x h9))
  · exact (List.mem_append.1 hx).elim (fun h9 => List.mem_append_left _ (h.rN x h9)) (fun h9 => List.mem_append_right _ (k.rN x h9))
  · rcases List.mem_append.1 (hp.mem_iff.1 hx) with h9 | h9
    · exact ⟨(h.u x h9).1, Nat.le_trans (h.u x h9).2 hij⟩
    · exact k.u x h9
theorem Apart.left {R S : List Row} (h : Apart (R ++ S)) : Apart R := (List.pairwise_append.1 h).1
theorem Apart.right {R S : List Row} (h : Apart (R ++ S)) : Apart S := (List.pairwise_append.1 h).2.1
theorem rflat_split {α : Type} (RR : Nat → List α) (n k : Nat) (h : k ≤ n) : ∃ rest, (List.range n).flatMap RR = (List.range k).flatMap RR ++ rest := by
  refine ⟨((List.range n).drop k).flatMap RR, ?_⟩
  rw [← List.flatMap_append]
  congr 1
  have := List.take_append_drop k (List.range n)
  rw [List.take_range, Nat.min_eq_left h] at this
  exact this.symm
theorem rflat_succ {α : Type} (RR : Nat → List α) (k : Nat) : (List.range (k + 1)).flatMap RR = (List.range k).flatMap RR ++ RR k := by
  rw [List.range_succ, List.flatMap_append]; simp
/-- Behind a call that keeps what the rows R are of. -/
structure RegP (B n : Nat) (hs : Nat → Value) (LV LF LN : List Ent) (w0 W : World) (R : List Row) (e : Ending) (w' : World) : Prop where
  e : e = .returned (.tuple #[])
  r : ∃ (hs' : Nat → Value) (AV AF AN : List Ent), Reg B (n + R.length) hs' (LV ++ AV) (LF ++ AF) (LN ++ AN) w0 w' ∧ Add R AV AF AN (n + R.length) ∧ Ext B hs hs' W w'
def BVal (v : Val) : Prop := ∀ (q : VP), ∀ (R : List Row) (base : Nat) (m : Mode) (mk : Nat → List Value) (B n : Nat) (hs : Nat → Value) (LV LF LN : List Ent) (w0 W : World), m.sh = none → Own w0 base m mk v.tr (q.cells v) R → Apart R → n + R.length ≤ 1073741824 → Reg B n hs LV LF LN w0 W →
  Calls Tryz.prog 166 #[.pointer (some ⟨B, 0, none⟩), .agg #[.int .u8 v.kind, .int .i64 v.n, .string v.s, .slice q.la q.ln q.lc, .slice q.fa q.fn q.fc, .int .u8 v.elem, .string v.key, .bool v.hk]] W fun e w' => RegP B n hs LV LF LN w0 W R e w'
def BFld (v : Fld) : Prop := ∀ (q : VP), ∀ (R : List Row) (base : Nat) (m : Mode) (mk : Nat → List Value) (B n : Nat) (hs : Nat → Value) (LV LF LN : List Ent) (w0 W : World), m.sh = none → Own w0 base m mk v.tr (q.fcells v) R → Apart R → n + R.length ≤ 1073741824 → Reg B n hs LV LF LN w0 W →
  Calls Tryz.prog 142 #[.pointer (some ⟨B, 0, none⟩), .agg #[.string v.name, .int .u8 v.value.kind, .int .i64 v.value.n, .string v.value.s, .slice q.la q.ln q.lc, .slice q.fa q.fn q.fc, .int .u8 v.value.elem, .string v.value.key, .bool v.value.hk]] W fun e w' => RegP B n hs LV LF LN w0 W R e w'
def BNd (v : Nd) : Prop := ∀ (q : NP), ∀ (R : List Row) (base : Nat) (m : Mode) (mk : Nat → List Value) (B n : Nat) (hs : Nat → Value) (LV LF LN : List Ent) (w0 W : World), m.sh = none → Own w0 base m mk v.tr (q.cells v) R → Apart R → n + R.length ≤ 1073741824 → Reg B n hs LV LF LN w0 W →
  Calls Tryz.prog 27 #[.pointer (some ⟨B, 0, none⟩), .agg #[.int .i64 v.id, .string v.tag, .string v.text, .slice q.aa q.an q.ac, .slice q.ka q.kn q.kc]] W fun e w' => RegP B n hs LV LF LN w0 W R e w'
def BVals (L : List Val) : Prop := ∀ (a : Option Addr) (len c : Nat), ∀ (R : List Row) (base : Nat) (m : Mode) (mk : Nat → List Value) (B n : Nat) (hs : Nat → Value) (LV LF LN : List Ent) (w0 W : World), m.sh = none → Own w0 base m mk (.lst 59 8 (L.map Val.tr)) [.slice a len c] R → Apart R → n + R.length ≤ 1073741824 → Reg B n hs LV LF LN w0 W →
  Calls Tryz.prog 180 #[.pointer (some ⟨B, 0, none⟩), .slice a len c] W fun e w' => RegP B n hs LV LF LN w0 W R e w'
set_option maxHeartbeats 4000000 in
set_option maxRecDepth 100000 in
theorem bVals_of (L : List Val) (hV : ∀ v ∈ L, BVal v) : BVals L := by
  intro a len c R base m mk B n hs LV LF LN w0 W hm hO hap hn hR
  obtain ⟨i1, i2, xs, cc, RR, ho, hc, he, _, rfl⟩ := hO.lst_inv hm
  rw [List.length_map] at i1
  have hlt0 := ho.lt
  replace hO := Lib.hid hO
  replace i1 := Lib.hid i1
  replace hV := Lib.hid hV
  replace hap := Lib.hid hap
  replace ho := Lib.hid ho
  replace hc := Lib.hid hc
  replace he := Lib.hid he
  replace hlt0 := Lib.hid hlt0
  rw [List.length_append] at hn
  have hn9 : Hid (n + (((List.range len).flatMap RR).length + 1) ≤ 1073741824) := hn
  clear hn
  replace hR := Lib.hid hR
  go_enter Tryz.func180, Tryz.ntmps180
  go_wp2_with fail
  go_loopw [4] (fun i wr => ∃ (k : Nat) (hs' : Nat → Value) (AV AF AN : List Ent), k ≤ len ∧ i = .int .i64 (k : Nat) ∧ Reg B (n + ((List.range k).flatMap RR).length) hs' (LV ++ AV) (LF ++ AF) (LN ++ AN) w0 wr ∧ Add ((List.range k).flatMap RR) AV AF AN (n + ((List.range k).flatMap RR).length) ∧ Ext B hs hs' W wr) (fun i _ => len - (intOf i).toNat)
  case atStart => exact ⟨0, hs, [], [], [], Nat.zero_le _, rfl, by simpa using hR.out, Add.nil _ _, Ext.refl _ _ _⟩
  case round =>
    obtain ⟨k, hs', AV, AF, AN, hk, rfl, hRk, hAk, hXk⟩ := hrel
    by_cases hlt : k < len
    · have hlt9 : Hid (k + 1 ≤ len) := hlt
      have hkL : k < L.length := by rw [← i1.out]; exact hlt
      obtain ⟨g, cg, e1, _, hgl⟩ := ho.out.form (by omega)
      obtain ⟨rfl, rfl⟩ : a = some ⟨g, 0, none⟩ ∧ c = cg := by simp at e1; exact ⟨e1.1, e1.2⟩
      obtain ⟨v, hv⟩ : ∃ v, v = L[k] := ⟨_, rfl⟩
      have hvm : v ∈ L := by rw [hv]; exact List.getElem_mem hkL
      have hOk : Own w0 base m mk v.tr (cc k) (RR k) := by
        have := he.out k (by rw [List.length_map]; exact hkL)
        rw [List.getElem_map] at this
        rw [hv]; exact this
      obtain ⟨q, hq⟩ : ∃ q : VP, cc k = q.cells v := by
        obtain ⟨q, hq, _⟩ := hOk.at.val
        exact ⟨q, hq⟩
      rw [hq] at hOk
      have hcell : ∀ j, j < 8 → wr.cell? ⟨g, k * 8 + j, none⟩ = (q.cells v)[j]? := fun j hj => by
        rw [← hq, ← (hc.out k hlt).2 j hj]
        exact (hRk.low.cell (p := ⟨g, k * 8 + j, none⟩) (by have := hRk.le; show g < B; omega)).trans (ho.out.cellAt (k * 8 + j) (by
          have : (k + 1) * 8 ≤ len * 8 := Nat.mul_le_mul_right _ hlt
          omega))
      have z0 : wr.cell? ⟨g, k * 8, none⟩ = some (.int .u8 v.kind) := hcell 0 (by omega)
      have z1 : wr.cell? ⟨g, k * 8 + 1, none⟩ = some (.int .i64 v.n) := hcell 1 (by omega)
      have z2 : wr.cell? ⟨g, k * 8 + 2, none⟩ = some (.string v.s) := hcell 2 (by omega)
      have z3 : wr.cell? ⟨g, k * 8 + 3, none⟩ = some (.slice q.la q.ln q.lc) := hcell 3 (by omega)
      have z4 : wr.cell? ⟨g, k * 8 + 4, none⟩ = some (.slice q.fa q.fn q.fc) := hcell 4 (by omega)
      have z5 : wr.cell? ⟨g, k * 8 + 5, none⟩ = some (.int .u8 v.elem) := hcell 5 (by omega)
      have z6 : wr.cell? ⟨g, k * 8 + 6, none⟩ = some (.string v.key) := hcell 6 (by omega)
      have z7 : wr.cell? ⟨g, k * 8 + 7, none⟩ = some (.bool v.hk) := hcell 7 (by omega)
      obtain ⟨rest, hsp⟩ := rflat_split RR len (k + 1) hlt
      have hapk : Apart ((List.range k).flatMap RR ++ RR k) := by
        have := hap.out.left
        rw [hsp, rflat_succ] at this
        exact this.left
      have hnk : n + ((List.range k).flatMap RR).length + (RR k).length ≤ 1073741824 := by
        have h9 := hn9.out
        rw [hsp, rflat_succ, List.length_append, List.length_append] at h9
        omega
      have cV := hV.out v hvm q (RR k) base m mk B _ hs' _ _ _ w0 wr hm hOk hapk.right hnk hRk
      replace cV := Lib.hid cV
      replace hRk := Lib.hid hRk
      replace hv := Lib.hid hv
      replace hsp := Lib.hid hsp
      replace hOk := Lib.hid hOk
      replace hq := Lib.hid hq
      clear hcell e1 hvm hnk
      go_wp2_with (go_at_call 166; refine cV.out.mono ?_)
      rintro e w3 ⟨rfl, hs3, BV, BF, BN, hR3, hA3, hX3⟩
      have hX4 := Lib.hid (hXk.trans hX3)
      have hR4 : Hid (Reg B (n + ((List.range (k + 1)).flatMap RR).length) hs3 (LV ++ (AV ++ BV)) (LF ++ (AF ++ BF)) (LN ++ (AN ++ BN)) w0 w3) := by
        show Reg _ _ _ _ _ _ _ _
        rw [rflat_succ, List.length_append, ← Nat.add_assoc, ← List.append_assoc, ← List.append_assoc, ← List.append_assoc]
        exact hR3
      have hA4 : Hid (Add ((List.range (k + 1)).flatMap RR) (AV ++ BV) (AF ++ BF) (AN ++ BN) (n + ((List.range (k + 1)).flatMap RR).length)) := by
        show Add _ _ _ _ _
        rw [rflat_succ, List.length_append, ← Nat.add_assoc]
        exact hAk.comb hA3 (Nat.le_add_right _ _) hapk
      clear hR3 hA3 hX3
      go_wp2_with fail
      go_roundw
      case rel => exact ⟨k + 1, hs3, AV ++ BV, AF ++ BF, AN ++ BN, hlt9.out, by go_num, hR4.out, hA4.out, hX4.out⟩
      case measure => simp [intOf]; have := hlt9.out; omega
    · have hkn : len = k := by omega
      subst hkn
      have cK := Lib.hid (hRk.keepValue (by have := hn9.out; omega) a len c)
      replace hRk := Lib.hid hRk
      go_wp2_with (go_at_call 190; refine cK.out.mono ?_)
      rintro e w3 ⟨rfl, hs3, hR3, hX3⟩
      have hfin : Hid (RegP B n hs LV LF LN w0 W ((List.range len).flatMap RR ++ [⟨59, 8, .slice a len c, len⟩]) (.returned (.tuple #[])) w3) := by
        have hA1 : Add [⟨59, 8, .slice a len c, len⟩] [⟨.slice a len c, len, n + ((List.range len).flatMap RR).length + 1, .slice none 0 0⟩] [] [] (n + ((List.range len).flatMap RR).length + 1) := by
          refine ⟨by simp [EApart], fun x hx => ?_, fun x hx => ?_, fun x hx => ?_, fun x hx => ?_⟩ <;> simp at hx <;> subst hx <;> simp
        have hA2 := hAk.comb hA1 (Nat.le_succ _) hap.out
        refine ⟨rfl, hs3, _, _, _, ?_, by rw [List.length_append]; exact hA2, hXk.trans hX3⟩
        rw [List.length_append]
        simp only [List.length_cons, List.length_nil, Nat.zero_add, ← Nat.add_assoc, ← List.append_assoc, List.append_nil]
        exact hR3
      clear hR3 hX3
      go_wp2_with fail
      exact bodyPost_end (v := .tuple #[]) (results_none (by kernel_rfl) _ _ _) rfl hfin.out
def BFlds (L : List Fld) : Prop := ∀ (a : Option Addr) (len c : Nat), ∀ (R : List Row) (base : Nat) (m : Mode) (mk : Nat → List Value) (B n : Nat) (hs : Nat → Value) (LV LF LN : List Ent) (w0 W : World), m.sh = none → Own w0 base m mk (.lst 61 9 (L.map Fld.tr)) [.slice a len c] R → Apart R → n + R.length ≤ 1073741824 → Reg B n hs LV LF LN w0 W →
  Calls Tryz.prog 95 #[.pointer (some ⟨B, 0, none⟩), .slice a len c] W fun e w' => RegP B n hs LV LF LN w0 W R e w'
set_option maxHeartbeats 4000000 in
set_option maxRecDepth 100000 in
theorem bFlds_of (L : List Fld) (hV : ∀ v ∈ L, BFld v) : BFlds L := by
  intro a len c R base m mk B n hs LV LF LN w0 W hm hO hap hn hR
  obtain ⟨i1, i2, xs, cc, RR, ho, hc, he, _, rfl⟩ := hO.lst_inv hm
  rw [List.length_map] at i1
  have hlt0 := ho.lt
  replace hO := Lib.hid hO
  replace i1 := Lib.hid i1
  replace hV := Lib.hid hV
  replace hap := Lib.hid hap
  replace ho := Lib.hid ho
  replace hc := Lib.hid hc
  replace he := Lib.hid he
  replace hlt0 := Lib.hid hlt0
  rw [List.length_append] at hn
  have hn9 : Hid (n + (((List.range len).flatMap RR).length + 1) ≤ 1073741824) := hn
  clear hn
  replace hR := Lib.hid hR
  go_enter Tryz.func95, Tryz.ntmps95
  go_wp2_with fail
  go_loopw [4] (fun i wr => ∃ (k : Nat) (hs' : Nat → Value) (AV AF AN : List Ent), k ≤ len ∧ i = .int .i64 (k : Nat) ∧ Reg B (n + ((List.range k).flatMap RR).length) hs' (LV ++ AV) (LF ++ AF) (LN ++ AN) w0 wr ∧ Add ((List.range k).flatMap RR) AV AF AN (n + ((List.range k).flatMap RR).length) ∧ Ext B hs hs' W wr) (fun i _ => len - (intOf i).toNat)
  case atStart => exact ⟨0, hs, [], [], [], Nat.zero_le _, rfl, by simpa using hR.out, Add.nil _ _, Ext.refl _ _ _⟩
  case round =>
    obtain ⟨k, hs', AV, AF, AN, hk, rfl, hRk, hAk, hXk⟩ := hrel
    by_cases hlt : k < len
    · have hlt9 : Hid (k + 1 ≤ len) := hlt
      have hkL : k < L.length := by rw [← i1.out]; exact hlt
      obtain ⟨g, cg, e1, _, hgl⟩ := ho.out.form (by omega)
      obtain ⟨rfl, rfl⟩ : a = some ⟨g, 0, none⟩ ∧ c = cg := by simp at e1; exact ⟨e1.1, e1.2⟩
      obtain ⟨v, hv⟩ : ∃ v, v = L[k] := ⟨_, rfl⟩
      have hvm : v ∈ L := by rw [hv]; exact List.getElem_mem hkL
      have hOk : Own w0 base m mk v.tr (cc k) (RR k) := by
        have := he.out k (by rw [List.length_map]; exact hkL)
        rw [List.getElem_map] at this
        rw [hv]; exact this
      obtain ⟨q, hq⟩ : ∃ q : VP, cc k = q.fcells v := by
        obtain ⟨q, hq, _⟩ := hOk.at.fld
        exact ⟨q, hq⟩
      rw [hq] at hOk
      have hcell : ∀ j, j < 9 → wr.cell? ⟨g, k * 9 + j, none⟩ = (q.fcells v)[j]? := fun j hj => by
        rw [← hq, ← (hc.out k hlt).2 j hj]
        exact (hRk.low.cell (p := ⟨g, k * 9 + j, none⟩) (by have := hRk.le; show g < B; omega)).trans (ho.out.cellAt (k * 9 + j) (by
          have : (k + 1) * 9 ≤ len * 9 := Nat.mul_le_mul_right _ hlt
          omega))
      have z0 : wr.cell? ⟨g, k * 9, none⟩ = some (.string v.name) := hcell 0 (by omega)
      have z1 : wr.cell? ⟨g, k * 9 + 1, none⟩ = some (.int .u8 v.value.kind) := hcell 1 (by omega)
      have z2 : wr.cell? ⟨g, k * 9 + 2, none⟩ = some (.int .i64 v.value.n) := hcell 2 (by omega)
      have z3 : wr.cell? ⟨g, k * 9 + 3, none⟩ = some (.string v.value.s) := hcell 3 (by omega)
      have z4 : wr.cell? ⟨g, k * 9 + 4, none⟩ = some (.slice q.la q.ln q.lc) := hcell 4 (by omega)
      have z5 : wr.cell? ⟨g, k * 9 + 5, none⟩ = some (.slice q.fa q.fn q.fc) := hcell 5 (by omega)
      have z6 : wr.cell? ⟨g, k * 9 + 6, none⟩ = some (.int .u8 v.value.elem) := hcell 6 (by omega)
      have z7 : wr.cell? ⟨g, k * 9 + 7, none⟩ = some (.string v.value.key) := hcell 7 (by omega)
      have z8 : wr.cell? ⟨g, k * 9 + 8, none⟩ = some (.bool v.value.hk) := hcell 8 (by omega)
      obtain ⟨rest, hsp⟩ := rflat_split RR len (k + 1) hlt
      have hapk : Apart ((List.range k).flatMap RR ++ RR k) := by
        have := hap.out.left
        rw [hsp, rflat_succ] at this
        exact this.left
      have hnk : n + ((List.range k).flatMap RR).length + (RR k).length ≤ 1073741824 := by
        have h9 := hn9.out
        rw [hsp, rflat_succ, List.length_append, List.length_append] at h9
        omega
      have cV := hV.out v hvm q (RR k) base m mk B _ hs' _ _ _ w0 wr hm hOk hapk.right hnk hRk
      replace cV := Lib.hid cV
      replace hRk := Lib.hid hRk
      replace hv := Lib.hid hv
      replace hsp := Lib.hid hsp
      replace hOk := Lib.hid hOk
      replace hq := Lib.hid hq
      clear hcell e1 hvm hnk
      go_wp2_with (go_at_call 142; refine cV.out.mono ?_)
      rintro e w3 ⟨rfl, hs3, BV, BF, BN, hR3, hA3, hX3⟩
      have hX4 := Lib.hid (hXk.trans hX3)
      have hR4 : Hid (Reg B (n + ((List.range (k + 1)).flatMap RR).length) hs3 (LV ++ (AV ++ BV)) (LF ++ (AF ++ BF)) (LN ++ (AN ++ BN)) w0 w3) := by
        show Reg _ _ _ _ _ _ _ _
        rw [rflat_succ, List.length_append, ← Nat.add_assoc, ← List.append_assoc, ← List.append_assoc, ← List.append_assoc]
        exact hR3
      have hA4 : Hid (Add ((List.range (k + 1)).flatMap RR) (AV ++ BV) (AF ++ BF) (AN ++ BN) (n + ((List.range (k + 1)).flatMap RR).length)) := by
        show Add _ _ _ _ _
        rw [rflat_succ, List.length_append, ← Nat.add_assoc]
        exact hAk.comb hA3 (Nat.le_add_right _ _) hapk
      clear hR3 hA3 hX3
      go_wp2_with fail
      go_roundw
      case rel => exact ⟨k + 1, hs3, AV ++ BV, AF ++ BF, AN ++ BN, hlt9.out, by go_num, hR4.out, hA4.out, hX4.out⟩
      case measure => simp [intOf]; have := hlt9.out; omega
    · have hkn : len = k := by omega
      subst hkn
      have cK := Lib.hid (hRk.keepField (by have := hn9.out; omega) a len c)
      replace hRk := Lib.hid hRk
      go_wp2_with (go_at_call 143; refine cK.out.mono ?_)
      rintro e w3 ⟨rfl, hs3, hR3, hX3⟩
      have hfin : Hid (RegP B n hs LV LF LN w0 W ((List.range len).flatMap RR ++ [⟨61, 9, .slice a len c, len⟩]) (.returned (.tuple #[])) w3) := by
        have hA1 : Add [⟨61, 9, .slice a len c, len⟩] [] [⟨.slice a len c, len, n + ((List.range len).flatMap RR).length + 1, .slice none 0 0⟩] [] (n + ((List.range len).flatMap RR).length + 1) := by
          refine ⟨by simp [EApart], fun x hx => ?_, fun x hx => ?_, fun x hx => ?_, fun x hx => ?_⟩ <;> simp at hx <;> subst hx <;> simp
        have hA2 := hAk.comb hA1 (Nat.le_succ _) hap.out
        refine ⟨rfl, hs3, _, _, _, ?_, by rw [List.length_append]; exact hA2, hXk.trans hX3⟩
        rw [List.length_append]
        simp only [List.length_cons, List.length_nil, Nat.zero_add, ← Nat.add_assoc, ← List.append_assoc, List.append_nil]
        exact hR3
      clear hR3 hX3
      go_wp2_with fail
      exact bodyPost_end (v := .tuple #[]) (results_none (by kernel_rfl) _ _ _) rfl hfin.out
def BNds (L : List Nd) : Prop := ∀ (a : Option Addr) (len c : Nat), ∀ (R : List Row) (base : Nat) (m : Mode) (mk : Nat → List Value) (B n : Nat) (hs : Nat → Value) (LV LF LN : List Ent) (w0 W : World), m.sh = none → Own w0 base m mk (.lst 53 5 (L.map Nd.tr)) [.slice a len c] R → Apart R → n + R.length ≤ 1073741824 → Reg B n hs LV LF LN w0 W →
  Calls Tryz.prog 13 #[.pointer (some ⟨B, 0, none⟩), .slice a len c] W fun e w' => RegP B n hs LV LF LN w0 W R e w'
set_option maxHeartbeats 4000000 in
set_option maxRecDepth 100000 in
theorem bNds_of (L : List Nd) (hV : ∀ v ∈ L, BNd v) : BNds L := by
  intro a len c R base m mk B n hs LV LF LN w0 W hm hO hap hn hR
  obtain ⟨i1, i2, xs, cc, RR, ho, hc, he, _, rfl⟩ := hO.lst_inv hm
  rw [List.length_map] at i1
  have hlt0 := ho.lt
  replace hO := Lib.hid hO
  replace i1 := Lib.hid i1
  replace hV := Lib.hid hV
  replace hap := Lib.hid hap
  replace ho := Lib.hid ho
  replace hc := Lib.hid hc
  replace he := Lib.hid he
  replace hlt0 := Lib.hid hlt0
  rw [List.length_append] at hn
  have hn9 : Hid (n + (((List.range len).flatMap RR).length + 1) ≤ 1073741824) := hn
  clear hn
  replace hR := Lib.hid hR
  go_enter Tryz.func13, Tryz.ntmps13
  go_wp2_with fail
  go_loopw [4] (fun i wr => ∃ (k : Nat) (hs' : Nat → Value) (AV AF AN : List Ent), k ≤ len ∧ i = .int .i64 (k : Nat) ∧ Reg B (n + ((List.range k).flatMap RR).length) hs' (LV ++ AV) (LF ++ AF) (LN ++ AN) w0 wr ∧ Add ((List.range k).flatMap RR) AV AF AN (n + ((List.range k).flatMap RR).length) ∧ Ext B hs hs' W wr) (fun i _ => len - (intOf i).toNat)
  case atStart => exact ⟨0, hs, [], [], [], Nat.zero_le _, rfl, by simpa using hR.out, Add.nil _ _, Ext.refl _ _ _⟩
  case round =>
    obtain ⟨k, hs', AV, AF, AN, hk, rfl, hRk, hAk, hXk⟩ := hrel
    by_cases hlt : k < len
    · have hlt9 : Hid (k + 1 ≤ len) := hlt
      have hkL : k < L.length := by rw [← i1.out]; exact hlt
      obtain ⟨g, cg, e1, _, hgl⟩ := ho.out.form (by omega)
      obtain ⟨rfl, rfl⟩ : a = some ⟨g, 0, none⟩ ∧ c = cg := by simp at e1; exact ⟨e1.1, e1.2⟩
      obtain ⟨v, hv⟩ : ∃ v, v = L[k] := ⟨_, rfl⟩
      have hvm : v ∈ L := by rw [hv]; exact List.getElem_mem hkL
      have hOk : Own w0 base m mk v.tr (cc k) (RR k) := by
        have := he.out k (by rw [List.length_map]; exact hkL)
        rw [List.getElem_map] at this
        rw [hv]; exact this
      obtain ⟨q, hq⟩ : ∃ q : NP, cc k = q.cells v := by
        obtain ⟨q, hq, _⟩ := hOk.at.nd
        exact ⟨q, hq⟩
      rw [hq] at hOk
      have hcell : ∀ j, j < 5 → wr.cell? ⟨g, k * 5 + j, none⟩ = (q.cells v)[j]? := fun j hj => by
        rw [← hq, ← (hc.out k hlt).2 j hj]
        exact (hRk.low.cell (p := ⟨g, k * 5 + j, none⟩) (by have := hRk.le; show g < B; omega)).trans (ho.out.cellAt (k * 5 + j) (by
          have : (k + 1) * 5 ≤ len * 5 := Nat.mul_le_mul_right _ hlt
          omega))
      have z0 : wr.cell? ⟨g, k * 5, none⟩ = some (.int .i64 v.id) := hcell 0 (by omega)
      have z1 : wr.cell? ⟨g, k * 5 + 1, none⟩ = some (.string v.tag) := hcell 1 (by omega)
      have z2 : wr.cell? ⟨g, k * 5 + 2, none⟩ = some (.string v.text) := hcell 2 (by omega)
      have z3 : wr.cell? ⟨g, k * 5 + 3, none⟩ = some (.slice q.aa q.an q.ac) := hcell 3 (by omega)
      have z4 : wr.cell? ⟨g, k * 5 + 4, none⟩ = some (.slice q.ka q.kn q.kc) := hcell 4 (by omega)
      obtain ⟨rest, hsp⟩ := rflat_split RR len (k + 1) hlt
      have hapk : Apart ((List.range k).flatMap RR ++ RR k) := by
        have := hap.out.left
        rw [hsp, rflat_succ] at this
        exact this.left
      have hnk : n + ((List.range k).flatMap RR).length + (RR k).length ≤ 1073741824 := by
        have h9 := hn9.out
        rw [hsp, rflat_succ, List.length_append, List.length_append] at h9
        omega
      have cV := hV.out v hvm q (RR k) base m mk B _ hs' _ _ _ w0 wr hm hOk hapk.right hnk hRk
      replace cV := Lib.hid cV
      replace hRk := Lib.hid hRk
      replace hv := Lib.hid hv
      replace hsp := Lib.hid hsp
      replace hOk := Lib.hid hOk
      replace hq := Lib.hid hq
      clear hcell e1 hvm hnk
      go_wp2_with (go_at_call 27; refine cV.out.mono ?_)
      rintro e w3 ⟨rfl, hs3, BV, BF, BN, hR3, hA3, hX3⟩
      have hX4 := Lib.hid (hXk.trans hX3)
      have hR4 : Hid (Reg B (n + ((List.range (k + 1)).flatMap RR).length) hs3 (LV ++ (AV ++ BV)) (LF ++ (AF ++ BF)) (LN ++ (AN ++ BN)) w0 w3) := by
        show Reg _ _ _ _ _ _ _ _
        rw [rflat_succ, List.length_append, ← Nat.add_assoc, ← List.append_assoc, ← List.append_assoc, ← List.append_assoc]
        exact hR3
      have hA4 : Hid (Add ((List.range (k + 1)).flatMap RR) (AV ++ BV) (AF ++ BF) (AN ++ BN) (n + ((List.range (k + 1)).flatMap RR).length)) := by
        show Add _ _ _ _ _
        rw [rflat_succ, List.length_append, ← Nat.add_assoc]
        exact hAk.comb hA3 (Nat.le_add_right _ _) hapk
      clear hR3 hA3 hX3
      go_wp2_with fail
      go_roundw
      case rel => exact ⟨k + 1, hs3, AV ++ BV, AF ++ BF, AN ++ BN, hlt9.out, by go_num, hR4.out, hA4.out, hX4.out⟩
      case measure => simp [intOf]; have := hlt9.out; omega
    · have hkn : len = k := by omega
      subst hkn
      have cK := Lib.hid (hRk.keepNode (by have := hn9.out; omega) a len c)
      replace hRk := Lib.hid hRk
      go_wp2_with (go_at_call 28; refine cK.out.mono ?_)
      rintro e w3 ⟨rfl, hs3, hR3, hX3⟩
      have hfin : Hid (RegP B n hs LV LF LN w0 W ((List.range len).flatMap RR ++ [⟨53, 5, .slice a len c, len⟩]) (.returned (.tuple #[])) w3) := by
        have hA1 : Add [⟨53, 5, .slice a len c, len⟩] [] [] [⟨.slice a len c, len, n + ((List.range len).flatMap RR).length + 1, .slice none 0 0⟩] (n + ((List.range len).flatMap RR).length + 1) := by
          refine ⟨by simp [EApart], fun x hx => ?_, fun x hx => ?_, fun x hx => ?_, fun x hx => ?_⟩ <;> simp at hx <;> subst hx <;> simp
        have hA2 := hAk.comb hA1 (Nat.le_succ _) hap.out
        refine ⟨rfl, hs3, _, _, _, ?_, by rw [List.length_append]; exact hA2, hXk.trans hX3⟩
        rw [List.length_append]
        simp only [List.length_cons, List.length_nil, Nat.zero_add, ← Nat.add_assoc, ← List.append_assoc, List.append_nil]
        exact hR3
      clear hR3 hX3
      go_wp2_with fail
      exact bodyPost_end (v := .tuple #[]) (results_none (by kernel_rfl) _ _ _) rfl hfin.out
set_option maxHeartbeats 4000000 in
set_option maxRecDepth 100000 in
theorem bVal_of (v : Val) (h1 : BVals v.L) (h2 : BFlds v.F) : BVal v := by
  intro q R base m mk B n hs LV LF LN w0 W hm hO hap hn hR
  obtain ⟨R1, R2, rfl, o1, o2⟩ := hO.val_inv
  rw [List.length_append] at hn
  have hlt := hR.book.lt
  have hlV := hR.oV.lt
  have hlF := hR.oF.lt
  have hlN := hR.oN.lt
  obtain ⟨S, hS⟩ : ∃ S, S = W.alloc (.cells #[.int .u8 v.kind, .int .i64 v.n, .string v.s, .slice q.la q.ln q.lc, .slice q.fa q.fn q.fc, .int .u8 v.elem, .string v.key, .bool v.hk] 59) := ⟨_, rfl⟩
  have hbS : Below W.heap.size W S := by rw [hS]; exact (Below.refl _ _).alloc (Nat.le_refl _) _
  have hrS : S.heap[W.heap.size]? = some (.cells #[.int .u8 v.kind, .int .i64 v.n, .string v.s, .slice q.la q.ln q.lc, .slice q.fa q.fn q.fc, .int .u8 v.elem, .string v.key, .bool v.hk] 59 (0, 0)) := by rw [hS]; exact heap_alloc_new W _
  have hzS : S.heap.size = W.heap.size + 1 := by rw [hS]; simp
  have x0 : S.cell? ⟨W.heap.size, 0, none⟩ = some (.int .u8 v.kind) := by simp [World.cell?, hrS]
  have x1 : S.cell? ⟨W.heap.size, 1, none⟩ = some (.int .i64 v.n) := by simp [World.cell?, hrS]
  have x2 : S.cell? ⟨W.heap.size, 2, none⟩ = some (.string v.s) := by simp [World.cell?, hrS]
  have x3 : S.cell? ⟨W.heap.size, 3, none⟩ = some (.slice q.la q.ln q.lc) := by simp [World.cell?, hrS]
  have x4 : S.cell? ⟨W.heap.size, 4, none⟩ = some (.slice q.fa q.fn q.fc) := by simp [World.cell?, hrS]
  have x5 : S.cell? ⟨W.heap.size, 5, none⟩ = some (.int .u8 v.elem) := by simp [World.cell?, hrS]
  have x6 : S.cell? ⟨W.heap.size, 6, none⟩ = some (.string v.key) := by simp [World.cell?, hrS]
  have x7 : S.cell? ⟨W.heap.size, 7, none⟩ = some (.bool v.hk) := by simp [World.cell?, hrS]
  have hWS : Hid (S = _) := hS
  replace hrS := Lib.hid hrS
  clear hS
  have c1 := h1 q.la q.ln q.lc R1 base m mk B n hs LV LF LN w0 S hm o1 hap.left (by omega) (hR.later hbS)
  have hS1 := Lib.hid hbS
  replace c1 := Lib.hid c1
  replace hR := Lib.hid hR
  replace o1 := Lib.hid o1
  replace o2 := Lib.hid o2
  replace hO := Lib.hid hO
  replace hap := Lib.hid hap
  replace h2 := Lib.hid h2
  replace h1 := Lib.hid h1
  replace hlV := Lib.hid hlV
  replace hlF := Lib.hid hlF
  replace hlN := Lib.hid hlN
  have hn9 : Hid (n + (R1.length + R2.length) ≤ 1073741824) := hn
  clear hn hbS
  go_enter Tryz.func166, Tryz.ntmps166
  go_wp2_with (first | (rw [← hWS.out]) | (go_at_call 180; refine c1.out.mono ?_))
  rintro e w3 ⟨rfl, hs3, AV, AF, AN, hR3, hA3, hX3⟩
  have y4 : w3.cell? ⟨W.heap.size, 4, none⟩ = some (.slice q.fa q.fn q.fc) := (hX3.frm.cell (p := ⟨W.heap.size, 4, none⟩) (by show W.heap.size < _; omega) (fun h9 => by
    rcases h9 with h9 | h9 | h9 | h9
    · have : W.heap.size = B := h9; omega
    · have := (hlV.out _ h9).2; show False; exact Nat.lt_irrefl _ this
    · have := (hlF.out _ h9).2; show False; exact Nat.lt_irrefl _ this
    · have := (hlN.out _ h9).2; show False; exact Nat.lt_irrefl _ this)).trans x4
  have c2 := h2.out q.fa q.fn q.fc R2 base m mk B (n + R1.length) hs3 _ _ _ w0 w3 hm o2.out hap.out.right (by have := hn9.out; omega) hR3
  replace c2 := Lib.hid c2
  replace hR3 := Lib.hid hR3
  replace hX3 := Lib.hid hX3
  replace hA3 := Lib.hid hA3
  clear x0 x1 x2 x3 x4 x5 x6 x7
  go_wp2_with (go_at_call 95; refine c2.out.mono ?_)
  rintro e w4 ⟨rfl, hs4, BV, BF, BN, hR4, hA4, hX4⟩
  have hfin : Hid (RegP B n hs LV LF LN w0 W (R1 ++ R2) (.returned (.tuple #[])) w4) := by
    refine ⟨rfl, hs4, AV ++ BV, AF ++ BF, AN ++ BN, ?_, ?_, (hX3.out.trans hX4).later hS1.out⟩
    · rw [List.length_append, ← Nat.add_assoc, ← List.append_assoc, ← List.append_assoc, ← List.append_assoc]; exact hR4
    · rw [List.length_append, ← Nat.add_assoc]; exact hA3.out.comb hA4 (Nat.le_add_right _ _) hap.out
  clear hR4 hA4 hX4
  go_wp2_with fail
  exact bodyPost_end (v := .tuple #[]) (results_none (by kernel_rfl) _ _ _) rfl hfin.out
set_option maxHeartbeats 4000000 in
set_option maxRecDepth 100000 in
theorem bNd_of (v : Nd) (h1 : BFlds v.attrs) (h2 : BNds v.kids) : BNd v := by
  intro q R base m mk B n hs LV LF LN w0 W hm hO hap hn hR
  obtain ⟨R1, R2, rfl, o1, o2⟩ := hO.nd_inv
  rw [List.length_append] at hn
  have hlt := hR.book.lt
  have hlV := hR.oV.lt
  have hlF := hR.oF.lt
  have hlN := hR.oN.lt
  obtain ⟨S, hS⟩ : ∃ S, S = W.alloc (.cells #[.int .i64 v.id, .string v.tag, .string v.text, .slice q.aa q.an q.ac, .slice q.ka q.kn q.kc] 53) := ⟨_, rfl⟩
  have hbS : Below W.heap.size W S := by rw [hS]; exact (Below.refl _ _).alloc (Nat.le_refl _) _
  have hrS : S.heap[W.heap.size]? = some (.cells #[.int .i64 v.id, .string v.tag, .string v.text, .slice q.aa q.an q.ac, .slice q.ka q.kn q.kc] 53 (0, 0)) := by rw [hS]; exact heap_alloc_new W _
  have hzS : S.heap.size = W.heap.size + 1 := by rw [hS]; simp
  have x0 : S.cell? ⟨W.heap.size, 0, none⟩ = some (.int .i64 v.id) := by simp [World.cell?, hrS]
  have x1 : S.cell? ⟨W.heap.size, 1, none⟩ = some (.string v.tag) := by simp [World.cell?, hrS]
  have x2 : S.cell? ⟨W.heap.size, 2, none⟩ = some (.string v.text) := by simp [World.cell?, hrS]
  have x3 : S.cell? ⟨W.heap.size, 3, none⟩ = some (.slice q.aa q.an q.ac) := by simp [World.cell?, hrS]
  have x4 : S.cell? ⟨W.heap.size, 4, none⟩ = some (.slice q.ka q.kn q.kc) := by simp [World.cell?, hrS]
  have hWS : Hid (S = _) := hS
  replace hrS := Lib.hid hrS
  clear hS
  have c1 := h1 q.aa q.an q.ac R1 base m mk B n hs LV LF LN w0 S hm o1 hap.left (by omega) (hR.later hbS)
  have hS1 := Lib.hid hbS
  replace c1 := Lib.hid c1
  replace hR := Lib.hid hR
  replace o1 := Lib.hid o1
  replace o2 := Lib.hid o2
  replace hO := Lib.hid hO
  replace hap := Lib.hid hap
  replace h2 := Lib.hid h2
  replace h1 := Lib.hid h1
  replace hlV := Lib.hid hlV
  replace hlF := Lib.hid hlF
  replace hlN := Lib.hid hlN
  have hn9 : Hid (n + (R1.length + R2.length) ≤ 1073741824) := hn
  clear hn hbS
  go_enter Tryz.func27, Tryz.ntmps27
  go_wp2_with (first | (rw [← hWS.out]) | (go_at_call 95; refine c1.out.mono ?_))
  rintro e w3 ⟨rfl, hs3, AV, AF, AN, hR3, hA3, hX3⟩
  have y4 : w3.cell? ⟨W.heap.size, 4, none⟩ = some (.slice q.ka q.kn q.kc) := (hX3.frm.cell (p := ⟨W.heap.size, 4, none⟩) (by show W.heap.size < _; omega) (fun h9 => by
    rcases h9 with h9 | h9 | h9 | h9
    · have : W.heap.size = B := h9; omega
    · have := (hlV.out _ h9).2; show False; exact Nat.lt_irrefl _ this
    · have := (hlF.out _ h9).2; show False; exact Nat.lt_irrefl _ this
    · have := (hlN.out _ h9).2; show False; exact Nat.lt_irrefl _ this)).trans x4
  have c2 := h2.out q.ka q.kn q.kc R2 base m mk B (n + R1.length) hs3 _ _ _ w0 w3 hm o2.out hap.out.right (by have := hn9.out; omega) hR3
  replace c2 := Lib.hid c2
  replace hR3 := Lib.hid hR3
  replace hX3 := Lib.hid hX3
  replace hA3 := Lib.hid hA3
  clear x0 x1 x2 x3 x4
  go_wp2_with (go_at_call 13; refine c2.out.mono ?_)
  rintro e w4 ⟨rfl, hs4, BV, BF, BN, hR4, hA4, hX4⟩
  have hfin : Hid (RegP B n hs LV LF LN w0 W (R1 ++ R2) (.returned (.tuple #[])) w4) := by
    refine ⟨rfl, hs4, AV ++ BV, AF ++ BF, AN ++ BN, ?_, ?_, (hX3.out.trans hX4).later hS1.out⟩
    · rw [List.length_append, ← Nat.add_assoc, ← List.append_assoc, ← List.append_assoc, ← List.append_assoc]; exact hR4
    · rw [List.length_append, ← Nat.add_assoc]; exact hA3.out.comb hA4 (Nat.le_add_right _ _) hap.out
  clear hR4 hA4 hX4
  go_wp2_with fail
  exact bodyPost_end (v := .tuple #[]) (results_none (by kernel_rfl) _ _ _) rfl hfin.out
set_option maxHeartbeats 4000000 in
set_option maxRecDepth 100000 in
theorem bFld_of (v : Fld) (h1 : BVal v.value) : BFld v := by
  intro q R base m mk B n hs LV LF LN w0 W hm hO hap hn hR
  have o1 := hO.fld_inv
  have hlt := hR.book.lt
  obtain ⟨S, hS⟩ : ∃ S, S = W.alloc (.cells #[.string v.name, .int .u8 v.value.kind, .int .i64 v.value.n, .string v.value.s, .slice q.la q.ln q.lc, .slice q.fa q.fn q.fc, .int .u8 v.value.elem, .string v.value.key, .bool v.value.hk] 61) := ⟨_, rfl⟩
  have hbS : Below W.heap.size W S := by rw [hS]; exact (Below.refl _ _).alloc (Nat.le_refl _) _
  have hrS : S.heap[W.heap.size]? = some (.cells #[.string v.name, .int .u8 v.value.kind, .int .i64 v.value.n, .string v.value.s, .slice q.la q.ln q.lc, .slice q.fa q.fn q.fc, .int .u8 v.value.elem, .string v.value.key, .bool v.value.hk] 61 (0, 0)) := by rw [hS]; exact heap_alloc_new W _
  have hzS : S.heap.size = W.heap.size + 1 := by rw [hS]; simp
  have x0 : S.cell? ⟨W.heap.size, 0, none⟩ = some (.string v.name) := by simp [World.cell?, hrS]
  have x1 : S.cell? ⟨W.heap.size, 1, none⟩ = some (.int .u8 v.value.kind) := by simp [World.cell?, hrS]
  have x2 : S.cell? ⟨W.heap.size, 2, none⟩ = some (.int .i64 v.value.n) := by simp [World.cell?, hrS]
  have x3 : S.cell? ⟨W.heap.size, 3, none⟩ = some (.string v.value.s) := by simp [World.cell?, hrS]
  have x4 : S.cell? ⟨W.heap.size, 4, none⟩ = some (.slice q.la q.ln q.lc) := by simp [World.cell?, hrS]
  have x5 : S.cell? ⟨W.heap.size, 5, none⟩ = some (.slice q.fa q.fn q.fc) := by simp [World.cell?, hrS]
  have x6 : S.cell? ⟨W.heap.size, 6, none⟩ = some (.int .u8 v.value.elem) := by simp [World.cell?, hrS]
  have x7 : S.cell? ⟨W.heap.size, 7, none⟩ = some (.string v.value.key) := by simp [World.cell?, hrS]
  have x8 : S.cell? ⟨W.heap.size, 8, none⟩ = some (.bool v.value.hk) := by simp [World.cell?, hrS]
  have hWS : Hid (S = _) := hS
  replace hrS := Lib.hid hrS
  clear hS
  have c1 := h1 q R base m mk B n hs LV LF LN w0 S hm o1 hap hn (hR.later hbS)
  have hS1 := Lib.hid hbS
  replace c1 := Lib.hid c1
  replace hR := Lib.hid hR
  replace o1 := Lib.hid o1
  replace hO := Lib.hid hO
  replace hap := Lib.hid hap
  replace h1 := Lib.hid h1
  clear hn hbS
  go_enter Tryz.func142, Tryz.ntmps142
  go_wp2_with (first | (rw [← hWS.out]) | (go_at_call 166; refine c1.out.mono ?_))
  rintro e w3 ⟨rfl, hs3, AV, AF, AN, hR3, hA3, hX3⟩
  have hfin : Hid (RegP B n hs LV LF LN w0 W R (.returned (.tuple #[])) w3) := ⟨rfl, hs3, AV, AF, AN, hR3, hA3, hX3.later hS1.out⟩
  clear hR3 hA3 hX3
  go_wp2_with fail
  exact bodyPost_end (v := .tuple #[]) (results_none (by kernel_rfl) _ _ _) rfl hfin.out
theorem bVal_any (v : Val) : BVal v := Val.ind (fun k n s L F e key hk hL hF => bVal_of _ (bVals_of L hL) (bFlds_of F (fun f hf => bFld_of f (hF f hf)))) v
theorem bFlds_any (F : List Fld) : BFlds F := bFlds_of F (fun f _ => bFld_of f (bVal_any f.value))
theorem bNd_any (v : Nd) : BNd v := Nd.ind (fun i t x a K hK => bNd_of _ (bFlds_any a) (bNds_of K hK)) v
theorem bNds_any (L : List Nd) : BNds L := bNds_of L (fun v _ => bNd_any v)
end Go.Proofs.YtehcbicngbibgaaGreatDoor
