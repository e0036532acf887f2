/- A Book: what stands in it; its lists are apart. (By XGp.gen.py.) -/
import Derived.Test.YtehcbicngbibgaaGreatDoorZGn
import Derived.Test.YtehcbicngbibgaaGreatDoorZGfN
import Derived.Test.YtehcbicngbibgaaGreatDoorZGgN
import Derived.Test.YtehcbicngbibgaaGreatDoorZGlN
namespace Go.Proofs.YtehcbicngbibgaaGreatDoor
open Go Go.RowKit
/-- A Book in block B: n lists were kept, those of the kinds lie in hs. -/
def BookSt (W : World) (B n : Nat) (hs : Nat → Value) : Prop :=
  W.heap[B]? = some (.cells #[.int .i64 (n : Nat), hs 1, hs 2, hs 3, hs 4, hs 5, hs 6, hs 7, hs 8, hs 9, hs 10, hs 11, hs 12, hs 13, hs 14, hs 15, hs 16] 45 (0, 0))
theorem BookSt.c0 {W : World} {B n : Nat} {hs : Nat → Value} (h : BookSt W B n hs) : W.cell? ⟨B, 0, none⟩ = some (.int .i64 (n : Nat)) := by simp [World.cell?, show W.heap[B]? = _ from h]
theorem BookSt.fr {W : World} {B n : Nat} {hs : Nat → Value} (h : BookSt W B n hs) (j : Nat) : W.frozen? ⟨B, j, none⟩ = false := by simp [World.frozen?, show W.heap[B]? = _ from h]
theorem BookSt.lt {W : World} {B n : Nat} {hs : Nat → Value} (h : BookSt W B n hs) : B < W.heap.size := (Array.getElem?_eq_some_iff.1 (show W.heap[B]? = _ from h)).1
theorem BookSt.ce {W : World} {B n : Nat} {hs : Nat → Value} (h : BookSt W B n hs) (j : Nat) (h1 : 1 ≤ j) (h2 : j ≤ 16) : W.cell? ⟨B, j, none⟩ = some (hs j) := by
  simp only [World.cell?, show W.heap[B]? = _ from h]
  rcases (by omega : j = 1 ∨ j = 2 ∨ j = 3 ∨ j = 4 ∨ j = 5 ∨ j = 6 ∨ j = 7 ∨ j = 8 ∨ j = 9 ∨ j = 10 ∨ j = 11 ∨ j = 12 ∨ j = 13 ∨ j = 14 ∨ j = 15 ∨ j = 16) with rfl | rfl | rfl | rfl | rfl | rfl | rfl | rfl | rfl | rfl | rfl | rfl | rfl | rfl | rfl | rfl <;> rfl
theorem BookSt.same {W W' : World} {B n : Nat} {hs : Nat → Value} (h : BookSt W B n hs) (he : W'.heap[B]? = W.heap[B]?) : BookSt W' B n hs := he.trans h
def upd (hs : Nat → Value) (j : Nat) (v : Value) : Nat → Value := fun i => if i = j then v else hs i
theorem BookSt.set0 {W : World} {B n : Nat} {hs : Nat → Value} (h : BookSt W B n hs) (m : Nat) : BookSt (W.setCell ⟨B, 0, none⟩ (.int .i64 (m : Nat))) B m hs := blk_set (show W.heap[B]? = _ from h) 0 (.int .i64 (m : Nat))
/-- The lists of one kind: raw, marked, grown. -/
def KS (base E K H : Nat) (mk : Nat → List Value) (wsz : Nat) (hv : Value) (L : List Ent) (st : Nat) (W : World) : Prop :=
  match st with
  | 0 => W.ownsRow base H 3 hv L.length (hcells L) ∧ ∀ x ∈ L, ∃ xs, W.ownsRow base E K x.v x.n xs
  | 1 => W.ownsRow base H 3 hv L.length (hcells L) ∧ ∀ x ∈ L, W.ownsRow base E K x.v x.n (marks mk x.i x.n)
  | _ => ∃ L', L'.length = L.length ∧ W.ownsRow base H 3 hv L.length (hcells L') ∧ (∀ x ∈ L', W.ownsRow base E K x.v x.n (marks mk x.i x.n) ∧ W.ownsRow base E K x.u (x.n + 40) (marks mk x.i (x.n + 40)) ∧ x.i ≤ 1073741824 ∧ x.n ≤ 1073741824 ∧ ∀ b, x.u.ownBlock = some b → x.v.ownBlock = some b ∨ wsz ≤ b) ∧ ∀ y ∈ L', ∃ x ∈ L, y.v = x.v
theorem KS.keep {base E K H : Nat} {mk : Nat → List Value} {wsz : Nat} {hv : Value} {L : List Ent} {st : Nat} {W W' : World} {P : Nat → Prop} (h : KS base E K H mk wsz hv L st W) (hF : Frm P W W') (h1 : ∀ b, hv.ownBlock = some b → ¬ P b) (h2 : ∀ x ∈ L, ∀ b, x.v.ownBlock = some b → ¬ P b) (h3 : ∀ b, P b → b < wsz) : KS base E K H mk wsz hv L st W' := by
  match st, h with
  | 0, h => exact ⟨hF.own h.1 h1, fun x hx => by obtain ⟨xs, h9⟩ := h.2 x hx; exact ⟨xs, hF.own h9 (h2 x hx)⟩⟩
  | 1, h => exact ⟨hF.own h.1 h1, fun x hx => hF.own (h.2 x hx) (h2 x hx)⟩
  | _ + 2, h =>
    obtain ⟨L', g1, g2, g3, g4⟩ := h
    refine ⟨L', g1, hF.own g2 h1, fun x hx => ?_, g4⟩
    obtain ⟨p1, p2, p3, p4, p5⟩ := g3 x hx
    obtain ⟨y, hy, e⟩ := g4 x hx
    have hv2 : ∀ b, x.v.ownBlock = some b → ¬ P b := fun b hb => h2 y hy b (by rw [← e]; exact hb)
    refine ⟨hF.own p1 hv2, hF.own p2 (fun b hb hp => ?_), p3, p4, p5⟩
    rcases p5 b hb with h | h
    · exact hv2 b h hp
    · have := h3 b hp; omega
/-- What does not change while a Book is asked. -/
structure Good (base B : Nat) (hs : Nat → Value) (LV LF LN : List Ent) (w : World) : Prop where
  eb : EnvUnder base
  bB : base ≤ B
  nil : ∀ j, 1 ≤ j → j ≤ 16 → j ≠ 3 → j ≠ 4 → j ≠ 13 → hs j = .slice none 0 0
  ap : EApart (LV ++ (LF ++ LN))
  xs : ∀ x ∈ LV ++ (LF ++ LN), x.i ≤ 1073741824 ∧ x.n ≤ 1073741824 ∧ x.u = .slice none 0 0 ∧ ∀ b, x.v.ownBlock = some b → b ≠ B ∧ (hs 3).ownBlock ≠ some b ∧ (hs 4).ownBlock ≠ some b ∧ (hs 13).ownBlock ≠ some b ∧ b < w.heap.size ∧ base ≤ b
  lens : LV.length ≤ 1073741824 ∧ LF.length ≤ 1073741824 ∧ LN.length ≤ 1073741824
  hl : ∀ b, (hs 3).ownBlock = some b ∨ (hs 4).ownBlock = some b ∨ (hs 13).ownBlock = some b → b ≠ B ∧ b < w.heap.size ∧ base ≤ b
  h34 : ∀ b, (hs 3).ownBlock = some b → (hs 4).ownBlock ≠ some b
  h313 : ∀ b, (hs 3).ownBlock = some b → (hs 13).ownBlock ≠ some b
  h413 : ∀ b, (hs 4).ownBlock = some b → (hs 13).ownBlock ≠ some b
theorem Good.xV {base B : Nat} {hs : Nat → Value} {LV LF LN : List Ent} {w : World} (h : Good base B hs LV LF LN w) : ∀ x ∈ LV, x ∈ LV ++ (LF ++ LN) := fun _ hx => List.mem_append_left _ hx
theorem Good.xF {base B : Nat} {hs : Nat → Value} {LV LF LN : List Ent} {w : World} (h : Good base B hs LV LF LN w) : ∀ x ∈ LF, x ∈ LV ++ (LF ++ LN) := fun _ hx => List.mem_append_right _ (List.mem_append_left _ hx)
theorem Good.xN {base B : Nat} {hs : Nat → Value} {LV LF LN : List Ent} {w : World} (h : Good base B hs LV LF LN w) : ∀ x ∈ LN, x ∈ LV ++ (LF ++ LN) := fun _ hx => List.mem_append_right _ (List.mem_append_right _ hx)
theorem Good.aV {base B : Nat} {hs : Nat → Value} {LV LF LN : List Ent} {w : World} (h : Good base B hs LV LF LN w) : EApart LV := (List.pairwise_append.1 h.ap).1
theorem Good.aF {base B : Nat} {hs : Nat → Value} {LV LF LN : List Ent} {w : World} (h : Good base B hs LV LF LN w) : EApart LF := (List.pairwise_append.1 (List.pairwise_append.1 h.ap).2.1).1
theorem Good.aN {base B : Nat} {hs : Nat → Value} {LV LF LN : List Ent} {w : World} (h : Good base B hs LV LF LN w) : EApart LN := (List.pairwise_append.1 (List.pairwise_append.1 h.ap).2.1).2.1
theorem Good.cVF {base B : Nat} {hs : Nat → Value} {LV LF LN : List Ent} {w : World} (h : Good base B hs LV LF LN w) {x y : Ent} (hx : x ∈ LV) (hy : y ∈ LF) : ∀ b, x.v.ownBlock = some b → y.v.ownBlock ≠ some b := (List.pairwise_append.1 h.ap).2.2 x hx y (List.mem_append_left _ hy)
theorem Good.cVN {base B : Nat} {hs : Nat → Value} {LV LF LN : List Ent} {w : World} (h : Good base B hs LV LF LN w) {x y : Ent} (hx : x ∈ LV) (hy : y ∈ LN) : ∀ b, x.v.ownBlock = some b → y.v.ownBlock ≠ some b := (List.pairwise_append.1 h.ap).2.2 x hx y (List.mem_append_right _ hy)
theorem Good.cFN {base B : Nat} {hs : Nat → Value} {LV LF LN : List Ent} {w : World} (h : Good base B hs LV LF LN w) {x y : Ent} (hx : x ∈ LF) (hy : y ∈ LN) : ∀ b, x.v.ownBlock = some b → y.v.ownBlock ≠ some b := (List.pairwise_append.1 (List.pairwise_append.1 h.ap).2.1).2.2 x hx y hy
theorem Good.cFV {base B : Nat} {hs : Nat → Value} {LV LF LN : List Ent} {w : World} (h : Good base B hs LV LF LN w) {x y : Ent} (hx : x ∈ LF) (hy : y ∈ LV) : ∀ b, x.v.ownBlock = some b → y.v.ownBlock ≠ some b := fun b hb e => h.cVF hy hx b e hb
theorem Good.cNV {base B : Nat} {hs : Nat → Value} {LV LF LN : List Ent} {w : World} (h : Good base B hs LV LF LN w) {x y : Ent} (hx : x ∈ LN) (hy : y ∈ LV) : ∀ b, x.v.ownBlock = some b → y.v.ownBlock ≠ some b := fun b hb e => h.cVN hy hx b e hb
theorem Good.cNF {base B : Nat} {hs : Nat → Value} {LV LF LN : List Ent} {w : World} (h : Good base B hs LV LF LN w) {x y : Ent} (hx : x ∈ LN) (hy : y ∈ LF) : ∀ b, x.v.ownBlock = some b → y.v.ownBlock ≠ some b := fun b hb e => h.cFN hy hx b e hb
theorem Good.dVF {base B : Nat} {hs : Nat → Value} {LV LF LN : List Ent} {w : World} (h : Good base B hs LV LF LN w) : ∀ b, (hs 3).ownBlock = some b → (hs 4).ownBlock ≠ some b := h.h34
theorem Good.dVN {base B : Nat} {hs : Nat → Value} {LV LF LN : List Ent} {w : World} (h : Good base B hs LV LF LN w) : ∀ b, (hs 3).ownBlock = some b → (hs 13).ownBlock ≠ some b := h.h313
theorem Good.dFN {base B : Nat} {hs : Nat → Value} {LV LF LN : List Ent} {w : World} (h : Good base B hs LV LF LN w) : ∀ b, (hs 4).ownBlock = some b → (hs 13).ownBlock ≠ some b := h.h413
theorem Good.dFV {base B : Nat} {hs : Nat → Value} {LV LF LN : List Ent} {w : World} (h : Good base B hs LV LF LN w) : ∀ b, (hs 4).ownBlock = some b → (hs 3).ownBlock ≠ some b := fun b hb e => h.h34 b e hb
theorem Good.dNV {base B : Nat} {hs : Nat → Value} {LV LF LN : List Ent} {w : World} (h : Good base B hs LV LF LN w) : ∀ b, (hs 13).ownBlock = some b → (hs 3).ownBlock ≠ some b := fun b hb e => h.h313 b e hb
theorem Good.dNF {base B : Nat} {hs : Nat → Value} {LV LF LN : List Ent} {w : World} (h : Good base B hs LV LF LN w) : ∀ b, (hs 13).ownBlock = some b → (hs 4).ownBlock ≠ some b := fun b hb e => h.h413 b e hb
/-- Where a Book stands while it is asked. -/
structure All (base B n : Nat) (hs : Nat → Value) (LV LF LN : List Ent) (w : World) (a b c : Nat) (W : World) : Prop where
  book : BookSt W B n hs
  env : Env W
  low : Below base w W
  ksV : KS base 59 8 102 mkValue w.heap.size (hs 3) LV a W
  ksF : KS base 61 9 105 mkField w.heap.size (hs 4) LF b W
  ksN : KS base 53 5 93 mkNode w.heap.size (hs 13) LN c W
theorem fillV_all {base B n : Nat} {hs : Nat → Value} {LV LF LN : List Ent} {w : World} (hG : Good base B hs LV LF LN w) {b c : Nat} {W : World} (h : All base B n hs LV LF LN w 0 b c W) :
    Calls Tryz.prog 31 #[.pointer (some ⟨B, 0, none⟩)] W fun e w' => e = .returned (.tuple #[]) ∧ All base B n hs LV LF LN w 1 b c w' := by
  refine (fillValue_any base B (hs 3) LV W h.env hG.eb (h.book.ce 3 (by omega) (by omega)) h.book.lt hG.bB hG.lens.1 h.ksV.1 (fun x hx => ⟨h.ksV.2 x hx, (hG.xs x (hG.xV x hx)).1, by have := (hG.xs x (hG.xV x hx)).2.1; omega, (hG.xs x (hG.xV x hx)).2.2.1, fun e => ((hG.xs x (hG.xV x hx)).2.2.2 B e).1 rfl, fun q hq e => ((hG.xs x (hG.xV x hx)).2.2.2 q e).2.1 hq⟩) hG.aV).mono ?_
  rintro e w' ⟨he, hm, hF⟩
  have hlw : Below base W w' := hF.low (by have := h.book.lt; have := hG.bB; omega) (fun b ⟨x, hx, hb⟩ => ((hG.xs x (hG.xV x hx)).2.2.2 b hb).2.2.2.2.2)
  have hbk : BookSt w' B n hs := h.book.same (hF.block B h.book.lt (fun ⟨x, hx, hb⟩ => ((hG.xs x (hG.xV x hx)).2.2.2 B hb).1 rfl))
  have kF := h.ksF.keep hF (fun b hb ⟨x, hx, hxb⟩ => ((hG.xs x (hG.xV x hx)).2.2.2 b hxb).2.2.1 hb) (fun y hy b hyb ⟨x, hx, hxb⟩ => hG.cVF hx hy b hxb hyb) (fun b ⟨x, hx, hb⟩ => ((hG.xs x (hG.xV x hx)).2.2.2 b hb).2.2.2.2.1)
  have kN := h.ksN.keep hF (fun b hb ⟨x, hx, hxb⟩ => ((hG.xs x (hG.xV x hx)).2.2.2 b hxb).2.2.2.1 hb) (fun y hy b hyb ⟨x, hx, hxb⟩ => hG.cVN hx hy b hxb hyb) (fun b ⟨x, hx, hb⟩ => ((hG.xs x (hG.xV x hx)).2.2.2 b hb).2.2.2.2.1)
  have ho : w'.ownsRow base 102 3 (hs 3) LV.length (hcells LV) := hF.own h.ksV.1 (fun b hb ⟨x, hx, hxb⟩ => ((hG.xs x (hG.xV x hx)).2.2.2 b hxb).2.1 hb)
  exact ⟨he, ⟨hbk, h.env.below hlw hG.eb, h.low.trans hlw, ⟨ho, hm⟩, kF, kN⟩⟩
theorem growV_all {base B n : Nat} {hs : Nat → Value} {LV LF LN : List Ent} {w : World} (hG : Good base B hs LV LF LN w) {b c : Nat} {W : World} (h : All base B n hs LV LF LN w 1 b c W) :
    Calls Tryz.prog 47 #[.pointer (some ⟨B, 0, none⟩)] W fun e w' => e = .returned (.tuple #[]) ∧ All base B n hs LV LF LN w 2 b c w' := by
  refine (growValue_any base B (hs 3) LV W h.env hG.eb (h.book.ce 3 (by omega) (by omega)) h.book.lt hG.bB hG.lens.1 (fun b hb => (hG.hl b (.inl hb)).1) h.ksV.1 (fun x hx => ⟨h.ksV.2 x hx, (hG.xs x (hG.xV x hx)).1, (hG.xs x (hG.xV x hx)).2.1, (hG.xs x (hG.xV x hx)).2.2.1, fun e => ((hG.xs x (hG.xV x hx)).2.2.2 B e).1 rfl, fun q hq e => ((hG.xs x (hG.xV x hx)).2.2.2 q e).2.1 hq⟩) hG.aV).mono ?_
  rintro e w' ⟨he, L', hU, hm, ho, hF⟩
  have hlw : Below base W w' := hF.low (by have := h.book.lt; have := hG.bB; omega) (fun b h => by
      rcases h with ⟨x, hx, hb⟩ | hb
      · exact ((hG.xs x (hG.xV x hx)).2.2.2 b hb).2.2.2.2.2
      · exact (hG.hl b (.inl hb)).2.2)
  have hbk : BookSt w' B n hs := h.book.same (hF.block B h.book.lt (fun h => by
      rcases h with ⟨x, hx, hb⟩ | hb
      · exact ((hG.xs x (hG.xV x hx)).2.2.2 B hb).1 rfl
      · exact (hG.hl B (.inl hb)).1 rfl))
  have kF := h.ksF.keep hF (fun b hb h => by
      rcases h with ⟨x, hx, hxb⟩ | hxb
      · exact ((hG.xs x (hG.xV x hx)).2.2.2 b hxb).2.2.1 hb
      · exact hG.dVF b hxb hb) (fun y hy b hyb h => by
      rcases h with ⟨x, hx, hxb⟩ | hxb
      · exact hG.cVF hx hy b hxb hyb
      · exact ((hG.xs y (hG.xF y hy)).2.2.2 b hyb).2.1 hxb) (fun b h => by
      rcases h with ⟨x, hx, hb⟩ | hb
      · exact ((hG.xs x (hG.xV x hx)).2.2.2 b hb).2.2.2.2.1
      · exact (hG.hl b (.inl hb)).2.1)
  have kN := h.ksN.keep hF (fun b hb h => by
      rcases h with ⟨x, hx, hxb⟩ | hxb
      · exact ((hG.xs x (hG.xV x hx)).2.2.2 b hxb).2.2.2.1 hb
      · exact hG.dVN b hxb hb) (fun y hy b hyb h => by
      rcases h with ⟨x, hx, hxb⟩ | hxb
      · exact hG.cVN hx hy b hxb hyb
      · exact ((hG.xs y (hG.xN y hy)).2.2.2 b hyb).2.1 hxb) (fun b h => by
      rcases h with ⟨x, hx, hb⟩ | hb
      · exact ((hG.xs x (hG.xV x hx)).2.2.2 b hb).2.2.2.2.1
      · exact (hG.hl b (.inl hb)).2.1)
  refine ⟨he, ⟨hbk, h.env.below hlw hG.eb, h.low.trans hlw, ⟨L', hU.1, ho, ?_, ?_⟩, kF, kN⟩⟩
  · intro y hy
    obtain ⟨q, hq, e⟩ := List.getElem_of_mem hy
    have hq2 : q < LV.length := by rw [← hU.1]; exact hq
    obtain ⟨z, g1, g2, g3, g4, g5, _⟩ := hU.2 q _ (List.getElem?_eq_getElem hq2)
    rw [List.getElem?_eq_getElem hq, e] at g1
    injection g1 with g1
    subst g1
    obtain ⟨p1, p2⟩ := g5 hq2
    have hx := List.getElem_mem hq2
    have hxs := hG.xs _ (hG.xV _ hx)
    refine ⟨by rw [g2, g3, g4]; exact hm _ hx, by rw [g3, g4]; exact p1, by rw [g4]; exact hxs.1, by rw [g3]; exact hxs.2.1, fun b hb => ?_⟩
    rcases p2 b hb with h9 | h9
    · exact .inl (by rw [g2]; exact h9)
    · exact .inr (by have := h.low.size; omega)
  · intro y hy
    obtain ⟨q, hq, e⟩ := List.getElem_of_mem hy
    have hq2 : q < LV.length := by rw [← hU.1]; exact hq
    obtain ⟨z, g1, g2, _⟩ := hU.2 q _ (List.getElem?_eq_getElem hq2)
    rw [List.getElem?_eq_getElem hq, e] at g1
    injection g1 with g1
    subst g1
    exact ⟨_, List.getElem_mem hq2, g2⟩
theorem lookV_all {base B n : Nat} {hs : Nat → Value} {LV LF LN : List Ent} {w : World} (hG : Good base B hs LV LF LN w) {b c : Nat} {W : World} (h : All base B n hs LV LF LN w 2 b c W) :
    Calls Tryz.prog 63 #[.pointer (some ⟨B, 0, none⟩)] W fun e w' => e = .returned (.bool true) ∧ All base B n hs LV LF LN w 2 b c w' := by
  obtain ⟨L', g1, g2, g3, g4⟩ := h.ksV
  refine (lookValue_any base B (hs 3) L' W h.env (h.book.ce 3 (by omega) (by omega)) h.book.lt (by rw [g1]; exact hG.lens.1) (by rw [g1]; exact g2) (fun x hx => ⟨(g3 x hx).1, (g3 x hx).2.1, (g3 x hx).2.2.1, (g3 x hx).2.2.2.1⟩)).mono ?_
  rintro e w' ⟨he, hb⟩
  have hF : Frm (fun _ => False) W w' := Frm.of_below hb
  have hlw : Below base W w' := hb.mono (by have := h.book.lt; have := hG.bB; omega)
  exact ⟨he, h.book.same (hb.block B h.book.lt), h.env.kept hb, h.low.trans hlw, h.ksV.keep hF (fun _ _ h => h) (fun _ _ _ _ h => h) (fun _ h => h.elim), h.ksF.keep hF (fun _ _ h => h) (fun _ _ _ _ h => h) (fun _ h => h.elim), h.ksN.keep hF (fun _ _ h => h) (fun _ _ _ _ h => h) (fun _ h => h.elim)⟩
theorem fillF_all {base B n : Nat} {hs : Nat → Value} {LV LF LN : List Ent} {w : World} (hG : Good base B hs LV LF LN w) {a c : Nat} {W : World} (h : All base B n hs LV LF LN w a 0 c W) :
    Calls Tryz.prog 32 #[.pointer (some ⟨B, 0, none⟩)] W fun e w' => e = .returned (.tuple #[]) ∧ All base B n hs LV LF LN w a 1 c w' := by
  refine (fillField_any base B (hs 4) LF W h.env hG.eb (h.book.ce 4 (by omega) (by omega)) h.book.lt hG.bB hG.lens.2.1 h.ksF.1 (fun x hx => ⟨h.ksF.2 x hx, (hG.xs x (hG.xF x hx)).1, by have := (hG.xs x (hG.xF x hx)).2.1; omega, (hG.xs x (hG.xF x hx)).2.2.1, fun e => ((hG.xs x (hG.xF x hx)).2.2.2 B e).1 rfl, fun q hq e => ((hG.xs x (hG.xF x hx)).2.2.2 q e).2.2.1 hq⟩) hG.aF).mono ?_
  rintro e w' ⟨he, hm, hF⟩
  have hlw : Below base W w' := hF.low (by have := h.book.lt; have := hG.bB; omega) (fun b ⟨x, hx, hb⟩ => ((hG.xs x (hG.xF x hx)).2.2.2 b hb).2.2.2.2.2)
  have hbk : BookSt w' B n hs := h.book.same (hF.block B h.book.lt (fun ⟨x, hx, hb⟩ => ((hG.xs x (hG.xF x hx)).2.2.2 B hb).1 rfl))
  have kV := h.ksV.keep hF (fun b hb ⟨x, hx, hxb⟩ => ((hG.xs x (hG.xF x hx)).2.2.2 b hxb).2.1 hb) (fun y hy b hyb ⟨x, hx, hxb⟩ => hG.cFV hx hy b hxb hyb) (fun b ⟨x, hx, hb⟩ => ((hG.xs x (hG.xF x hx)).2.2.2 b hb).2.2.2.2.1)
  have kN := h.ksN.keep hF (fun b hb ⟨x, hx, hxb⟩ => ((hG.xs x (hG.xF x hx)).2.2.2 b hxb).2.2.2.1 hb) (fun y hy b hyb ⟨x, hx, hxb⟩ => hG.cFN hx hy b hxb hyb) (fun b ⟨x, hx, hb⟩ => ((hG.xs x (hG.xF x hx)).2.2.2 b hb).2.2.2.2.1)
  have ho : w'.ownsRow base 105 3 (hs 4) LF.length (hcells LF) := hF.own h.ksF.1 (fun b hb ⟨x, hx, hxb⟩ => ((hG.xs x (hG.xF x hx)).2.2.2 b hxb).2.2.1 hb)
  exact ⟨he, ⟨hbk, h.env.below hlw hG.eb, h.low.trans hlw, kV, ⟨ho, hm⟩, kN⟩⟩
theorem growF_all {base B n : Nat} {hs : Nat → Value} {LV LF LN : List Ent} {w : World} (hG : Good base B hs LV LF LN w) {a c : Nat} {W : World} (h : All base B n hs LV LF LN w a 1 c W) :
    Calls Tryz.prog 48 #[.pointer (some ⟨B, 0, none⟩)] W fun e w' => e = .returned (.tuple #[]) ∧ All base B n hs LV LF LN w a 2 c w' := by
  refine (growField_any base B (hs 4) LF W h.env hG.eb (h.book.ce 4 (by omega) (by omega)) h.book.lt hG.bB hG.lens.2.1 (fun b hb => (hG.hl b (.inr (.inl hb))).1) h.ksF.1 (fun x hx => ⟨h.ksF.2 x hx, (hG.xs x (hG.xF x hx)).1, (hG.xs x (hG.xF x hx)).2.1, (hG.xs x (hG.xF x hx)).2.2.1, fun e => ((hG.xs x (hG.xF x hx)).2.2.2 B e).1 rfl, fun q hq e => ((hG.xs x (hG.xF x hx)).2.2.2 q e).2.2.1 hq⟩) hG.aF).mono ?_
  rintro e w' ⟨he, L', hU, hm, ho, hF⟩
  have hlw : Below base W w' := hF.low (by have := h.book.lt; have := hG.bB; omega) (fun b h => by
      rcases h with ⟨x, hx, hb⟩ | hb
      · exact ((hG.xs x (hG.xF x hx)).2.2.2 b hb).2.2.2.2.2
      · exact (hG.hl b (.inr (.inl hb))).2.2)
  have hbk : BookSt w' B n hs := h.book.same (hF.block B h.book.lt (fun h => by
      rcases h with ⟨x, hx, hb⟩ | hb
      · exact ((hG.xs x (hG.xF x hx)).2.2.2 B hb).1 rfl
      · exact (hG.hl B (.inr (.inl hb))).1 rfl))
  have kV := h.ksV.keep hF (fun b hb h => by
      rcases h with ⟨x, hx, hxb⟩ | hxb
      · exact ((hG.xs x (hG.xF x hx)).2.2.2 b hxb).2.1 hb
      · exact hG.dFV b hxb hb) (fun y hy b hyb h => by
      rcases h with ⟨x, hx, hxb⟩ | hxb
      · exact hG.cFV hx hy b hxb hyb
      · exact ((hG.xs y (hG.xV y hy)).2.2.2 b hyb).2.2.1 hxb) (fun b h => by
      rcases h with ⟨x, hx, hb⟩ | hb
      · exact ((hG.xs x (hG.xF x hx)).2.2.2 b hb).2.2.2.2.1
      · exact (hG.hl b (.inr (.inl hb))).2.1)
  have kN := h.ksN.keep hF (fun b hb h => by
      rcases h with ⟨x, hx, hxb⟩ | hxb
      · exact ((hG.xs x (hG.xF x hx)).2.2.2 b hxb).2.2.2.1 hb
      · exact hG.dFN b hxb hb) (fun y hy b hyb h => by
      rcases h with ⟨x, hx, hxb⟩ | hxb
      · exact hG.cFN hx hy b hxb hyb
      · exact ((hG.xs y (hG.xN y hy)).2.2.2 b hyb).2.2.1 hxb) (fun b h => by
      rcases h with ⟨x, hx, hb⟩ | hb
      · exact ((hG.xs x (hG.xF x hx)).2.2.2 b hb).2.2.2.2.1
      · exact (hG.hl b (.inr (.inl hb))).2.1)
  refine ⟨he, ⟨hbk, h.env.below hlw hG.eb, h.low.trans hlw, kV, ⟨L', hU.1, ho, ?_, ?_⟩, kN⟩⟩
  · intro y hy
    obtain ⟨q, hq, e⟩ := List.getElem_of_mem hy
    have hq2 : q < LF.length := by rw [← hU.1]; exact hq
    obtain ⟨z, g1, g2, g3, g4, g5, _⟩ := hU.2 q _ (List.getElem?_eq_getElem hq2)
    rw [List.getElem?_eq_getElem hq, e] at g1
    injection g1 with g1
    subst g1
    obtain ⟨p1, p2⟩ := g5 hq2
    have hx := List.getElem_mem hq2
    have hxs := hG.xs _ (hG.xF _ hx)
    refine ⟨by rw [g2, g3, g4]; exact hm _ hx, by rw [g3, g4]; exact p1, by rw [g4]; exact hxs.1, by rw [g3]; exact hxs.2.1, fun b hb => ?_⟩
    rcases p2 b hb with h9 | h9
    · exact .inl (by rw [g2]; exact h9)
    · exact .inr (by have := h.low.size; omega)
  · intro y hy
    obtain ⟨q, hq, e⟩ := List.getElem_of_mem hy
    have hq2 : q < LF.length := by rw [← hU.1]; exact hq
    obtain ⟨z, g1, g2, _⟩ := hU.2 q _ (List.getElem?_eq_getElem hq2)
    rw [List.getElem?_eq_getElem hq, e] at g1
    injection g1 with g1
    subst g1
    exact ⟨_, List.getElem_mem hq2, g2⟩
theorem lookF_all {base B n : Nat} {hs : Nat → Value} {LV LF LN : List Ent} {w : World} (hG : Good base B hs LV LF LN w) {a c : Nat} {W : World} (h : All base B n hs LV LF LN w a 2 c W) :
    Calls Tryz.prog 64 #[.pointer (some ⟨B, 0, none⟩)] W fun e w' => e = .returned (.bool true) ∧ All base B n hs LV LF LN w a 2 c w' := by
  obtain ⟨L', g1, g2, g3, g4⟩ := h.ksF
  refine (lookField_any base B (hs 4) L' W h.env (h.book.ce 4 (by omega) (by omega)) h.book.lt (by rw [g1]; exact hG.lens.2.1) (by rw [g1]; exact g2) (fun x hx => ⟨(g3 x hx).1, (g3 x hx).2.1, (g3 x hx).2.2.1, (g3 x hx).2.2.2.1⟩)).mono ?_
  rintro e w' ⟨he, hb⟩
  have hF : Frm (fun _ => False) W w' := Frm.of_below hb
  have hlw : Below base W w' := hb.mono (by have := h.book.lt; have := hG.bB; omega)
  exact ⟨he, h.book.same (hb.block B h.book.lt), h.env.kept hb, h.low.trans hlw, h.ksV.keep hF (fun _ _ h => h) (fun _ _ _ _ h => h) (fun _ h => h.elim), h.ksF.keep hF (fun _ _ h => h) (fun _ _ _ _ h => h) (fun _ h => h.elim), h.ksN.keep hF (fun _ _ h => h) (fun _ _ _ _ h => h) (fun _ h => h.elim)⟩
theorem fillN_all {base B n : Nat} {hs : Nat → Value} {LV LF LN : List Ent} {w : World} (hG : Good base B hs LV LF LN w) {a b : Nat} {W : World} (h : All base B n hs LV LF LN w a b 0 W) :
    Calls Tryz.prog 41 #[.pointer (some ⟨B, 0, none⟩)] W fun e w' => e = .returned (.tuple #[]) ∧ All base B n hs LV LF LN w a b 1 w' := by
  refine (fillNode_any base B (hs 13) LN W h.env hG.eb (h.book.ce 13 (by omega) (by omega)) h.book.lt hG.bB hG.lens.2.2 h.ksN.1 (fun x hx => ⟨h.ksN.2 x hx, (hG.xs x (hG.xN x hx)).1, by have := (hG.xs x (hG.xN x hx)).2.1; omega, (hG.xs x (hG.xN x hx)).2.2.1, fun e => ((hG.xs x (hG.xN x hx)).2.2.2 B e).1 rfl, fun q hq e => ((hG.xs x (hG.xN x hx)).2.2.2 q e).2.2.2.1 hq⟩) hG.aN).mono ?_
  rintro e w' ⟨he, hm, hF⟩
  have hlw : Below base W w' := hF.low (by have := h.book.lt; have := hG.bB; omega) (fun b ⟨x, hx, hb⟩ => ((hG.xs x (hG.xN x hx)).2.2.2 b hb).2.2.2.2.2)
  have hbk : BookSt w' B n hs := h.book.same (hF.block B h.book.lt (fun ⟨x, hx, hb⟩ => ((hG.xs x (hG.xN x hx)).2.2.2 B hb).1 rfl))
  have kV := h.ksV.keep hF (fun b hb ⟨x, hx, hxb⟩ => ((hG.xs x (hG.xN x hx)).2.2.2 b hxb).2.1 hb) (fun y hy b hyb ⟨x, hx, hxb⟩ => hG.cNV hx hy b hxb hyb) (fun b ⟨x, hx, hb⟩ => ((hG.xs x (hG.xN x hx)).2.2.2 b hb).2.2.2.2.1)
  have kF := h.ksF.keep hF (fun b hb ⟨x, hx, hxb⟩ => ((hG.xs x (hG.xN x hx)).2.2.2 b hxb).2.2.1 hb) (fun y hy b hyb ⟨x, hx, hxb⟩ => hG.cNF hx hy b hxb hyb) (fun b ⟨x, hx, hb⟩ => ((hG.xs x (hG.xN x hx)).2.2.2 b hb).2.2.2.2.1)
  have ho : w'.ownsRow base 93 3 (hs 13) LN.length (hcells LN) := hF.own h.ksN.1 (fun b hb ⟨x, hx, hxb⟩ => ((hG.xs x (hG.xN x hx)).2.2.2 b hxb).2.2.2.1 hb)
  exact ⟨he, ⟨hbk, h.env.below hlw hG.eb, h.low.trans hlw, kV, kF, ⟨ho, hm⟩⟩⟩
theorem growN_all {base B n : Nat} {hs : Nat → Value} {LV LF LN : List Ent} {w : World} (hG : Good base B hs LV LF LN w) {a b : Nat} {W : World} (h : All base B n hs LV LF LN w a b 1 W) :
    Calls Tryz.prog 57 #[.pointer (some ⟨B, 0, none⟩)] W fun e w' => e = .returned (.tuple #[]) ∧ All base B n hs LV LF LN w a b 2 w' := by
  refine (growNode_any base B (hs 13) LN W h.env hG.eb (h.book.ce 13 (by omega) (by omega)) h.book.lt hG.bB hG.lens.2.2 (fun b hb => (hG.hl b (.inr (.inr hb))).1) h.ksN.1 (fun x hx => ⟨h.ksN.2 x hx, (hG.xs x (hG.xN x hx)).1, (hG.xs x (hG.xN x hx)).2.1, (hG.xs x (hG.xN x hx)).2.2.1, fun e => ((hG.xs x (hG.xN x hx)).2.2.2 B e).1 rfl, fun q hq e => ((hG.xs x (hG.xN x hx)).2.2.2 q e).2.2.2.1 hq⟩) hG.aN).mono ?_
  rintro e w' ⟨he, L', hU, hm, ho, hF⟩
  have hlw : Below base W w' := hF.low (by have := h.book.lt; have := hG.bB; omega) (fun b h => by
      rcases h with ⟨x, hx, hb⟩ | hb
      · exact ((hG.xs x (hG.xN x hx)).2.2.2 b hb).2.2.2.2.2
      · exact (hG.hl b (.inr (.inr hb))).2.2)
  have hbk : BookSt w' B n hs := h.book.same (hF.block B h.book.lt (fun h => by
      rcases h with ⟨x, hx, hb⟩ | hb
      · exact ((hG.xs x (hG.xN x hx)).2.2.2 B hb).1 rfl
      · exact (hG.hl B (.inr (.inr hb))).1 rfl))
  have kV := h.ksV.keep hF (fun b hb h => by
      rcases h with ⟨x, hx, hxb⟩ | hxb
      · exact ((hG.xs x (hG.xN x hx)).2.2.2 b hxb).2.1 hb
      · exact hG.dNV b hxb hb) (fun y hy b hyb h => by
      rcases h with ⟨x, hx, hxb⟩ | hxb
      · exact hG.cNV hx hy b hxb hyb
      · exact ((hG.xs y (hG.xV y hy)).2.2.2 b hyb).2.2.2.1 hxb) (fun b h => by
      rcases h with ⟨x, hx, hb⟩ | hb
      · exact ((hG.xs x (hG.xN x hx)).2.2.2 b hb).2.2.2.2.1
      · exact (hG.hl b (.inr (.inr hb))).2.1)
  have kF := h.ksF.keep hF (fun b hb h => by
      rcases h with ⟨x, hx, hxb⟩ | hxb
      · exact ((hG.xs x (hG.xN x hx)).2.2.2 b hxb).2.2.1 hb
      · exact hG.dNF b hxb hb) (fun y hy b hyb h => by
      rcases h with ⟨x, hx, hxb⟩ | hxb
      · exact hG.cNF hx hy b hxb hyb
      · exact ((hG.xs y (hG.xF y hy)).2.2.2 b hyb).2.2.2.1 hxb) (fun b h => by
      rcases h with ⟨x, hx, hb⟩ | hb
      · exact ((hG.xs x (hG.xN x hx)).2.2.2 b hb).2.2.2.2.1
      · exact (hG.hl b (.inr (.inr hb))).2.1)
  refine ⟨he, ⟨hbk, h.env.below hlw hG.eb, h.low.trans hlw, kV, kF, ⟨L', hU.1, ho, ?_, ?_⟩⟩⟩
  · intro y hy
    obtain ⟨q, hq, e⟩ := List.getElem_of_mem hy
    have hq2 : q < LN.length := by rw [← hU.1]; exact hq
    obtain ⟨z, g1, g2, g3, g4, g5, _⟩ := hU.2 q _ (List.getElem?_eq_getElem hq2)
    rw [List.getElem?_eq_getElem hq, e] at g1
    injection g1 with g1
    subst g1
    obtain ⟨p1, p2⟩ := g5 hq2
    have hx := List.getElem_mem hq2
    have hxs := hG.xs _ (hG.xN _ hx)
    refine ⟨by rw [g2, g3, g4]; exact hm _ hx, by rw [g3, g4]; exact p1, by rw [g4]; exact hxs.1, by rw [g3]; exact hxs.2.1, fun b hb => ?_⟩
    rcases p2 b hb with h9 | h9
    · exact .inl (by rw [g2]; exact h9)
    · exact .inr (by have := h.low.size; omega)
  · intro y hy
    obtain ⟨q, hq, e⟩ := List.getElem_of_mem hy
    have hq2 : q < LN.length := by rw [← hU.1]; exact hq
    obtain ⟨z, g1, g2, _⟩ := hU.2 q _ (List.getElem?_eq_getElem hq2)
    rw [List.getElem?_eq_getElem hq, e] at g1
    injection g1 with g1
    subst g1
    exact ⟨_, List.getElem_mem hq2, g2⟩
theorem lookN_all {base B n : Nat} {hs : Nat → Value} {LV LF LN : List Ent} {w : World} (hG : Good base B hs LV LF LN w) {a b : Nat} {W : World} (h : All base B n hs LV LF LN w a b 2 W) :
    Calls Tryz.prog 73 #[.pointer (some ⟨B, 0, none⟩)] W fun e w' => e = .returned (.bool true) ∧ All base B n hs LV LF LN w a b 2 w' := by
  obtain ⟨L', g1, g2, g3, g4⟩ := h.ksN
  refine (lookNode_any base B (hs 13) L' W h.env (h.book.ce 13 (by omega) (by omega)) h.book.lt (by rw [g1]; exact hG.lens.2.2) (by rw [g1]; exact g2) (fun x hx => ⟨(g3 x hx).1, (g3 x hx).2.1, (g3 x hx).2.2.1, (g3 x hx).2.2.2.1⟩)).mono ?_
  rintro e w' ⟨he, hb⟩
  have hF : Frm (fun _ => False) W w' := Frm.of_below hb
  have hlw : Below base W w' := hb.mono (by have := h.book.lt; have := hG.bB; omega)
  exact ⟨he, h.book.same (hb.block B h.book.lt), h.env.kept hb, h.low.trans hlw, h.ksV.keep hF (fun _ _ h => h) (fun _ _ _ _ h => h) (fun _ h => h.elim), h.ksF.keep hF (fun _ _ h => h) (fun _ _ _ _ h => h) (fun _ h => h.elim), h.ksN.keep hF (fun _ _ h => h) (fun _ _ _ _ h => h) (fun _ h => h.elim)⟩
set_option maxHeartbeats 16000000 in
set_option maxRecDepth 100000 in
theorem apart_any {base B n : Nat} {hs : Nat → Value} {LV LF LN : List Ent} {w : World} (hG : Good base B hs LV LF LN w) (h : All base B n hs LV LF LN w 0 0 0 w) :
    Calls Tryz.prog 14 #[.pointer (some ⟨B, 0, none⟩)] w fun e w' => e = .returned (.bool true) ∧ Below base w w' := by
  have hA := Lib.hid h
  clear h
  replace hG := Lib.hid hG
  go_enter Tryz.func14, Tryz.ntmps14
  go_wp2_with (first | (go_at_call 29; refine (fillInt_nil B _ ((hA.out.book.ce 1 (by omega) (by omega)).trans (congrArg some (hG.out.nil 1 (by omega) (by omega) (by omega) (by omega) (by omega))))).mono ?_; rintro e W1 ⟨rfl, rfl⟩) | (go_at_call 30; refine (fillText_nil B _ ((hA.out.book.ce 2 (by omega) (by omega)).trans (congrArg some (hG.out.nil 2 (by omega) (by omega) (by omega) (by omega) (by omega))))).mono ?_; rintro e W1 ⟨rfl, rfl⟩) | (go_at_call 31; refine (fillV_all hG.out hA.out).mono ?_; rintro e W1 ⟨rfl, hA1⟩; clear hA; have hA := Lib.hid hA1; clear hA1) | (go_at_call 32; refine (fillF_all hG.out hA.out).mono ?_; rintro e W1 ⟨rfl, hA1⟩; clear hA; have hA := Lib.hid hA1; clear hA1) | (go_at_call 33; refine (fillWord_nil B _ ((hA.out.book.ce 5 (by omega) (by omega)).trans (congrArg some (hG.out.nil 5 (by omega) (by omega) (by omega) (by omega) (by omega))))).mono ?_; rintro e W1 ⟨rfl, rfl⟩) | (go_at_call 34; refine (fillChild_nil B _ ((hA.out.book.ce 6 (by omega) (by omega)).trans (congrArg some (hG.out.nil 6 (by omega) (by omega) (by omega) (by omega) (by omega))))).mono ?_; rintro e W1 ⟨rfl, rfl⟩) | (go_at_call 35; refine (fillCell_nil B _ ((hA.out.book.ce 7 (by omega) (by omega)).trans (congrArg some (hG.out.nil 7 (by omega) (by omega) (by omega) (by omega) (by omega))))).mono ?_; rintro e W1 ⟨rfl, rfl⟩) | (go_at_call 36; refine (fillInst_nil B _ ((hA.out.book.ce 8 (by omega) (by omega)).trans (congrArg some (hG.out.nil 8 (by omega) (by omega) (by omega) (by omega) (by omega))))).mono ?_; rintro e W1 ⟨rfl, rfl⟩) | (go_at_call 37; refine (fillAct_nil B _ ((hA.out.book.ce 9 (by omega) (by omega)).trans (congrArg some (hG.out.nil 9 (by omega) (by omega) (by omega) (by omega) (by omega))))).mono ?_; rintro e W1 ⟨rfl, rfl⟩) | (go_at_call 38; refine (fillExpr_nil B _ ((hA.out.book.ce 10 (by omega) (by omega)).trans (congrArg some (hG.out.nil 10 (by omega) (by omega) (by omega) (by omega) (by omega))))).mono ?_; rintro e W1 ⟨rfl, rfl⟩) | (go_at_call 39; refine (fillStmt_nil B _ ((hA.out.book.ce 11 (by omega) (by omega)).trans (congrArg some (hG.out.nil 11 (by omega) (by omega) (by omega) (by omega) (by omega))))).mono ?_; rintro e W1 ⟨rfl, rfl⟩) | (go_at_call 40; refine (fillComponent_nil B _ ((hA.out.book.ce 12 (by omega) (by omega)).trans (congrArg some (hG.out.nil 12 (by omega) (by omega) (by omega) (by omega) (by omega))))).mono ?_; rintro e W1 ⟨rfl, rfl⟩) | (go_at_call 41; refine (fillN_all hG.out hA.out).mono ?_; rintro e W1 ⟨rfl, hA1⟩; clear hA; have hA := Lib.hid hA1; clear hA1) | (go_at_call 42; refine (fillOp_nil B _ ((hA.out.book.ce 14 (by omega) (by omega)).trans (congrArg some (hG.out.nil 14 (by omega) (by omega) (by omega) (by omega) (by omega))))).mono ?_; rintro e W1 ⟨rfl, rfl⟩) | (go_at_call 43; refine (fillNote_nil B _ ((hA.out.book.ce 15 (by omega) (by omega)).trans (congrArg some (hG.out.nil 15 (by omega) (by omega) (by omega) (by omega) (by omega))))).mono ?_; rintro e W1 ⟨rfl, rfl⟩) | (go_at_call 44; refine (fillResource_nil B _ ((hA.out.book.ce 16 (by omega) (by omega)).trans (congrArg some (hG.out.nil 16 (by omega) (by omega) (by omega) (by omega) (by omega))))).mono ?_; rintro e W1 ⟨rfl, rfl⟩) | (go_at_call 45; refine (growInt_nil B _ ((hA.out.book.ce 1 (by omega) (by omega)).trans (congrArg some (hG.out.nil 1 (by omega) (by omega) (by omega) (by omega) (by omega))))).mono ?_; rintro e W1 ⟨rfl, rfl⟩) | (go_at_call 46; refine (growText_nil B _ ((hA.out.book.ce 2 (by omega) (by omega)).trans (congrArg some (hG.out.nil 2 (by omega) (by omega) (by omega) (by omega) (by omega))))).mono ?_; rintro e W1 ⟨rfl, rfl⟩) | (go_at_call 47; refine (growV_all hG.out hA.out).mono ?_; rintro e W1 ⟨rfl, hA1⟩; clear hA; have hA := Lib.hid hA1; clear hA1) | (go_at_call 48; refine (growF_all hG.out hA.out).mono ?_; rintro e W1 ⟨rfl, hA1⟩; clear hA; have hA := Lib.hid hA1; clear hA1) | (go_at_call 49; refine (growWord_nil B _ ((hA.out.book.ce 5 (by omega) (by omega)).trans (congrArg some (hG.out.nil 5 (by omega) (by omega) (by omega) (by omega) (by omega))))).mono ?_; rintro e W1 ⟨rfl, rfl⟩) | (go_at_call 50; refine (growChild_nil B _ ((hA.out.book.ce 6 (by omega) (by omega)).trans (congrArg some (hG.out.nil 6 (by omega) (by omega) (by omega) (by omega) (by omega))))).mono ?_; rintro e W1 ⟨rfl, rfl⟩) | (go_at_call 51; refine (growCell_nil B _ ((hA.out.book.ce 7 (by omega) (by omega)).trans (congrArg some (hG.out.nil 7 (by omega) (by omega) (by omega) (by omega) (by omega))))).mono ?_; rintro e W1 ⟨rfl, rfl⟩) | (go_at_call 52; refine (growInst_nil B _ ((hA.out.book.ce 8 (by omega) (by omega)).trans (congrArg some (hG.out.nil 8 (by omega) (by omega) (by omega) (by omega) (by omega))))).mono ?_; rintro e W1 ⟨rfl, rfl⟩) | (go_at_call 53; refine (growAct_nil B _ ((hA.out.book.ce 9 (by omega) (by omega)).trans (congrArg some (hG.out.nil 9 (by omega) (by omega) (by omega) (by omega) (by omega))))).mono ?_; rintro e W1 ⟨rfl, rfl⟩) | (go_at_call 54; refine (growExpr_nil B _ ((hA.out.book.ce 10 (by omega) (by omega)).trans (congrArg some (hG.out.nil 10 (by omega) (by omega) (by omega) (by omega) (by omega))))).mono ?_; rintro e W1 ⟨rfl, rfl⟩) | (go_at_call 55; refine (growStmt_nil B _ ((hA.out.book.ce 11 (by omega) (by omega)).trans (congrArg some (hG.out.nil 11 (by omega) (by omega) (by omega) (by omega) (by omega))))).mono ?_; rintro e W1 ⟨rfl, rfl⟩) | (go_at_call 56; refine (growComponent_nil B _ ((hA.out.book.ce 12 (by omega) (by omega)).trans (congrArg some (hG.out.nil 12 (by omega) (by omega) (by omega) (by omega) (by omega))))).mono ?_; rintro e W1 ⟨rfl, rfl⟩) | (go_at_call 57; refine (growN_all hG.out hA.out).mono ?_; rintro e W1 ⟨rfl, hA1⟩; clear hA; have hA := Lib.hid hA1; clear hA1) | (go_at_call 58; refine (growOp_nil B _ ((hA.out.book.ce 14 (by omega) (by omega)).trans (congrArg some (hG.out.nil 14 (by omega) (by omega) (by omega) (by omega) (by omega))))).mono ?_; rintro e W1 ⟨rfl, rfl⟩) | (go_at_call 59; refine (growNote_nil B _ ((hA.out.book.ce 15 (by omega) (by omega)).trans (congrArg some (hG.out.nil 15 (by omega) (by omega) (by omega) (by omega) (by omega))))).mono ?_; rintro e W1 ⟨rfl, rfl⟩) | (go_at_call 60; refine (growResource_nil B _ ((hA.out.book.ce 16 (by omega) (by omega)).trans (congrArg some (hG.out.nil 16 (by omega) (by omega) (by omega) (by omega) (by omega))))).mono ?_; rintro e W1 ⟨rfl, rfl⟩) | (go_at_call 61; refine (lookInt_nil B _ ((hA.out.book.ce 1 (by omega) (by omega)).trans (congrArg some (hG.out.nil 1 (by omega) (by omega) (by omega) (by omega) (by omega))))).mono ?_; rintro e W1 ⟨rfl, rfl⟩) | (go_at_call 62; refine (lookText_nil B _ ((hA.out.book.ce 2 (by omega) (by omega)).trans (congrArg some (hG.out.nil 2 (by omega) (by omega) (by omega) (by omega) (by omega))))).mono ?_; rintro e W1 ⟨rfl, rfl⟩) | (go_at_call 63; refine (lookV_all hG.out hA.out).mono ?_; rintro e W1 ⟨rfl, hA1⟩; clear hA; have hA := Lib.hid hA1; clear hA1) | (go_at_call 64; refine (lookF_all hG.out hA.out).mono ?_; rintro e W1 ⟨rfl, hA1⟩; clear hA; have hA := Lib.hid hA1; clear hA1) | (go_at_call 65; refine (lookWord_nil B _ ((hA.out.book.ce 5 (by omega) (by omega)).trans (congrArg some (hG.out.nil 5 (by omega) (by omega) (by omega) (by omega) (by omega))))).mono ?_; rintro e W1 ⟨rfl, rfl⟩) | (go_at_call 66; refine (lookChild_nil B _ ((hA.out.book.ce 6 (by omega) (by omega)).trans (congrArg some (hG.out.nil 6 (by omega) (by omega) (by omega) (by omega) (by omega))))).mono ?_; rintro e W1 ⟨rfl, rfl⟩) | (go_at_call 67; refine (lookCell_nil B _ ((hA.out.book.ce 7 (by omega) (by omega)).trans (congrArg some (hG.out.nil 7 (by omega) (by omega) (by omega) (by omega) (by omega))))).mono ?_; rintro e W1 ⟨rfl, rfl⟩) | (go_at_call 68; refine (lookInst_nil B _ ((hA.out.book.ce 8 (by omega) (by omega)).trans (congrArg some (hG.out.nil 8 (by omega) (by omega) (by omega) (by omega) (by omega))))).mono ?_; rintro e W1 ⟨rfl, rfl⟩) | (go_at_call 69; refine (lookAct_nil B _ ((hA.out.book.ce 9 (by omega) (by omega)).trans (congrArg some (hG.out.nil 9 (by omega) (by omega) (by omega) (by omega) (by omega))))).mono ?_; rintro e W1 ⟨rfl, rfl⟩) | (go_at_call 70; refine (lookExpr_nil B _ ((hA.out.book.ce 10 (by omega) (by omega)).trans (congrArg some (hG.out.nil 10 (by omega) (by omega) (by omega) (by omega) (by omega))))).mono ?_; rintro e W1 ⟨rfl, rfl⟩) | (go_at_call 71; refine (lookStmt_nil B _ ((hA.out.book.ce 11 (by omega) (by omega)).trans (congrArg some (hG.out.nil 11 (by omega) (by omega) (by omega) (by omega) (by omega))))).mono ?_; rintro e W1 ⟨rfl, rfl⟩) | (go_at_call 72; refine (lookComponent_nil B _ ((hA.out.book.ce 12 (by omega) (by omega)).trans (congrArg some (hG.out.nil 12 (by omega) (by omega) (by omega) (by omega) (by omega))))).mono ?_; rintro e W1 ⟨rfl, rfl⟩) | (go_at_call 73; refine (lookN_all hG.out hA.out).mono ?_; rintro e W1 ⟨rfl, hA1⟩; clear hA; have hA := Lib.hid hA1; clear hA1) | (go_at_call 74; refine (lookOp_nil B _ ((hA.out.book.ce 14 (by omega) (by omega)).trans (congrArg some (hG.out.nil 14 (by omega) (by omega) (by omega) (by omega) (by omega))))).mono ?_; rintro e W1 ⟨rfl, rfl⟩) | (go_at_call 75; refine (lookNote_nil B _ ((hA.out.book.ce 15 (by omega) (by omega)).trans (congrArg some (hG.out.nil 15 (by omega) (by omega) (by omega) (by omega) (by omega))))).mono ?_; rintro e W1 ⟨rfl, rfl⟩) | (go_at_call 76; refine (lookResource_nil B _ ((hA.out.book.ce 16 (by omega) (by omega)).trans (congrArg some (hG.out.nil 16 (by omega) (by omega) (by omega) (by omega) (by omega))))).mono ?_; rintro e W1 ⟨rfl, rfl⟩))
  go_ret
  exact ⟨rfl, hA.out.low⟩
end Go.Proofs.YtehcbicngbibgaaGreatDoor
