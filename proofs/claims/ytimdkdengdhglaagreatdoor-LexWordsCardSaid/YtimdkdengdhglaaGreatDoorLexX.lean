/- The walk of LexWords. -/
import Derived.Test.YtimdkdengdhglaaGreatDoorBkK
import Derived.Test.YtimdkdengdhglaaGreatDoorBkJ
import Derived.Test.YtimdkdengdhglaaGreatDoorRefF
import Derived.Test.YtimdkdengdhglaaGreatDoorLexH
import Derived.Deep.Onto
namespace Go.Proofs.YtimdkdengdhglaaGreatDoor
open Go Go.RowKit

theorem wordsGo_len : ∀ (f : Nat) (l : List UInt8) (ln : Nat) (acc ws : List Wd), wordsGo f l ln acc = .ok ws → ws.length ≤ acc.length + l.length
  | 0, l, ln, acc, ws, h => by simp [wordsGo] at h; subst h; omega
  | f + 1, l, ln, acc, ws, h => by
    cases l with
    | nil => simp [wordsGo] at h; subst h; omega
    | cons c r =>
      unfold wordsGo at h
      cases hx : wordL (c :: r) with
      | none => simp [hx] at h
      | some x =>
        obtain ⟨k, s, n, m⟩ := x
        simp only [hx] at h
        have h1 := wordL_lt (c :: r) hx
        have h2 := skipL_le m ln
        have := wordsGo_len f _ _ _ _ h
        simp at this h1 ⊢; omega
theorem wordsL_len (l : List UInt8) (ws : List Wd) (h : wordsL l = .ok ws) : ws.length ≤ 65536 := by
  unfold wordsL at h
  split at h
  · simp at h
  · split at h
    · rename_i hg; simp at h; subst h
      have := wordsGo_len _ _ _ _ _ hg
      have := skipL_le l 0
      simp at *; omega
    · simp at h
/-- What both answer: three values. -/
def Three (w : World) (ws : List Wd) (n er : Int) (e : Ending) (w' : World) : Prop :=
  Below w.heap.size w w' ∧ ∃ v, e = .returned (.tuple #[v, .int .i64 n, .int .i64 er]) ∧ w'.ownsRow w.heap.size 86 4 v ws.length (wcells ws)
theorem three_of (l : List UInt8) : ∃ (ws : List Wd) (n er : Int), ws.length ≤ 65536 ∧ ∀ w e w', WordsPost w (wordsL l) e w' → Three w ws n er e w' := by
  cases hw : wordsL l with
  | ok ws => exact ⟨ws, 0, 0, wordsL_len l ws hw, fun w e w' h => ⟨h.1, h.2⟩⟩
  | error x => exact ⟨[], x.1, x.2, by simp, fun w e w' h => ⟨h.1, .slice none 0 0, h.2, by simpa [wcells] using World.ownsRow_nil w' w.heap.size 86 4⟩⟩
theorem Env.kept {w w' : World} (h : Env w) (hb : Below w.heap.size w w') : Env w' := h.below hb h.size
theorem own_below {w w' : World} {base : Nat} {e : TypeId} {size : Nat} {v : Value} {n : Nat} {xs : List Value} (h : w.ownsRow base e size v n xs) (hb : Below w.heap.size w w') : w'.ownsRow base e size v n xs :=
  h.kept (below_grown hb none) (Classical.em _)
theorem book_new (W : World) : BookSt (W.alloc (.cells #[.int .i64 0, .slice none 0 0, .slice none 0 0, .slice none 0 0, .slice none 0 0, .slice none 0 0, .slice none 0 0, .slice none 0 0, .slice none 0 0, .slice none 0 0, .slice none 0 0, .slice none 0 0, .slice none 0 0, .slice none 0 0, .slice none 0 0, .slice none 0 0, .slice none 0 0] 45)) W.heap.size 0 (.slice none 0 0) := heap_alloc_new W _

set_option maxHeartbeats 8000000 in
set_option maxRecDepth 100000 in
theorem lexWords_main (s : List UInt8) (w : World) (hE : Env w) (hl : s.length ≤ 140737488355328) :
    Calls Tryz.prog 4 #[.string (bs s)] w fun e w' => e = .returned (.bool true) ∧ Below w.heap.size w w' := by
  obtain ⟨ws, n, er, hws, h3⟩ := three_of s
  have cW : Hid (∀ W, Env W → Calls Tryz.prog 16 #[.string (bs s)] W (Three W ws n er)) := fun W hW => (words_all s W (by omega) hW).mono fun e w' h => h3 W e w' h
  have cR : Hid (∀ W, Calls Tryz.prog 17 #[.string (bs s)] W (Three W ws n er)) := fun W => (rwords_all s W (by omega)).mono fun e w' h => h3 W e w' h
  have hE0 := Lib.hid hE
  clear hE h3
  go_enter Tryz.func4, Tryz.ntmps4
  go_wp2_with (go_at_call 16; refine (cW.out _ hE0.out).mono ?_)
  rintro e W1 ⟨hb1, v1, rfl, ho1⟩
  have hE1 := Lib.hid (hE0.out.kept hb1)
  replace ho1 := Lib.hid ho1
  replace hb1 := Lib.hid hb1
  go_wp2_with (go_at_call 16; refine (cW.out _ hE1.out).mono ?_)
  rintro e W2 ⟨hb2, v2, rfl, ho2⟩
  replace ho2 := Lib.hid ho2
  replace hb2 := Lib.hid hb2
  go_wp2_with (go_at_call 17; refine (cR.out _).mono ?_)
  rintro e W3 ⟨hb3, v3, rfl, ho3⟩
  have hz1 := hb1.out.size
  have hz2 := hb2.out.size
  have hz3 := hb3.size
  have hb13 : Hid (Below w.heap.size w W3) := (hb1.out.trans (hb2.out.mono hz1)).trans (hb3.mono (by omega))
  have p1 : Hid (W3.ownsRow w.heap.size 86 4 v1 ws.length (wcells ws)) := own_below (own_below ho1.out hb2.out) hb3
  have p2 : Hid (W3.ownsRow W1.heap.size 86 4 v2 ws.length (wcells ws)) := own_below ho2.out hb3
  have l1 : Hid (∀ k, v1.ownBlock = some k → k < W1.heap.size) := fun k hk => (ho1.out.lt k hk).2
  have l2 : Hid (∀ k, v2.ownBlock = some k → W1.heap.size ≤ k ∧ k < W2.heap.size) := fun k hk => ho2.out.lt k hk
  have cS : Hid (∀ W, Below W3.heap.size W3 W → Calls Tryz.prog 18 #[v1, v3] W fun e w' => e = .returned (.bool true) ∧ Below W.heap.size W w') :=
    fun W hW => sameWords_eq v1 v3 ws W ((ReadsW.own p1.out rfl).below hW) ((ReadsW.own ho3 rfl).below hW)
  have cS2 : Hid (∀ W, Below W3.heap.size W3 W → Calls Tryz.prog 18 #[v2, v3] W fun e w' => e = .returned (.bool true) ∧ Below W.heap.size W w') :=
    fun W hW => sameWords_eq v2 v3 ws W ((ReadsW.own p2.out rfl).below hW) ((ReadsW.own ho3 rfl).below hW)
  have hcur : Hid (Below W3.heap.size W3 W3) := Below.refl _ _
  obtain ⟨a1, c1, rfl⟩ := bown_shape p1.out
  obtain ⟨a2, c2, rfl⟩ := bown_shape p2.out
  obtain ⟨a3, c3, rfl⟩ := bown_shape ho3
  clear hb3 ho3 ho1 ho2 hb1 hb2 hE0 hE1 cW cR
  go_wp2_with (go_at_call 18; refine (cS.out _ hcur.out).mono ?_)
  rintro e W4 ⟨rfl, hb4⟩
  replace hcur := Lib.hid (hcur.out.trans (hb4.mono hcur.out.size))
  clear hb4
  go_wp2_with (go_at_call 18; refine (cS2.out _ hcur.out).mono ?_)
  rintro e W5 ⟨rfl, hb5⟩
  replace hcur := Lib.hid (hcur.out.trans (hb5.mono hcur.out.size))
  clear hb5
  have hz5 := hcur.out.size
  have q1 : Hid (W5.ownsRow w.heap.size 86 4 (.slice a1 ws.length c1) ws.length (wcells ws)) := own_below p1.out hcur.out
  have q2 : Hid (W5.ownsRow W1.heap.size 86 4 (.slice a2 ws.length c2) ws.length (wcells ws)) := own_below p2.out hcur.out
  have hb05 : Hid (Below w.heap.size w W5) := hb13.out.trans (hcur.out.mono (by omega))
  clear cS cS2 p1 p2 hcur hb13
  obtain ⟨B0, hB0⟩ : ∃ B0, B0 = W5.alloc (.cells #[.int .i64 0, .slice none 0 0, .slice none 0 0, .slice none 0 0, .slice none 0 0, .slice none 0 0, .slice none 0 0, .slice none 0 0, .slice none 0 0, .slice none 0 0, .slice none 0 0, .slice none 0 0, .slice none 0 0, .slice none 0 0, .slice none 0 0, .slice none 0 0, .slice none 0 0] 45) := ⟨_, rfl⟩
  have hBk : Hid (BookSt B0 W5.heap.size 0 (.slice none 0 0)) := by rw [hB0]; exact book_new W5
  have hbB : Hid (Below W5.heap.size W5 B0) := by rw [hB0]; exact (Below.refl _ _).alloc (Nat.le_refl _) _
  replace hB0 := Lib.hid hB0
  go_wp2_with (go_at_call 19; rw [← hB0.out]; refine (bookWords_any W5.heap.size 0 0 _ [] a1 ws.length c1 B0 hBk.out (World.ownsRow_nil _ _ _ _) (by omega) (by omega)).mono ?_)
  rintro e W6 ⟨rfl, hv6, hk6, hr6, hb6⟩
  replace hk6 := Lib.hid hk6
  replace hr6 := Lib.hid hr6
  replace hb6 := Lib.hid (hbB.out.trans (hb6.mono (Nat.le_refl _)))
  clear hBk hbB
  go_wp2_with (go_at_call 19; refine (bookWords_any W5.heap.size 1 1 _ _ a2 ws.length c2 W6 hk6.out hr6.out (by omega) (by omega)).mono ?_)
  rintro e W7 ⟨rfl, hv7, hk7, hr7, hb7⟩
  replace hk7 := Lib.hid hk7
  replace hr7 := Lib.hid hr7
  have hz6 := hb6.out.size
  replace hb7 := Lib.hid (hb6.out.trans (hb7.mono (Nat.le_refl _)))
  obtain ⟨H, cap, rfl, _, _⟩ := hr7.out.form (by omega)
  have hld : Hid (Held W7 w.heap.size W5.heap.size H cap (.slice a1 ws.length c1) (.slice a2 ws.length c2) (.slice none 0 0) (.slice none 0 0) ws.length (wcells ws) (wcells ws)) :=
    ⟨hk7.out, hr7.out, own_below q1.out hb7.out, (own_below q2.out hb7.out).mono hz1, fun k hk => by have := l1.out k hk; omega, fun k hk => by have := (l2.out k hk).2; omega, fun k hk hk2 => by have := l1.out k hk; have := (l2.out k hk2).1; omega, by omega⟩
  have cA := apart_any w.heap.size W5.heap.size H cap ws.length a1 a2 c1 c2 (wcells ws) (wcells ws) W7 hld.out (by omega)
  have hb07 := Lib.hid (hb05.out.trans (hb7.out.mono (by omega)))
  clear hld q1 q2 hk7 hr7 hk6 hr6
  go_wp2_with (go_at_call 15; refine cA.mono ?_)
  rintro e W8 ⟨rfl, hb8⟩
  have hb08 := Lib.hid (hb07.out.trans hb8)
  clear cA hb8
  go_wp2
  go_ret
  exact ⟨rfl, hb08.out⟩
end Go.Proofs.YtimdkdengdhglaaGreatDoor
