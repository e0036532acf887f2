/- The chapter's examples: alive. -/
import Derived.Test.YtimdkdengdhglaaDoorLexH
import Derived.KernelRfl
namespace Go.Proofs.YtimdkdengdhglaaDoor
open Go Go.RowKit

def alive1 : List UInt8 := [40, 97, 32, 45, 53, 32, 34, 120, 92, 34, 121, 34, 41, 10, 59, 122, 10, 45, 45]
def alive1w : List (Nat × List UInt8 × Int × Nat) := [(4, [], 0, 0), (1, [97], 0, 0), (2, [], -5, 0), (3, [120, 34, 121], 0, 0), (5, [], 0, 0), (1, [45, 45], 0, 2)]
theorem alive1_is : wordsL alive1 = .ok alive1w := by kernel_rfl
theorem alive2_is : wordsL [97, 10, 10, 44] = .error (2, 4) := by kernel_rfl

set_option maxHeartbeats 2000000 in
set_option maxRecDepth 100000 in
theorem alive_any (w : World) (hE : Env w) : Calls Tryd.prog 7 #[] w fun e w' => e = .returned (.bool true) ∧ Below w.heap.size w w' := by
  have c1 : Calls Tryd.prog 6 #[.string ⟨#[40, 97, 32, 45, 53, 32, 34, 120, 92, 34, 121, 34, 41, 10, 59, 122, 10, 45, 45]⟩] w (WordsPost w (.ok alive1w)) := by
    have := words_all alive1 w (by decide) hE
    rw [alive1_is] at this
    exact this
  have c2 : Hid (∀ W, Env W → Calls Tryd.prog 6 #[.string ⟨#[97, 10, 10, 44]⟩] W (WordsPost W (.error (2, 4)))) := fun W h => by
    have := words_all [97, 10, 10, 44] W (by decide) h
    rw [alive2_is] at this
    exact this
  have hE0 := Lib.hid hE
  clear hE
  go_enter Tryd.func7, Tryd.ntmps7
  go_wp2_with (go_at_call 6; refine c1.mono ?_)
  rintro e W1 ⟨hb1, v, rfl, ho1⟩
  have hr1 := Lib.hid (ReadsW.own ho1 rfl)
  have c2' := c2.out W1 (hE0.out.below hb1 hE0.out.size)
  clear c1 ho1
  go_wp2_with (go_at_call 6; refine c2'.mono ?_)
  rintro e W2 ⟨hb2, rfl⟩
  have hr2 := Lib.hid (hr1.out.below hb2)
  have hb := hb1.trans (hb2.mono hb1.size)
  clear c2' c2 hb1 hb2 hr1
  have hr3 : Hid (ReadsW (W2.alloc (.cells (wcells alive1w).toArray 30)) v alive1w) := hr2.out.below ((Below.refl _ W2).alloc (Nat.le_refl _) _)
  have hr4 : Hid (ReadsW (W2.alloc (.cells (wcells alive1w).toArray 30)) (.slice (some ⟨W2.heap.size, 0, none⟩) 6 6) alive1w) := by
    refine ⟨_, 6, rfl, by decide, fun _ => ⟨W2.heap.size, rfl, by simp, fun j hj => ?_⟩⟩
    rw [cell_of_row _ _ j _ _ _ (heap_alloc_new W2 _)]
    simp
  have cS := sameWords_eq _ _ _ _ hr3.out hr4.out
  change Calls _ _ _ (W2.alloc (.cells #[.int .u8 4, .string ⟨#[]⟩, .int .i64 0, .int .i64 0, .int .u8 1, .string ⟨#[97]⟩, .int .i64 0, .int .i64 0, .int .u8 2, .string ⟨#[]⟩, .int .i64 (-5), .int .i64 0, .int .u8 3, .string ⟨#[120, 34, 121]⟩, .int .i64 0, .int .i64 0, .int .u8 5, .string ⟨#[]⟩, .int .i64 0, .int .i64 0, .int .u8 1, .string ⟨#[45, 45]⟩, .int .i64 0, .int .i64 2] 30)) _ at cS
  go_wp2_with (go_at_call 11; refine cS.mono ?_)
  rintro e W3 ⟨rfl, hb3⟩
  have hb4 := (hb.alloc hb.size _).trans (hb3.mono (by simp; have := hb.size; omega))
  clear cS hb3
  go_wp2
  go_ret
  exact ⟨rfl, hb4⟩
end Go.Proofs.YtimdkdengdhglaaDoor
