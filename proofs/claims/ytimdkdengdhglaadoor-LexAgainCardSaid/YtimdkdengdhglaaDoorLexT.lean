/- The walk of LexOne. -/
import Derived.Test.YtimdkdengdhglaaDoorLexS
namespace Go.Proofs.YtimdkdengdhglaaDoor
open Go Go.RowKit

theorem ahead_step (j : Nat) : bs (aheadL ++ tabs j) ++ ⟨#[9, 32, 10]⟩ = bs (aheadL ++ tabs (j + 1)) := by
  have : (⟨#[9, 32, 10]⟩ : ByteArray) = bs [9, 32, 10] := rfl
  rw [this, bs_append, tabs, List.append_assoc]
theorem one_eq (n : Int) (s : List UInt8) (k : Nat) : bs (aheadL ++ tabs k) ++ bs (Lib.itoa n) ++ bs (quoteL s) ++ ⟨#[40]⟩ ++ bs (Lib.itoa n) ++ ⟨#[59]⟩ = bs (oneL n s k) := by
  have h1 : (⟨#[40]⟩ : ByteArray) = bs [40] := rfl
  have h2 : (⟨#[59]⟩ : ByteArray) = bs [59] := rfl
  rw [h1, h2, bs_append, bs_append, bs_append, bs_append, bs_append]; rfl
theorem one_len (n : Int) (s : List UInt8) (k : Nat) (h0 : -9223372036854775808 ≤ n) (h1 : n ≤ 9223372036854775807) (hs : s.length ≤ 4096) (hk : k ≤ 255) : (oneL n s k).length ≤ 65536 := by
  unfold oneL quoteL
  have := tabs_len k
  have := escL_len s
  have := Lib.itoa_length_le n h0 h1
  simp only [List.length_append, List.length_cons, List.length_nil, show aheadL.length = 15 from rfl]
  omega

set_option maxHeartbeats 1000000 in
set_option maxRecDepth 100000 in
theorem one_over (n : Int) (s : List UInt8) (k : Nat) (w : World) (hE : Env w) (hs : 4096 < s.length) (hl : s.length ≤ 140737488355328) :
    Calls Tryd.prog 4 #[.int .i64 n, .string (bs s), .int .u8 (k : Nat)] w fun e w' => e = .returned (.bool true) ∧ Below w.heap.size w w' := by
  have hs' := bs_size s
  have cA := alive_any w hE
  have hE0 := Lib.hid hE
  clear hE
  go_enter Tryd.func4, Tryd.ntmps4
  go_wp2_with (go_at_call 7; refine cA.mono ?_)
  rintro e W1 ⟨rfl, hb1⟩
  have cA2 := alive_any W1 (hE0.out.kept hb1)
  clear cA
  go_wp2_with (go_at_call 7; refine cA2.mono ?_)
  rintro e W2 ⟨rfl, hb2⟩
  go_wp2
  go_ret
  exact ⟨rfl, hb1.trans (hb2.mono hb1.size)⟩

set_option maxHeartbeats 2000000 in
set_option maxRecDepth 100000 in
theorem one_main (n : Int) (s : List UInt8) (k : Nat) (w : World) (hE : Env w) (h0 : -9223372036854775808 ≤ n) (h1 : n ≤ 9223372036854775807) (hs : s.length ≤ 4096) (hk : k ≤ 255) :
    Calls Tryd.prog 4 #[.int .i64 n, .string (bs s), .int .u8 (k : Nat)] w fun e w' => e = .returned (.bool true) ∧ Below w.heap.size w w' := by
  have hs' := bs_size s
  have cA := alive_any w hE
  have hE0 := Lib.hid hE
  clear hE
  have hone := Lib.hid (one_eq n s k)
  have hzD : (bs (Lib.itoa n)).size ≤ 21 := by rw [bs_size]; exact Lib.itoa_length_le n h0 h1
  have hzQ : (bs (quoteL s)).size ≤ 8194 := by rw [bs_size]; unfold quoteL; have := escL_len s; simp; omega
  have cD : Hid (∀ W, Calls Tryd.prog 9 #[.int .i64 n] W fun e w' => e = .returned (.string (bs (Lib.itoa n))) ∧ w' = W) := fun W => digits_any n W h0 h1
  have cQ : Hid (∀ W, Calls Tryd.prog 10 #[.string (bs s)] W fun e w' => e = .returned (.string (bs (quoteL s))) ∧ Below W.heap.size W w') := fun W => quoted_any s W (by omega)
  have hW : Hid (∀ W, Env W → Calls Tryd.prog 6 #[.string (bs (oneL n s k))] W (WordsPost W (.ok (oneW n s k)))) := fun W h => by
    have := words_all (oneL n s k) W (by have := one_len n s k h0 h1 hs hk; omega) h
    rw [words_one n s k h0 h1 hs hk] at this
    exact this
  have hst : Hid (∀ j, bs (aheadL ++ tabs j) ++ ⟨#[9, 32, 10]⟩ = bs (aheadL ++ tabs (j + 1))) := ahead_step
  have hzA : Hid (∀ j, (bs (aheadL ++ tabs j)).size = 15 + 3 * j) := fun j => by rw [bs_size, List.length_append, tabs_len]; rfl
  go_enter Tryd.func4, Tryd.ntmps4
  go_wp2_with (go_at_call 7; refine cA.mono ?_)
  rintro e W1 ⟨rfl, hb1⟩
  have hE1 := Lib.hid (hE0.out.kept hb1)
  clear cA hE0
  go_wp2
  go_loop [7, 8] (fun a i => ∃ j : Nat, j ≤ k ∧ i = .int .i64 (j : Nat) ∧ a = .string (bs (aheadL ++ tabs j))) (fun _ i => k - (intOf i).toNat)
  case atStart => exact ⟨0, Nat.zero_le _, rfl, rfl⟩
  case round =>
    obtain ⟨j, hj, rfl, rfl⟩ := hrel
    have hz := hzA.out j
    have hstj := Lib.hid (hst.out j)
    by_cases hlt : j < k
    · generalize bs (aheadL ++ tabs j) = A at *
      go_wp2
      go_round
      case rel => exact ⟨j + 1, by omega, by go_num, by rw [hstj.out]⟩
      case measure => simp [intOf]; omega
    · obtain rfl : j = k := by omega
      generalize bs (aheadL ++ tabs j) = A at *
      generalize bs (Lib.itoa n) = D at *
      generalize bs (quoteL s) = Q at *
      have cD1 := cD.out W1
      have cQ1 := cQ.out W1
      go_wp2_with (first | (go_at_call 9; refine cD1.mono ?_; rintro e W2 ⟨rfl, rfl⟩) | (go_at_call 10; refine cQ1.mono ?_))
      rintro e W3 ⟨rfl, hb3⟩
      have cD2 := cD.out W3
      have hE3 := Lib.hid (hE1.out.kept hb3)
      have hb13 := hb1.trans (hb3.mono hb1.size)
      have cW := hW.out W3 hE3.out
      rw [← hone.out] at cW
      clear hb1 hb3 cQ1 cD1
      go_wp2_with (first | (go_at_call 9; refine cD2.mono ?_; rintro e W4 ⟨rfl, rfl⟩) | (go_at_call 6; refine cW.mono ?_))
      rintro e W5 ⟨hb5, v, rfl, ho⟩
      have hr1 := Lib.hid (ReadsW.own ho rfl)
      have hb15 := hb13.trans (hb5.mono hb13.size)
      clear cW hb5 hb13 ho
      have hr3 : Hid (ReadsW (W5.alloc (.cells (wcells (oneW n s j)).toArray 30)) v (oneW n s j)) := hr1.out.below ((Below.refl _ W5).alloc (Nat.le_refl _) _)
      have hr4 : Hid (ReadsW (W5.alloc (.cells (wcells (oneW n s j)).toArray 30)) (.slice (some ⟨W5.heap.size, 0, none⟩) 4 4) (oneW n s j)) := by
        refine ⟨_, 4, rfl, by show 4 ≤ _; omega, fun _ => ⟨W5.heap.size, rfl, by simp, fun i hi => ?_⟩⟩
        rw [cell_of_row _ _ i _ _ _ (heap_alloc_new W5 _)]
        simp
      have cS := sameWords_eq _ _ _ _ hr3.out hr4.out
      clear hr3 hr4 hr1
      change Calls _ _ _ (W5.alloc (.cells #[.int .u8 2, .string ⟨#[]⟩, .int .i64 n, .int .i64 ((j : Int) + 1), .int .u8 3, .string (bs s), .int .i64 0, .int .i64 ((j : Int) + 1), .int .u8 4, .string ⟨#[]⟩, .int .i64 0, .int .i64 ((j : Int) + 1), .int .u8 2, .string ⟨#[]⟩, .int .i64 n, .int .i64 ((j : Int) + 1)] 30)) _ at cS
      go_wp2_with (go_at_call 11; refine cS.mono ?_)
      rintro e W6 ⟨rfl, hb6⟩
      have hb4 := (hb15.alloc hb15.size _).trans (hb6.mono (by simp; have := hb15.size; omega))
      clear cS hb6
      go_wp2
      go_ret
      exact ⟨rfl, hb4⟩
end Go.Proofs.YtimdkdengdhglaaDoor
