/- Book.Words keeps a list of words. -/
import Derived.Test.YtimdkdengdhglaaGreatDoorBkC
namespace Go.Proofs.YtimdkdengdhglaaGreatDoor
open Go Go.RowKit

set_option maxHeartbeats 1000000 in
set_option maxRecDepth 100000 in
theorem bookWords_any (B n m : Nat) (hv : Value) (xs : List Value) (a1 : Option Addr) (n1 c1 : Nat) (w : World) (h : BookSt w B n hv) (ho : w.ownsRow (B + 1) 124 3 hv m xs) (hm : m < 100) (hn : n < 100) :
    Calls Tryz.prog 19 #[.pointer (some ⟨B, 0, none⟩), .slice a1 n1 c1] w fun e w' => e = .returned (.tuple #[]) ∧ ∃ hv', BookSt w' B (n + 1) hv' ∧ w'.ownsRow (B + 1) 124 3 hv' (m + 1) (xs ++ [.slice a1 n1 c1, .slice none 0 0, .int .i64 ((n + 1 : Nat) : Int)]) ∧ Below B w w' := by
  have cK := keepWord_any B n m hv xs a1 n1 c1 w h ho hm hn
  replace h := Lib.hid h
  replace ho := Lib.hid ho
  go_enter Tryz.func19, Tryz.ntmps19
  go_wp2_with (go_at_call 85; refine cK.mono ?_)
  rintro e w' ⟨rfl, hv', h1, h2, h3⟩
  replace h1 := Lib.hid h1
  replace h2 := Lib.hid h2
  replace h3 := Lib.hid h3
  go_wp2
  go_end0
  exact ⟨rfl, hv', h1.out, h2.out, h3.out⟩
end Go.Proofs.YtimdkdengdhglaaGreatDoor
