/- A Book's mark as a word; is a word it? -/
import Derived.Test.YtimdkdengdhglaaGreatDoorBkA
import Derived.Test.YtimdkdengdhglaaGreatDoorLexD
import Derived.Test.YtimdkdengdhglaaGreatDoorShelf
import Derived.BigQuiet
namespace Go.Proofs.YtimdkdengdhglaaGreatDoor
open Go Go.RowKit

def markB (i : Nat) : ByteArray := bs (35 :: Lib.decDigits i)
theorem markB_eq (i : Nat) : (⟨#[35]⟩ : ByteArray) ++ ⟨(Lib.decDigits i).toArray⟩ = markB i := by
  apply ba_ext; simp [markB, bs]

set_option maxRecDepth 100000 in
theorem mword_any (i : Nat) (hi : i < 100) (w : World) : Calls Tryz.prog 169 #[.int .i64 (i : Nat)] w fun e w' => e = .returned (.string (markB i)) ∧ w' = w := by
  have cI := Tryz.strconv_Itoa_small i hi w
  have hm := Lib.hid (markB_eq i)
  have hz : (⟨(Lib.decDigits i).toArray⟩ : ByteArray).size ≤ 2 := by
    show (Lib.decDigits i).toArray.size ≤ 2
    rw [List.size_toArray, Lib.decDigits_length]
    by_cases h : i < 10
    · rw [Lib.nDigits_small h]; omega
    · rw [Lib.nDigits_big h, Lib.nDigits_small (by omega)]; exact Nat.le_refl _
  generalize (⟨(Lib.decDigits i).toArray⟩ : ByteArray) = D at *
  go_enter Tryz.func169, Tryz.ntmps169
  go_wp2_with (go_at_call 201; refine cI.mono ?_; rintro e w' ⟨rfl, rfl⟩)
  go_ret
  exact ⟨by rw [hm.out]; rfl, rfl⟩

theorem results_cell1 {P : Program} {fn : Func} {p : Tmp} {ty : TypeId} (h : fn.results = #[.cell p ty]) (tmps : Array Value) (w : World) (g : Nat) (t : TypeId) (cs : Array Value) (fr : Nat × Nat) (d : TypeDesc)
    (hp : tmps.getD p undef = .pointer (some ⟨g, 0, none⟩)) (hg : w.heap[g]? = some (.cells cs t fr))
    (hu : P.underlying ty = some d) (hd : (match d with | .struct _ | .array _ _ => true | _ => false) = true) (hi : (P.info? ty).map (·.size) = some cs.size) :
    (results fn tmps).run P w = .ok (.agg cs) w := by
  have hp' : tmps[p]?.getD undef = .pointer (some ⟨g, 0, none⟩) := by simpa using hp
  simp [results, h, hp', asAddr, run_loadVar_row w g t ty cs fr d hg hu hd hi]

set_option maxRecDepth 100000 in
theorem markWord_any (i : Nat) (hi : i < 100) (w : World) : Calls Tryz.prog 109 #[.int .i64 (i : Nat)] w fun e w' => e = .returned (.agg #[.int .u8 0, .string (markB i), .int .i64 0, .int .i64 0]) ∧ Below w.heap.size w w' := by
  have cI : Hid (∀ W, Calls Tryz.prog 169 #[.int .i64 (i : Nat)] W fun e w' => e = .returned (.string (markB i)) ∧ w' = W) := fun W => mword_any i hi W
  go_enter Tryz.func109, Tryz.ntmps109
  go_wp2_with (go_at_call 169; refine (cI.out _).mono ?_; rintro e w' ⟨rfl, rfl⟩)
  exact bodyPost_ret (results_cell1 (fn := Tryz.f109) (p := 2) (ty := 86) (by kernel_rfl) _ _ _ _ _ _ _ rfl (heap_alloc_new w _) Tryz.underlying86 rfl word_info) rfl ⟨rfl, (Below.refl _ w).alloc (Nat.le_refl _) _⟩

set_option maxRecDepth 100000 in
theorem isWord_any (i : Nat) (hi : i < 100) (k n ln : Int) (w : World) : Calls Tryz.prog 125 #[.agg #[.int .u8 k, .string (markB i), .int .i64 n, .int .i64 ln], .int .i64 (i : Nat)] w fun e w' => e = .returned (.bool true) ∧ Below w.heap.size w w' := by
  have cI : Hid (∀ W, Calls Tryz.prog 169 #[.int .i64 (i : Nat)] W fun e w' => e = .returned (.string (markB i)) ∧ w' = W) := fun W => mword_any i hi W
  have hal : ∀ o, Below w.heap.size w (w.alloc o) := fun o => (Below.refl _ w).alloc (Nat.le_refl _) o
  replace hal := Lib.hid hal
  have heq : ((markB i).toList == (markB i).toList) = true := by simp
  generalize markB i = S at *
  go_enter Tryz.func125, Tryz.ntmps125
  go_wp2
  go_quiet ((go_at_call 169; exact Calls.quiet_of_same (cI.out _)))
  go_wp2
  go_ret
  exact ⟨rfl, below_drewN (hal.out _) _⟩
end Go.Proofs.YtimdkdengdhglaaGreatDoor
