/- From what a row lists ('laid') to what the walks ask of the library's variables; a start that fits. -/
import Derived.Test.YtimdkdengdhglaaGreatDoorRows
import Derived.Test.YtimdkdengdhglaaGreatDoorLexX
import Derived.ProofKit
import Derived.LaidMore
import Derived.OpenShut
import Derived.Stop.Joined
import Derived.Stop.LaidErr
import Derived.Lib.LaidTab
import Derived.MakeChecks
import Derived.SizedLaws
import Derived.ShutString
namespace Go.Proofs.YtimdkdengdhglaaGreatDoor
open Go Go.ChangeShapes Go.WideShapes Go.ChangeAt Go.RowKit
open Go.ChangeMaps (open_string shut_string)

theorem own : ownKnob Tryz.prog.godebug = none := by kernel_rfl
/-- What all rows of this seat list. -/
def laid5 : List (String × DataW Unit) := [("math/bits.deBruijn32tab", Rows.laid_math_bits_deBruijn32tab), ("math/bits.deBruijn64tab", Rows.laid_math_bits_deBruijn64tab), ("internal/strconv.uint64pow10", Rows.laid_internal_strconv_uint64pow10), ("strconv.ErrRange", Rows.laid_strconv_ErrRange), ("strconv.ErrSyntax", Rows.laid_strconv_ErrSyntax)]
theorem pow10_data : Rows.laid_internal_strconv_uint64pow10 = (Lib.tabData .u64 Lib.pow10Tab : DataW Unit) := by kernel_rfl
theorem tErr0 : (Tryz.prog.globals[0]?).map (·.type) = some 97 := by kernel_rfl
theorem tErr1 : (Tryz.prog.globals[1]?).map (·.type) = some 97 := by kernel_rfl
theorem tPow : (Tryz.prog.globals[2]?).map (·.type) = some 278 := by kernel_rfl
theorem rowErr (u : TypeId) (h : Tryz.prog.typeName? 3 u = some "*errors.errorString") : u = 285 :=
  typeName_ptr_named (nm := "errors.errorString") (by kernel_rfl) (by kernel_rfl) (by decide) u h
theorem env_of_laid {W : World} (h : laidMetH Tryz.prog laid5 W) : Env W := by
  rw [MakeChecks.laidMetH_plain _ _ _ (by kernel_rfl)] at h
  unfold laid5 at h
  rw [pow10_data] at h
  have h1 := h.tail.tail
  have h2 := h1.tail
  have h3 := h2.tail
  refine ⟨?_, ?_, ?_⟩
  · obtain ⟨a, s, hv, _⟩ := laid_sentinel h3 env_g0 tErr0 Tryz.underlying97 rowErr Tryz.underlying285 Tryz.underlying287 rfl rfl Tryz.underlying9 (by kernel_rfl) (by kernel_rfl)
    exact ⟨_, _, hv⟩
  · obtain ⟨a, s, hv, _⟩ := laid_sentinel h2 env_g1 tErr1 Tryz.underlying97 rowErr Tryz.underlying285 Tryz.underlying287 rfl rfl Tryz.underlying9 (by kernel_rfl) (by kernel_rfl)
    exact ⟨_, _, hv⟩
  · exact Lib.tabIs_of_head env_g2 tPow Tryz.underlying278 Tryz.underlying239 (by kernel_rfl) (by kernel_rfl) h1
theorem door_met (os : Os) (args : Array Value) : laidMetH Tryz.prog laid5 ((World.doorLaid Tryz.prog 62 os).forCall (fun _ _ => 0) ⟨#[], args, []⟩).memory :=
  laidMetH_of_parts3 (fuel := 8) (laidMet_of_run' 8 (by kernel_rfl) (by kernel_rfl)) (by kernel_rfl) (by kernel_rfl)
end Go.Proofs.YtimdkdengdhglaaGreatDoor
