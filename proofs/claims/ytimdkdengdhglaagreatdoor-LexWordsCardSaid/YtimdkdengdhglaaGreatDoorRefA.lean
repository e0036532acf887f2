/- Contracts of the reference's small functions: digit, letter, NameByte, run, Number. -/
import Derived.Test.YtimdkdengdhglaaGreatDoorRefP
import Derived.Test.YtimdkdengdhglaaGreatDoorLexA
namespace Go.Proofs.YtimdkdengdhglaaGreatDoor
open Go Go.RowKit

set_option maxHeartbeats 400000 in
theorem rdigit_any (c : UInt8) (w : World) : Calls Tryz.prog 151 #[.int .u8 (c.toNat : Int)] w fun e w' => e = .returned (.bool (digitB c)) ∧ w' = w := by
  have h : (decide ((48 : Int) ≤ (c.toNat : Int)) && decide ((c.toNat : Int) ≤ 57)) = digitB c := by
    rw [Bool.eq_iff_iff]; simp [digitB]; omega
  have H := Lib.hid h; clear h
  go_enter Tryz.func151, Tryz.ntmps151
  go_wp2
  all_goals go_ret
  all_goals refine ⟨ret_bool ?_, rfl⟩
  all_goals (rw [Bool.eq_iff_iff]; simp only [digitB, Bool.and_eq_true, decide_eq_true_eq, Bool.false_eq_true, false_iff, true_iff]; omega)

def letterB (c : UInt8) : Bool := (decide (97 ≤ c.toNat) && decide (c.toNat ≤ 122)) || (decide (65 ≤ c.toNat) && decide (c.toNat ≤ 90))
set_option maxHeartbeats 400000 in
theorem rletter_any (c : UInt8) (w : World) : Calls Tryz.prog 179 #[.int .u8 (c.toNat : Int)] w fun e w' => e = .returned (.bool (letterB c)) ∧ w' = w := by
  go_enter Tryz.func179, Tryz.ntmps179
  go_wp2
  all_goals go_ret
  all_goals refine ⟨ret_bool ?_, rfl⟩
  all_goals (rw [Bool.eq_iff_iff]; simp only [letterB, Bool.and_eq_true, Bool.or_eq_true, decide_eq_true_eq, Bool.false_eq_true, false_iff, true_iff]; omega)

set_option maxHeartbeats 1000000 in
theorem rname_any (c : UInt8) (w : World) : Calls Tryz.prog 149 #[.int .u8 (c.toNat : Int)] w fun e w' => e = .returned (.bool (part c)) ∧ w' = w := by
  have hp : Hid (part c = (digitB c || letterB c || c.toNat == 45 || c.toNat == 95 || c.toNat == 58 || c.toNat == 46 || c.toNat == 35 || c.toNat == 33 || c.toNat == 63)) := by
    show _ = _
    unfold part kindOf digitB letterB
    rw [Bool.eq_iff_iff]
    simp only [decide_eq_true_eq, Bool.or_eq_true, Bool.and_eq_true, beq_iff_eq]
    repeat' split
    all_goals omega
  go_enter Tryz.func149, Tryz.ntmps149
  go_wp2_with (first | (go_at_call 151; refine (rdigit_any _ _).mono ?_; rintro e w' ⟨rfl, rfl⟩) | (go_at_call 179; refine (rletter_any _ _).mono ?_; rintro e w' ⟨rfl, rfl⟩))
  all_goals go_ret
  all_goals refine ⟨ret_bool ?_, rfl⟩
  all_goals
    have hp := hp.out
    try simp only [beq_iff_eq, beq_eq_false_iff_ne, ne_eq] at *
    rw [hp, Bool.eq_iff_iff]
    simp only [Bool.or_eq_true, beq_iff_eq, Bool.false_eq_true, false_iff, true_iff]
    clear hp
    first | omega | (simp only [*, true_or, or_true, Bool.false_eq_true, false_or, not_false_eq_true]; try omega)
end Go.Proofs.YtimdkdengdhglaaGreatDoor
