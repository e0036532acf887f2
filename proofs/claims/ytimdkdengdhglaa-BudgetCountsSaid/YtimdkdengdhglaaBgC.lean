/- What any list of things that are done to a document costs is told as the chapter says: BudgetCounts returns true at any list. No conditions. -/
import Derived.Test.YtimdkdengdhglaaRows
import Derived.Test.YtimdkdengdhglaaBgX
import Derived.Test.YtimdkdengdhglaaBgQ
namespace Go.Proofs.Ytimdkdengdhglaa
open Go Go.RowKit Go.ChangeShapes Go.WideShapes Go.ChangeAt Go.Maps

theorem ops_kept {w w' : World} {b o n : Nat} {r : Nat → OpR} (h : OpsAt w b o n r) (hb : 0 < n → b < w.heap.size) (hw : Below w.heap.size w w') : OpsAt w' b o n r :=
  fun i hi j hj => (hw.cell (p := ⟨b, o + (i * 14 + j), none⟩) (hb (by omega))).trans (h i hi j hj)

set_option maxHeartbeats 1000000 in
set_option maxRecDepth 100000 in
theorem counts_any (ao : Option Addr) (b o n cap : Nat) (r : Nat → OpR) (w : World) (hn : n ≤ 9223372036854775807) (hao : 0 < n → ao = some ⟨b, o, none⟩ ∧ b < w.heap.size) (hc : OpsAt w b o n r) :
    Calls Try.prog 4 #[.slice ao n cap] w fun e w' => e = .returned (.bool true) ∧ Below w.heap.size w w' := by
  have cB := ofB_any ao b o n cap r w hn hao hc
  obtain ⟨X, hX⟩ : ∃ X, X = C5.of (fun i => (r i).kind) n := ⟨_, rfl⟩
  have cR : Hid (∀ W, Below w.heap.size w W → Calls Try.prog 11 #[.slice ao n cap] W fun e w' => e = .returned X.val ∧ Below W.heap.size W w') := fun W hW => by
    rw [hX]
    exact ofR_any ao b o n cap r W hn (fun h => ⟨(hao h).1, Nat.lt_of_lt_of_le (hao h).2 hW.size⟩) (ops_kept hc (fun h => (hao h).2) hW)
  rw [← hX] at cB
  obtain ⟨xa, xb, xc, xd, xe⟩ := X
  unfold C5.val at cB cR
  replace hX := Lib.hid hX
  replace hc := Lib.hid hc
  go_enter Try.func4, Try.ntmps4
  go_wp2_with (go_at_call 10; refine cB.mono ?_)
  first | rintro e W1 rfl hb1 | rintro e W1 ⟨rfl, hb1⟩
  replace hb1 := Lib.hid hb1
  clear cB
  go_wp2_with (go_at_call 11; refine (cR.out _ hb1.out).mono ?_)
  first | rintro e W2 rfl hb2 | rintro e W2 ⟨rfl, hb2⟩
  have hb02 := Lib.hid (hb1.out.trans (hb2.mono hb1.out.size))
  clear hb2
  have cS := same_any ⟨xa, xb, xc, xd, xe⟩ W2
  unfold C5.val at cS
  go_wp2_with (go_at_call 9; refine cS.mono ?_)
  first | rintro e W3 rfl hb3 | rintro e W3 ⟨rfl, hb3⟩
  have hb03 := Lib.hid (hb02.out.trans (hb3.mono hb02.out.size))
  clear hb3 cS
  have cL := lives_any W3
  go_wp2_with (go_at_call 8; refine cL.mono ?_)
  first | rintro e W4 rfl hb4 | rintro e W4 ⟨rfl, hb4⟩
  have hb04 := Lib.hid (hb03.out.trans (hb4.mono hb03.out.size))
  clear hb4 cL
  go_wp2_with fail
  go_ret
  exact ⟨rfl, hb04.out⟩

instance : Inhabited OpR := ⟨⟨0, 0, 0, ByteArray.empty, 0, ByteArray.empty, 0, 0, ByteArray.empty, none, 0, 0, none, 0, 0, 0, ByteArray.empty, false⟩⟩
theorem own : ownKnob Try.prog.godebug = none := by kernel_rfl
theorem laidOut : laidOutB Try.prog = true := by kernel_rfl

set_option maxRecDepth 100000 in
theorem counts_lifted (os : Os) (started : os.Started) (H : Type) (enc : TypeId × Value → H) :
    ReturnsInHanded {} Try.checked os 4 .any (Rows.budgetCountsSpec.pre6 enc Try.prog Try.f4 Rows.budgetCountsRow.domain false) (Rows.budgetCountsSpec.post enc Try.prog Try.f4 false true false false) := by
  refine returnsInHanded_of_change (C := Try.checked) own started (by kernel_rfl) Try.func4
    (ChangeSpec.witness6 (enc := enc) (C := Try.checked) false ⟨#[], #[.slice none 0 0], []⟩ 8 (by kernel_rfl) (by kernel_rfl) (by kernel_rfl) (by kernel_rfl)) ?_
  intro W base args ds gs before hval0 hW _ _
  have hval : ∀ (j : Nat) t v, Try.f4.params[j]? = some t → args[j]? = some v → Value.okWide Try.prog W .any base t v := hval0
  have hW' := hW
  obtain ⟨p, q, hA0, hV, rfl, _, _⟩ := hW
  have hA : DataW.TrodAll enc Try.prog W 0 (fun _ => true) true Try.f4.params.toList args.toList ds p := hA0
  rw [Try.params4] at hA hval
  obtain ⟨v0, d0, rfl, rfl, h0⟩ := trodAll_one hA
  obtain ⟨rfl, rfl⟩ := trodVars_none hV
  obtain ⟨a0, len, cap, rfl⟩ := okWide_slice Try.underlying30 (hval 0 30 v0 rfl rfl)
  have h0k := h0
  obtain ⟨fuel, hf⟩ := h0
  clear hA0 hval0
  simp only [List.append_nil] at hW'
  have hlt : ∀ x ∈ p, x.block < W.heap.size := fun x hx => by simpa using hW'.lt x hx
  have hargs : ∀ (W' : World), Below W.heap.size W W' → DataW.Trod enc Try.prog W' 0 (fun b => decide (b < W.heap.size)) true 30 (.slice a0 len cap) d0 p :=
    fun W' hn => Below.trod laidOut (by kernel_rfl) (of_decide_eq_true (by kernel_rfl)) h0k hn hlt
  have fin : ∀ e W', (e = Ending.returned (.bool true) ∧ Below W.heap.size W W') →
      ∃ v, e = Ending.returned v ∧ Rows.budgetCountsSpec.post enc Try.checked.prog Try.f4 false true false false W #[.slice a0 len cap] v W' := by
    intro e W' ⟨he, hnx⟩
    subst he
    exact ⟨_, rfl, _, _, _, [], p, [], hW', trodAll_mk1 (shut_bool Try.underlying4 _), trodAll_mk1 (hargs _ hnx), rfl, hnx.frame _, fun h => by cases h⟩
  rcases Go.Deep.open_slice Try.underlying30 hf with ⟨hcs, hx⟩ | ⟨a, len', cap', m, n, D, Pl, hcs, _, hl, hm, hmm, hx, hel⟩
  · simp [Value.cells] at hcs
    obtain ⟨rfl, rfl, rfl⟩ := hcs
    exact (counts_any none 0 0 0 0 (fun _ => ⟨0, 0, 0, ByteArray.empty, 0, ByteArray.empty, 0, 0, ByteArray.empty, none, 0, 0, none, 0, 0, 0, ByteArray.empty, false⟩) W (by omega) (fun h => by omega) (fun i hi => by omega)).mono fin
  · simp [Value.cells] at hcs
    obtain ⟨rfl, rfl, rfl⟩ := hcs
    simp only [if_true] at hmm
    have hop : ∀ i, i < len → ∃ q : OpR, ∀ j, j < 14 → W.cell? ((a.add (i * 14)).add j) = q.cells[j]? := by
      intro i hi
      obtain ⟨cs', h1, h2⟩ := hel i (by omega)
      rw [k11] at h1
      obtain ⟨q, rfl⟩ := open_op h2
      refine ⟨q, fun j hj => ?_⟩
      obtain ⟨_, hlen, hcell⟩ := World.cells?_some h1
      exact hcell j hj
    obtain ⟨r, hr⟩ := Go.Deep.choose_lt hop
    simp only [Prod.mk.injEq] at hx
    obtain ⟨rfl, rfl⟩ := hx
    have hl63 : len ≤ 9223372036854775807 := by simp only [maxLen] at hm; omega
    by_cases hl0 : len = 0
    · subst hl0
      exact (counts_any (some a) 0 0 0 cap r W (by omega) (fun h => by omega) (fun i hi => by omega)).mono fin
    · obtain ⟨b, off, spot⟩ := a
      have hspot : spot = none := by
        have h9 := hr 0 (by omega) 0 (by omega)
        have h8 : ((⟨b, off, spot⟩ : Addr).add (0 * 14)).add 0 = ⟨b, off, spot⟩ := by simp [Addr.add]
        rw [h8] at h9
        exact World.cell?_spot (h9.trans (show (r 0).cells[0]? = some _ from rfl))
      subst hspot
      have hbW : b < W.heap.size := hlt (.cell b off) (List.mem_append_left _ (MemPlace.mem_row.2 ⟨0, by rw [k11]; omega, by simp⟩))
      refine (counts_any (some ⟨b, off, none⟩) b off len cap r W hl63 (fun _ => ⟨rfl, hbW⟩) (fun i hi j hj => ?_)).mono fin
      have h9 := hr i hi j hj
      rw [Go.Deep.add_add] at h9
      have h8 : (⟨b, off, none⟩ : Addr).add (i * 14 + j) = ⟨b, off + (i * 14 + j), none⟩ := by
        unfold Addr.add
        split
        · rename_i h0; rw [h0]; rfl
        · rfl
      rw [h8] at h9
      exact h9

theorem budgetCounts_holds : Rows.BudgetCountsSaid :=
  OpenClaim.holds_of_wide 4 Try.f4 rfl rfl rfl rfl rfl rfl rfl ⟨rfl, rfl, rfl, rfl, rfl⟩ rfl rfl rfl rfl rfl (by kernel_rfl) Try.func4 (by kernel_rfl)
    (of_decide_eq_true (by kernel_rfl)) (by unfold Func.isWrapper; first | (rw [if_pos (by decide +kernel)]; kernel_rfl) | (rw [if_neg (by decide +kernel)]; exact ⟨rfl, rfl⟩))
    (fun os started H enc _ => counts_lifted os started H enc)
#print axioms budgetCounts_holds
end Go.Proofs.Ytimdkdengdhglaa
