/- Contracts of package lex's smallest functions: of, the four closures, eat. -/
import Derived.Test.YtimdkdengdhglaaGreatDoorProg
import Derived.Test.YtimdkdengdhglaaGreatDoorLexP
import Derived.Test.YtimdkdengdhglaaGreatDoorShelf
import Derived.WalkKit
import Derived.WalkSpells
import Derived.WalkLawsBesides
import Derived.BigQuiet
import Derived.Deep.QuietTactic
import Derived.Deep.LoopGhost
import Derived.Lib.Hide
import Derived.Shelf.Abstract
namespace Go.Proofs.YtimdkdengdhglaaGreatDoor
open Go Go.RowKit

theorem ret_int {k : IntKind} {a b : Int} (h : a = b) : Ending.returned (.int k a) = .returned (.int k b) := by rw [h]
theorem ret_bool {a b : Bool} (h : a = b) : Ending.returned (.bool a) = .returned (.bool b) := by rw [h]

/-- The scanner in block b: what is left of the text, the line. -/
def Scan (w : World) (b : Nat) (l : List UInt8) (ln : Int) : Prop := w.heap[b]? = some (.cells #[.string (bs l), .int .i64 ln] 83 (0, 0))
theorem Scan.c0 {w : World} {b : Nat} {l : List UInt8} {ln : Int} (h : Scan w b l ln) : w.cell? ⟨b, 0, none⟩ = some (.string (bs l)) := by simp [World.cell?, show w.heap[b]? = _ from h]
theorem Scan.c1 {w : World} {b : Nat} {l : List UInt8} {ln : Int} (h : Scan w b l ln) : w.cell? ⟨b, 1, none⟩ = some (.int .i64 ln) := by simp [World.cell?, show w.heap[b]? = _ from h]
theorem Scan.fr {w : World} {b : Nat} {l : List UInt8} {ln : Int} (h : Scan w b l ln) (j : Nat) : w.frozen? ⟨b, j, none⟩ = false := by simp [World.frozen?, show w.heap[b]? = _ from h]
theorem Scan.lt {w : World} {b : Nat} {l : List UInt8} {ln : Int} (h : Scan w b l ln) : b < w.heap.size := by
  by_cases hb : b < w.heap.size
  · exact hb
  · have h' : w.heap[b]? = _ := h
    simp [Array.getElem?_eq_none (Nat.le_of_not_lt hb)] at h'
theorem Scan.set0 {w : World} {b : Nat} {l : List UInt8} {ln : Int} (h : Scan w b l ln) (t : List UInt8) : Scan (w.setCell ⟨b, 0, none⟩ (.string (bs t))) b t ln := by
  have h' : w.heap[b]? = _ := h
  simp [Scan, World.setCell, Array.getElem?_modify, h']
theorem Scan.set1 {w : World} {b : Nat} {l : List UInt8} {ln : Int} (h : Scan w b l ln) (m : Int) : Scan (w.setCell ⟨b, 1, none⟩ (.int .i64 m)) b l m := by
  have h' : w.heap[b]? = _ := h
  simp [Scan, World.setCell, Array.getElem?_modify, h']
theorem Scan.of_block {w w' : World} {b : Nat} {l : List UInt8} {ln : Int} (h : Scan w b l ln) (e : w'.heap[b]? = w.heap[b]?) : Scan w' b l ln := by
  unfold Scan at *; rw [e, h]
theorem Scan.alloc {w : World} {b : Nat} {l : List UInt8} {ln : Int} (h : Scan w b l ln) (o : Obj) : Scan (w.alloc o) b l ln := h.of_block (Below.heap_alloc w o b h.lt)
theorem Scan.far {w : World} {b : Nat} {l : List UInt8} {ln : Int} (h : Scan w b l ln) {p : Addr} (hp : b ≠ p.block) (u : Value) : Scan (w.setCell p u) b l ln := h.of_block (Below.heap_setCell w p u b hp)
theorem Scan.drewN {w : World} {b : Nat} {l : List UInt8} {ln : Int} (h : Scan w b l ln) (n : Nat) : Scan (w.drewN n) b l ln := h
theorem Scan.below {w w' : World} {b : Nat} {l : List UInt8} {ln : Int} (h : Scan w b l ln) {B : Nat} (hb : Below B w w') (hB : b < B) : Scan w' b l ln := h.of_block (hb.block b hB)

/-- w' is w but for the blocks of S; new blocks. -/
structure Touch (S : Nat → Prop) (w w' : World) : Prop where
  os : w'.os = w.os
  tape : w'.tape = w.tape
  output : w'.output = w.output
  size : w.heap.size ≤ w'.heap.size
  block : ∀ k, k < w.heap.size → ¬ S k → w'.heap[k]? = w.heap[k]?
theorem Touch.refl (S : Nat → Prop) (w : World) : Touch S w w := ⟨rfl, rfl, rfl, Nat.le_refl _, fun _ _ _ => rfl⟩
theorem Touch.trans {S : Nat → Prop} {a b c : World} (h : Touch S a b) (k : Touch S b c) : Touch S a c :=
  ⟨k.os.trans h.os, k.tape.trans h.tape, k.output.trans h.output, Nat.le_trans h.size k.size, fun i hi hS => (k.block i (Nat.lt_of_lt_of_le hi h.size) hS).trans (h.block i hi hS)⟩
theorem Touch.mono {S S' : Nat → Prop} {w w' : World} (h : Touch S w w') (hS : ∀ k, k < w.heap.size → S k → S' k) : Touch S' w w' :=
  ⟨h.os, h.tape, h.output, h.size, fun i hi hn => h.block i hi (fun hs => hn (hS i hi hs))⟩
theorem Touch.alloc {S : Nat → Prop} {a w : World} (h : Touch S a w) (o : Obj) : Touch S a (w.alloc o) :=
  ⟨h.os, h.tape, h.output, by simp; have := h.size; omega, fun i hi hS => (Below.heap_alloc w o i (Nat.lt_of_lt_of_le hi h.size)).trans (h.block i hi hS)⟩
theorem Touch.set {S : Nat → Prop} {a w : World} (h : Touch S a w) {p : Addr} (hp : S p.block) (u : Value) : Touch S a (w.setCell p u) :=
  ⟨h.os, h.tape, h.output, by simpa using h.size, fun i hi hS => (Below.heap_setCell w p u i (fun e => hS (e ▸ hp))).trans (h.block i hi hS)⟩
theorem Touch.setN {S : Nat → Prop} {a w : World} (h : Touch S a w) {p : Addr} (hp : a.heap.size ≤ p.block) (u : Value) : Touch S a (w.setCell p u) :=
  ⟨h.os, h.tape, h.output, by simpa using h.size, fun i hi hS => (Below.heap_setCell w p u i (by omega)).trans (h.block i hi hS)⟩
theorem Touch.drewN {S : Nat → Prop} {a w : World} (h : Touch S a w) (n : Nat) : Touch S a (w.drewN n) := ⟨h.os, h.tape, h.output, h.size, h.block⟩
theorem Touch.below {S : Nat → Prop} {a w w' : World} (h : Touch S a w) {B : Nat} (hb : Below B w w') (hB : ∀ k, k < a.heap.size → ¬ S k → k < B) : Touch S a w' :=
  ⟨hb.os.trans h.os, hb.tape.trans h.tape, hb.output.trans h.output, Nat.le_trans h.size hb.size, fun i hi hS => (hb.block i (hB i hi hS)).trans (h.block i hi hS)⟩
theorem Touch.to_below {S : Nat → Prop} {w w' : World} (h : Touch S w w') {B : Nat} (hB : B ≤ w.heap.size) (hS : ∀ k, k < B → ¬ S k) : Below B w w' :=
  ⟨h.os, h.tape, h.output, h.size, fun i hi => h.block i (Nat.lt_of_lt_of_le hi hB) (hS i hi)⟩
theorem Touch.of_below {S : Nat → Prop} {w w' : World} {B : Nat} (h : Below B w w') (hB : ∀ k, k < w.heap.size → ¬ S k → k < B) : Touch S w w' := (Touch.refl S w).below h hB

set_option maxHeartbeats 400000 in
theorem skip2_any (c : UInt8) (w : World) :
    Calls Tryz.prog 141 #[.int .u8 (c.toNat : Int)] w fun e w' => e = .returned (.bool (c != 10)) ∧ w = w' := by
  have h : ((c.toNat : Int) != 10) = (c != 10) := by
    rw [Bool.eq_iff_iff]; simp [bne_iff_ne, ← UInt8.toNat_inj]; omega
  have H := Lib.hid h; clear h
  go_enter Tryz.func141, Tryz.ntmps141
  go_wp2
  go_ret
  exact ⟨by rw [← H.out]; rfl, rfl⟩

theorem idx7 (c : UInt8) : 0 ≤ Lib.indexByte [45, 95, 58, 46, 35, 33, 63] c ↔ (c.toNat = 45 ∨ c.toNat = 95 ∨ c.toNat = 58 ∨ c.toNat = 46 ∨ c.toNat = 35 ∨ c.toNat = 33 ∨ c.toNat = 63) := by
  have h : ∀ n : Fin 256, (0 ≤ Lib.indexByte [45, 95, 58, 46, 35, 33, 63] (UInt8.ofNat n.val) ↔ (n.val = 45 ∨ n.val = 95 ∨ n.val = 58 ∨ n.val = 46 ∨ n.val = 35 ∨ n.val = 33 ∨ n.val = 63)) := by decide +kernel
  have := h ⟨c.toNat, c.toNat_lt⟩
  simpa using this

set_option maxHeartbeats 1000000 in
theorem of_any (c : UInt8) (w : World) :
    Calls Tryz.prog 139 #[.int .u8 (c.toNat : Int)] w fun e w' => e = .returned (.int .u8 (kindOf c : Int)) ∧ w = w' := by
  have hi := Lib.hid (idx7 c)
  go_enter Tryz.func139, Tryz.ntmps139
  go_wp2_with (go_at_call 170; refine (Tryz.strings_IndexByte _ _ _).mono ?_; rintro e w' ⟨rfl, rfl⟩)
  all_goals
    go_ret
    refine ⟨ret_int ?_, rfl⟩
    have hi := hi.out
    unfold kindOf
    try simp only [beq_iff_eq, bne_iff_ne, beq_eq_false_iff_ne, bne_eq_false_iff_eq, ne_eq] at *
    repeat' split
    all_goals first | rfl | omega

theorem kindOf_le (c : UInt8) : kindOf c ≤ 3 := by
  unfold kindOf
  repeat' split
  all_goals omega

set_option maxHeartbeats 400000 in
theorem skip1_any (c : UInt8) (w : World) :
    Calls Tryz.prog 138 #[.int .u8 (c.toNat : Int)] w fun e w' => e = .returned (.bool (idle c)) ∧ w = w' := by
  have h : ((kindOf c : Int) == 1) = idle c := by
    rw [Bool.eq_iff_iff]; simp [idle]; omega
  have H := Lib.hid h; clear h
  go_enter Tryz.func138, Tryz.ntmps138
  go_wp2_with (go_at_call 139; refine (of_any _ _).mono ?_; rintro e w' ⟨rfl, rfl⟩)
  go_ret
  exact ⟨by rw [← H.out]; rfl, rfl⟩

set_option maxHeartbeats 400000 in
theorem word1_any (c : UInt8) (w : World) :
    Calls Tryz.prog 143 #[.int .u8 (c.toNat : Int)] w fun e w' => e = .returned (.bool (part c)) ∧ w = w' := by
  have h : decide ((2 : Int) ≤ (kindOf c : Int)) = part c := by
    rw [Bool.eq_iff_iff]; simp [part]; omega
  have H := Lib.hid h; clear h
  go_enter Tryz.func143, Tryz.ntmps143
  go_wp2_with (go_at_call 139; refine (of_any _ _).mono ?_; rintro e w' ⟨rfl, rfl⟩)
  go_ret
  exact ⟨by rw [← H.out]; rfl, rfl⟩

set_option maxHeartbeats 400000 in
theorem text1_any (c : UInt8) (w : World) :
    Calls Tryz.prog 172 #[.int .u8 (c.toNat : Int)] w fun e w' => e = .returned (.bool (plainByte c)) ∧ w = w' := by
  have h (n : Int) (k : UInt8) (hk : (k.toNat : Int) = n) : ((c.toNat : Int) != n) = (c != k) := by
    subst hk; rw [Bool.eq_iff_iff]; simp [bne_iff_ne, ← UInt8.toNat_inj]; omega
  have H : Hid ((((c.toNat : Int) != 34) && ((c.toNat : Int) != 92) && ((c.toNat : Int) != 10)) = plainByte c) := by
    have a := h 34 34 rfl; have b := h 92 92 rfl; have d := h 10 10 rfl
    show _ = _; rw [a, b, d]; rfl
  clear h
  go_enter Tryz.func172, Tryz.ntmps172
  go_wp2
  all_goals
    go_ret
    refine ⟨ret_bool ?_, rfl⟩
    rw [← H.out] <;> simp_all

set_option maxHeartbeats 1000000 in
theorem eat_any (g : Nat) (p : UInt8 → Bool) (b : Nat) (l : List UInt8) (ln : Int) (w : World) (hs : l.length ≤ 1000000)
    (eg : ∀ args w, (callFunc g args).run Tryz.prog w = .ok (.enter g args) w)
    (hcl : ∀ (c : UInt8) (W : World), Calls Tryz.prog g #[.int .u8 (c.toNat : Int)] W fun e W' => e = .returned (.bool (p c)) ∧ W = W')
    (hb : Scan w b l ln) :
    Calls Tryz.prog 137 #[.pointer (some ⟨b, 0, none⟩), .func (.func g) #[] #[]] w fun e w' =>
      e = .returned (.string (bs (l.takeWhile p))) ∧ w' = w.setCell ⟨b, 0, none⟩ (.string (bs (l.dropWhile p))) := by
  have c0 := hb.c0
  have f0 := hb.fr 0
  have e1 := Lib.hid ((bs_take l (l.takeWhile p).length).trans (by rw [take_tw]))
  have e2 := Lib.hid ((bs_drop l (l.takeWhile p).length).trans (by rw [drop_tw]))
  obtain ⟨s, hS⟩ : ∃ s, s = bs l := ⟨_, rfl⟩
  have hsz : s.size = l.length := by rw [hS, bs_size]
  have hrl : (l.takeWhile p).length ≤ s.size := by rw [hsz]; exact tw_le p l
  have hrlt : Hid (∀ k (hk : k < s.size), k < (l.takeWhile p).length → p s[k] = true) := fun k hk h => by
    subst hS; rw [bs_get]; exact tw_lt p l k h _
  have hrat : Hid (∀ (h : (l.takeWhile p).length < s.size), p s[(l.takeWhile p).length] = false) := fun h => by
    subst hS; rw [bs_get]; exact tw_at p l _
  have hs' : s.size ≤ 1000000 := by omega
  rw [← hS] at c0 e1 e2
  have hcl' := Lib.hid hcl
  clear hcl hb hsz hS hs
  generalize (l.takeWhile p).length = R at *
  go_enter Tryz.func137, Tryz.ntmps137
  go_wp2
  go_loop [5] (fun n => ∃ k : Nat, k ≤ R ∧ n = .int .i64 k) (fun n => R + 1 - (intOf n).toNat)
  case atStart => exact ⟨0, Nat.zero_le _, rfl⟩
  case round =>
    obtain ⟨k, hk, rfl⟩ := hrel
    by_cases hlt : k < s.size
    · have hp := hrlt.out k hlt
      by_cases hR : k < R
      · have cS := hcl'.out s[k] w
        rw [hp hR] at cS
        clear hp
        go_wp2_with (go_at_fn g; refine cS.mono ?_; rintro e W' ⟨rfl, rfl⟩)
        go_round
        case rel => exact ⟨k + 1, by omega, by go_num⟩
        case measure => simp [intOf]; omega
      · obtain rfl : k = R := by omega
        have cS := hcl'.out s[k] w
        rw [hrat.out hlt] at cS
        clear hp
        go_wp2_with (go_at_fn g; refine cS.mono ?_; rintro e W' ⟨rfl, rfl⟩)
        go_ret
        exact ⟨by rw [← e1.out]; rfl, by rw [← e2.out]⟩
    · obtain rfl : k = R := by omega
      go_wp2
      go_ret
      exact ⟨by rw [← e1.out]; rfl, by rw [← e2.out]⟩

theorem eat_skip1 (b : Nat) (l : List UInt8) (ln : Int) (w : World) (hs : l.length ≤ 1000000) (hb : Scan w b l ln) :
    Calls Tryz.prog 137 #[.pointer (some ⟨b, 0, none⟩), .func (.func 138) #[] #[]] w fun e w' =>
      e = .returned (.string (bs (l.takeWhile idle))) ∧ w' = w.setCell ⟨b, 0, none⟩ (.string (bs (l.dropWhile idle))) :=
  eat_any _ idle b l ln w hs (enters_of Tryz.func138 (by kernel_rfl) rfl) skip1_any hb
theorem eat_skip2 (b : Nat) (l : List UInt8) (ln : Int) (w : World) (hs : l.length ≤ 1000000) (hb : Scan w b l ln) :
    Calls Tryz.prog 137 #[.pointer (some ⟨b, 0, none⟩), .func (.func 141) #[] #[]] w fun e w' =>
      e = .returned (.string (bs (l.takeWhile (· != 10)))) ∧ w' = w.setCell ⟨b, 0, none⟩ (.string (bs (l.dropWhile (· != 10)))) :=
  eat_any _ (· != 10) b l ln w hs (enters_of Tryz.func141 (by kernel_rfl) rfl) skip2_any hb
theorem eat_text1 (b : Nat) (l : List UInt8) (ln : Int) (w : World) (hs : l.length ≤ 1000000) (hb : Scan w b l ln) :
    Calls Tryz.prog 137 #[.pointer (some ⟨b, 0, none⟩), .func (.func 172) #[] #[]] w fun e w' =>
      e = .returned (.string (bs (l.takeWhile plainByte))) ∧ w' = w.setCell ⟨b, 0, none⟩ (.string (bs (l.dropWhile plainByte))) :=
  eat_any _ plainByte b l ln w hs (enters_of Tryz.func172 (by kernel_rfl) rfl) text1_any hb
theorem eat_word1 (b : Nat) (l : List UInt8) (ln : Int) (w : World) (hs : l.length ≤ 1000000) (hb : Scan w b l ln) :
    Calls Tryz.prog 137 #[.pointer (some ⟨b, 0, none⟩), .func (.func 143) #[] #[]] w fun e w' =>
      e = .returned (.string (bs (l.takeWhile part))) ∧ w' = w.setCell ⟨b, 0, none⟩ (.string (bs (l.dropWhile part))) :=
  eat_any _ part b l ln w hs (enters_of Tryz.func143 (by kernel_rfl) rfl) word1_any hb
end Go.Proofs.YtimdkdengdhglaaGreatDoor
