/- PrintTexts, part 12. -/
import Derived.Test.YtlppklbmdedipaaGreatDoorW02
import Derived.Test.YtlppklbmdedipaaGreatDoorW10
import Derived.Laws.AppendOwnNone
import Derived.Laws.IdiomStrings
import Derived.Lib.UnsafeStr
import Derived.Maps.AppendAt
import Derived.Test.YtlppklbmdedipaaGreatDoorW11
import Derived.Deep.DeepCutAuto
import Derived.Test.YtlppklbmdedipaaGreatDoorW06
import Derived.Deep.AppendLies
import Derived.Laws.OwnMore
namespace Go.Proofs.YtlppklbmdedipaaGreatDoor
open Go Go.RowKit
set_option maxHeartbeats 8000000
set_option maxRecDepth 100000
theorem infoByte : (Tryz.prog.info? 5).map (fun i => (i.zero, i.size, i.bytes)) = some (some (.int .u8 0), 1, 1) := infoU8
theorem refQuoted_any (s : List UInt8) (w : World) (hlen : s.length ≤ 35184372088832) :
  Calls Tryz.prog 42 #[.string (bs s)] w fun e w' => e = .returned (.string (bs (quoteL s))) ∧ Below w.heap.size w w' := by
 obtain ⟨i0, hi, hz0, hz1, hz2⟩ := info_parts infoByte
 have hsz := bs_size s
 have hgg : Hid (∀ (k : Nat) (hk : k < s.length) (h : k < (bs s).size), (bs s)[k]'h = s[k]'hk) := fun k hk h => bs_get s k h
 generalize bs s = S at *
 go_enter Tryz.func42, Tryz.ntmps42
 go_wp2_with (at_builtin; refine wpList_append_own _ rfl _ _ 37 rfl w.heap.size 5 i0 (.int .u8 0) 1 1 Tryz.underlying37 hi hz0 hz1 hz2 rfl (by decide) _ _ _ rfl (World.ownsRow_nil _ _ _ _) ⟨w.heap.size, 0, none⟩ 1 1 [.int .u8 34] rfl rfl ?c1 ?c2 ?c3 ?c4 ?c5 ?_)
 case c1 =>
  intro j u hj
  match j, hj with
  | 0, hj => simp at hj; subst hj; simp [Addr.add]
 case c2 => intro u hu; simp at hu; subst hu; rfl
 case c3 => unfold maxLen; omega
 case c4 => omega
 case c5 => simp
 intro v0 w0 hown' hgrow _
 have ho0 : w0.ownsRow w.heap.size 5 1 v0 (34 :: escL (s.take 0)).length (Lib.byteCells (34 :: escL (s.take 0))) := hown'
 have hbel0 := ((Below.refl _ w).alloc (Nat.le_refl _) _).grown hgrow (by simp) (fun k hk => by simp [Value.ownBlock] at hk)
 clear hown' hgrow
 go_wp2
 go_loopw [3, 4] (fun b i wr => ∃ k : Nat, k ≤ s.length ∧ i = .int .i64 k ∧ wr.ownsRow w.heap.size 5 1 b (34 :: escL (s.take k)).length (Lib.byteCells (34 :: escL (s.take k))) ∧ Below w.heap.size w wr) (fun _ i _ => s.length - (intOf i).toNat)
 case atStart => exact ⟨0, Nat.zero_le _, rfl, ho0, hbel0⟩
 case round =>
  obtain ⟨k, hk, rfl, ho, hbel⟩ := hrel
  clear ho0 hbel0
  have hel := escL_len (s.take k)
  have htl := List.length_take_le k s
  by_cases hlt : k < s.length
  ·have hg : ∀ h, S[k]'h = s[k] := fun h => hgg.out k hlt h
   have hs := hi_ (escL_take s k hlt)
   generalize s[k] = c at *
   have hln : (34 :: escL (s.take k)).length ≤ 70368744177665 := by simp; omega
   by_cases c1 : c = 34 ∨ c = 92
   ·have t1 : Hid True := trivial
    rcases c1 with rfl | rfl
    ·skip
     replace hs := hs
     go_wp2_with (at_builtin; refine wpList_append_own _ rfl _ _ 37 rfl w.heap.size 5 i0 (.int .u8 0) 1 1 Tryz.underlying37 hi hz0 hz1 hz2 rfl (by decide) _ _ _ rfl (ho.alloc _) ⟨wr.heap.size, 0, none⟩ 2 2 [.int .u8 92, .int .u8 34] rfl rfl ?c1 ?c2 ?c3 ?c4 ?c5 ?_)
     case c1 =>
      intro j u hj
      match j, hj with
      | 0, hj => simp at hj; subst hj; simp [Addr.add]
      | 1, hj => simp at hj; subst hj; simp [Addr.add]
     case c2 => intro u hu; simp at hu; (try rcases hu with rfl | rfl) <;> (try subst hu) <;> rfl
     case c3 => unfold maxLen; omega
     case c4 => omega
     case c5 => have := hbel.size; simp; omega
     intro v' w2 hown' hgrow _
     have hown2 : Hid (w2.ownsRow w.heap.size 5 1 v' (34 :: escL (s.take (k + 1))).length (Lib.byteCells (34 :: escL (s.take (k + 1))))) := by
      have e : 34 :: escL (s.take (k + 1)) = (34 :: escL (s.take k)) ++ [92, 34] := by rw [hs.out]; simp [escL]
      rw [e, List.length_append]
      show w2.ownsRow _ _ _ _ _ (Lib.byteCells _)
      simpa [Lib.byteCells] using hown'
     have hbel2 := hi_ ((hbel.alloc (by have := hbel.size; omega) _).grown hgrow (by have := hbel.size; simp; omega) (fun k hk => (ho.lt k hk).1))
     clear hown' hgrow ho hbel
     go_wp2
     go_roundw
     case rel => exact ⟨k + 1, by omega, by go_num, hown2.out, hbel2.out⟩
     case measure => simp [intOf]; omega
    ·skip
     replace hs := hs
     go_wp2_with (at_builtin; refine wpList_append_own _ rfl _ _ 37 rfl w.heap.size 5 i0 (.int .u8 0) 1 1 Tryz.underlying37 hi hz0 hz1 hz2 rfl (by decide) _ _ _ rfl (ho.alloc _) ⟨wr.heap.size, 0, none⟩ 2 2 [.int .u8 92, .int .u8 92] rfl rfl ?c1 ?c2 ?c3 ?c4 ?c5 ?_)
     case c1 =>
      intro j u hj
      match j, hj with
      | 0, hj => simp at hj; subst hj; simp [Addr.add]
      | 1, hj => simp at hj; subst hj; simp [Addr.add]
     case c2 => intro u hu; simp at hu; (try rcases hu with rfl | rfl) <;> (try subst hu) <;> rfl
     case c3 => unfold maxLen; omega
     case c4 => omega
     case c5 => have := hbel.size; simp; omega
     intro v' w2 hown' hgrow _
     have hown2 : Hid (w2.ownsRow w.heap.size 5 1 v' (34 :: escL (s.take (k + 1))).length (Lib.byteCells (34 :: escL (s.take (k + 1))))) := by
      have e : 34 :: escL (s.take (k + 1)) = (34 :: escL (s.take k)) ++ [92, 92] := by rw [hs.out]; simp [escL]
      rw [e, List.length_append]
      show w2.ownsRow _ _ _ _ _ (Lib.byteCells _)
      simpa [Lib.byteCells] using hown'
     have hbel2 := hi_ ((hbel.alloc (by have := hbel.size; omega) _).grown hgrow (by have := hbel.size; simp; omega) (fun k hk => (ho.lt k hk).1))
     clear hown' hgrow ho hbel
     go_wp2
     go_roundw
     case rel => exact ⟨k + 1, by omega, by go_num, hown2.out, hbel2.out⟩
     case measure => simp [intOf]; omega
   ·by_cases c2 : c = 10
    ·subst c2
     go_wp2_with (at_builtin; refine wpList_append_own _ rfl _ _ 37 rfl w.heap.size 5 i0 (.int .u8 0) 1 1 Tryz.underlying37 hi hz0 hz1 hz2 rfl (by decide) _ _ _ rfl (ho.alloc _) ⟨wr.heap.size, 0, none⟩ 2 2 [.int .u8 92, .int .u8 110] rfl rfl ?c1 ?c2 ?c3 ?c4 ?c5 ?_)
     case c1 =>
      intro j u hj
      match j, hj with
      | 0, hj => simp at hj; subst hj; simp [Addr.add]
      | 1, hj => simp at hj; subst hj; simp [Addr.add]
     case c2 => intro u hu; simp at hu; (try rcases hu with rfl | rfl) <;> (try subst hu) <;> rfl
     case c3 => unfold maxLen; omega
     case c4 => omega
     case c5 => have := hbel.size; simp; omega
     intro v' w2 hown' hgrow _
     have hown2 : Hid (w2.ownsRow w.heap.size 5 1 v' (34 :: escL (s.take (k + 1))).length (Lib.byteCells (34 :: escL (s.take (k + 1))))) := by
      have e : 34 :: escL (s.take (k + 1)) = (34 :: escL (s.take k)) ++ [92, 110] := by rw [hs.out]; simp [escL]
      rw [e, List.length_append]
      show w2.ownsRow _ _ _ _ _ (Lib.byteCells _)
      simpa [Lib.byteCells] using hown'
     have hbel2 := hi_ ((hbel.alloc (by have := hbel.size; omega) _).grown hgrow (by have := hbel.size; simp; omega) (fun k hk => (ho.lt k hk).1))
     clear hown' hgrow ho hbel
     go_wp2
     go_roundw
     case rel => exact ⟨k + 1, by omega, by go_num, hown2.out, hbel2.out⟩
     case measure => simp [intOf]; omega
    ·have t1 : ((c.toNat : Int) == 34) = false := by
      rw [beq_eq_false_iff_ne]; intro h; apply c1; left; apply UInt8.toNat_inj.1; simp; omega
     have t2 : ((c.toNat : Int) == 92) = false := by
      rw [beq_eq_false_iff_ne]; intro h; apply c1; right; apply UInt8.toNat_inj.1; simp; omega
     have t3 : ((c.toNat : Int) == 10) = false := by
      rw [beq_eq_false_iff_ne]; intro h; apply c2; apply UInt8.toNat_inj.1; simp; omega
     have c1' := hi_ c1
     have c2' := hi_ c2
     clear c1 c2
     go_wp2_with (at_builtin; refine wpList_append_own _ rfl _ _ 37 rfl w.heap.size 5 i0 (.int .u8 0) 1 1 Tryz.underlying37 hi hz0 hz1 hz2 rfl (by decide) _ _ _ rfl (ho.alloc _) ⟨wr.heap.size, 0, none⟩ 1 1 [.int .u8 (c.toNat : Int)] rfl rfl ?c1 ?c2 ?c3 ?c4 ?c5 ?_)
     case c1 =>
      intro j u hj
      match j, hj with
      | 0, hj => simp at hj; subst hj; simp [Addr.add]
     case c2 => intro u hu; simp at hu; (try rcases hu with rfl | rfl) <;> (try subst hu) <;> rfl
     case c3 => unfold maxLen; omega
     case c4 => omega
     case c5 => have := hbel.size; simp; omega
     intro v' w2 hown' hgrow _
     have hown2 : Hid (w2.ownsRow w.heap.size 5 1 v' (34 :: escL (s.take (k + 1))).length (Lib.byteCells (34 :: escL (s.take (k + 1))))) := by
      have e : 34 :: escL (s.take (k + 1)) = (34 :: escL (s.take k)) ++ [c] := by rw [hs.out]; simp [escL, c1'.out, c2'.out]
      rw [e, List.length_append]
      show w2.ownsRow _ _ _ _ _ (Lib.byteCells _)
      simpa [Lib.byteCells] using hown'
     have hbel2 := hi_ ((hbel.alloc (by have := hbel.size; omega) _).grown hgrow (by have := hbel.size; simp; omega) (fun k hk => (ho.lt k hk).1))
     clear hown' hgrow ho hbel
     go_wp2
     go_roundw
     case rel => exact ⟨k + 1, by omega, by go_num, hown2.out, hbel2.out⟩
     case measure => simp [intOf]; omega
  ·obtain rfl : k = s.length := by omega
   rw [List.take_length] at ho hel
   have hln : (34 :: escL s).length ≤ 70368744177665 := by simp; omega
   go_wp2_with (at_builtin; refine wpList_append_own _ rfl _ _ 37 rfl w.heap.size 5 i0 (.int .u8 0) 1 1 Tryz.underlying37 hi hz0 hz1 hz2 rfl (by decide) _ _ _ rfl (ho.alloc _) ⟨wr.heap.size, 0, none⟩ 1 1 [.int .u8 34] rfl rfl ?c1 ?c2 ?c3 ?c4 ?c5 ?_)
   case c1 =>
    intro j u hj
    match j, hj with
    | 0, hj => simp at hj; subst hj; simp [Addr.add]
   case c2 => intro u hu; simp at hu; subst hu; rfl
   case c3 => unfold maxLen; omega
   case c4 => omega
   case c5 => have := hbel.size; simp; omega
   intro v' w2 hown' hgrow _
   have hown2 : w2.ownsRow w.heap.size 5 1 v' (quoteL s).length (Lib.byteCells (quoteL s)) := by
    simpa [quoteL, Lib.byteCells] using hown'
   have hbel2 := hi_ ((hbel.alloc (by have := hbel.size; omega) _).grown hgrow (by have := hbel.size; simp; omega) (fun k hk => (ho.lt k hk).1))
   clear hown' hgrow ho hbel
   obtain ⟨g, cap, rfl⟩ : ∃ g cap, v' = .slice (some ⟨g, 0, none⟩) (quoteL s).length cap := by
    rcases hown2.2 with ⟨_, h0⟩ | ⟨g, cap, cur, hv, _⟩
    ·simp [quoteL] at h0
    ·exact ⟨g, cap, hv⟩
   have hcv := run_convert_bytes_back (P := Tryz.prog) w2 37 9 5 ⟨g, 0, none⟩ cap (quoteL s) Tryz.underlying37 Tryz.underlying5 Tryz.underlying9 (fun j hj => by
    have := hown2.cells rfl j (.int .u8 ((quoteL s)[j].toNat : Int)) (by simp [Lib.byteCells, hj])
    exact this)
   clear hown2
   generalize (quoteL s).length = qn at hcv ⊢
   go_wp2
   go_ret
   exact ⟨rfl, hbel2.out⟩
theorem dec_step (k u : Nat) (l : List UInt8) (h : ¬ k < 10) (hl : Lib.decDigits k ++ l = Lib.decDigits u) : Lib.decDigits (k / 10) ++ (UInt8.ofNat (48 + k % 10) :: l) = Lib.decDigits u := by
 rw [← hl, Lib.decDigits.eq_1 k, dif_neg h, List.append_assoc]; rfl
theorem dec_last (k u : Nat) (l : List UInt8) (h : k < 10) (hl : Lib.decDigits k ++ l = Lib.decDigits u) : UInt8.ofNat (48 + k) :: l = Lib.decDigits u := by
 rw [← hl, Lib.decDigits.eq_1 k, dif_pos h]; rfl
theorem dec_len (u : Nat) (h : u ≤ 9223372036854775808) : (Lib.decDigits u).length ≤ 21 := by
 have := Lib.itoa_length_le (-(u : Int)) (by omega) (by omega)
 unfold Lib.itoa at this
 split at this
 ·rw [show (-(u : Int)).natAbs = u by omega] at this; simp at this; omega
 ·obtain rfl : u = 0 := by omega
  rw [Lib.decDigits_length]; unfold Lib.nDigits; simp
theorem byte_snoc (l : List UInt8) (c : UInt8) : Lib.byteCells (l ++ [c]) = Lib.byteCells l ++ [.int .u8 (c.toNat : Int)] := by simp [Lib.byteCells]
theorem dig_num (k : Nat) : ((UInt8.ofNat (48 + k % 10)).toNat : Int) = 48 + (k : Int) % 10 := by simp; omega
theorem dig_num2 (k : Nat) (h : k ≤ 9) : ((UInt8.ofNat (48 + k)).toNat : Int) = 48 + (k : Int) := by simp; omega
def Rev (l m : List UInt8) (j : Nat) : Prop := m.length = l.length ∧ 2 * j ≤ l.length + 1 ∧ ∀ i, i < l.length → m[i]? = if i < j ∨ l.length ≤ i + j then l[l.length - 1 - i]? else l[i]?
theorem Rev.zero (l : List UInt8) : Rev l l 0 := ⟨rfl, by omega, fun i hi => by rw [if_neg (by omega)]⟩
theorem Rev.step {l m : List UInt8} {j : Nat} (h : Rev l m j) (hj : 2 * j + 1 < l.length) (a b : UInt8) (ha : m[j]? = some a) (hb : m[l.length - 1 - j]? = some b) : Rev l ((m.set j b).set (l.length - 1 - j) a) (j + 1) := by
 obtain ⟨h1, h2, h3⟩ := h
 have ea := h3 j (by omega)
 have eb := h3 (l.length - 1 - j) (by omega)
 rw [if_neg (by omega), ha] at ea
 rw [if_neg (by omega), hb] at eb
 refine ⟨by simp [h1], by omega, fun i hi => ?_⟩
 by_cases e1 : i = l.length - 1 - j
 ·subst e1
  rw [List.getElem?_set_self (by simp; omega), if_pos (by omega), ea]
  congr 1; omega
 ·rw [List.getElem?_set_ne (by omega)]
  by_cases e2 : i = j
  ·subst e2
   rw [List.getElem?_set_self (by omega), if_pos (by omega), eb]
  ·rw [List.getElem?_set_ne (by omega), h3 i hi]
   by_cases e3 : i < j ∨ l.length ≤ i + j
   ·rw [if_pos e3, if_pos (by omega)]
   ·rw [if_neg e3, if_neg (by omega)]
theorem Rev.done {l m : List UInt8} {j : Nat} (h : Rev l m j) (hj : ¬ 2 * j + 1 < l.length) : m = l.reverse := by
 obtain ⟨h1, h2, h3⟩ := h
 apply List.ext_getElem?
 intro i
 by_cases hi : i < l.length
 ·rw [h3 i hi, List.getElem?_reverse hi]
  split
  ·rfl
  ·congr 1; omega
 ·rw [List.getElem?_eq_none (by omega), List.getElem?_eq_none (by simp; omega)]
theorem byte_set (l : List UInt8) (j : Nat) (c : UInt8) : Lib.byteCells (l.set j c) = (Lib.byteCells l).set j (.int .u8 (c.toNat : Int)) := by simp [Lib.byteCells, List.map_set]
theorem refDigits_any (n : Int) (w : World) (h0 : -9223372036854775808 ≤ n) (h1 : n ≤ 9223372036854775807) :
  Calls Tryz.prog 41 #[.int .i64 n] w fun e w' => e = .returned (.string (bs (Lib.itoa n))) ∧ Below w.heap.size w w' := by
 obtain ⟨i0, hi, hz0, hz1, hz2⟩ := info_parts infoByte
 obtain ⟨N, hN⟩ : ∃ N, N = n.natAbs := ⟨_, rfl⟩
 have hL := dec_len N (by omega)
 by_cases hn : n < 0
 ·skip
  go_enter Tryz.func41, Tryz.ntmps41
  go_wp2
  go_loopw [3, 4] (fun u v wr => ∃ (k : Nat) (l : List UInt8), u = .int .u64 (k : Nat) ∧ k ≤ N ∧ wr.ownsRow w.heap.size 5 1 v l.length (Lib.byteCells l) ∧ Lib.decDigits k ++ l.reverse = Lib.decDigits N ∧ Below w.heap.size w wr) (fun u _ _ => (intOf u).toNat)
  case atStart =>
   refine ⟨N, [], ?_, Nat.le_refl _, World.ownsRow_nil _ _ _ _, List.append_nil _, Below.refl _ _⟩
   simp [IntKind.wrap, IntKind.bits, IntKind.signed]
   try omega
  case round =>
   obtain ⟨k, l, rfl, hk, ho, hd, hb⟩ := hrel
   have hbs := hb.size
   have hll : Hid (l.length + (Lib.decDigits k).length = (Lib.decDigits N).length) := by
    show _ = _
    rw [← hd, List.length_append, List.length_reverse, Nat.add_comm]
   have hll2 : l.length ≤ 21 := by have := hll.out; omega
   have hown1 := hi_ ho
   by_cases hc : 9 < k
   ·have hd2 := hi_ (dec_step k N l.reverse (by omega) hd)
    clear hd
    go_wp2_with (at_builtin; refine wpList_append_own _ rfl _ _ 37 rfl w.heap.size 5 i0 (.int .u8 0) 1 1 Tryz.underlying37 hi hz0 hz1 hz2 rfl (by decide) _ _ _ rfl (hown1.out.alloc _) ⟨wr.heap.size, 0, none⟩ 1 1 [(.int .u8 (48 + (k : Int) % 10))] rfl rfl (World.news_of_block (cs := #[(.int .u8 (48 + (k : Int) % 10))]) (t := 5) (fr := (0, 0)) (heap_alloc_new wr _)) (by simp [Value.oneCell']) (by unfold maxLen; omega) (by omega) (by simp; omega) ?_)
    intro v' w2 hown' hgrow _
    have hown2 : Hid (w2.ownsRow w.heap.size 5 1 v' (l ++ [UInt8.ofNat (48 + k % 10)]).length (Lib.byteCells (l ++ [UInt8.ofNat (48 + k % 10)]))) := by
     show w2.ownsRow _ _ _ _ _ _
     rw [byte_snoc, dig_num k]; simpa using hown'
    have hbel2 := hi_ ((hb.alloc (by omega) _).grown hgrow (by simp; omega) (fun k hk => (hown1.out.lt k hk).1))
    clear hown' hgrow ho hb hown1
    go_wp2
    go_roundw
    case rel => exact ⟨k / 10, l ++ [UInt8.ofNat (48 + k % 10)], by go_num, by omega, hown2.out, by rw [List.reverse_append]; exact hd2.out, hbel2.out⟩
    case measure => simp [intOf]; omega
   ·have hd2 := hi_ (dec_last k N l.reverse (by omega) hd)
    clear hd
    go_wp2_with (at_builtin; refine wpList_append_own _ rfl _ _ 37 rfl w.heap.size 5 i0 (.int .u8 0) 1 1 Tryz.underlying37 hi hz0 hz1 hz2 rfl (by decide) _ _ _ rfl (hown1.out.alloc _) ⟨wr.heap.size, 0, none⟩ 1 1 [(.int .u8 (48 + (k : Int)))] rfl rfl (World.news_of_block (cs := #[(.int .u8 (48 + (k : Int)))]) (t := 5) (fr := (0, 0)) (heap_alloc_new wr _)) (by simp [Value.oneCell']) (by unfold maxLen; omega) (by omega) (by simp; omega) ?_)
    intro v1 w2 hown' hgrow _
    have hown2 : Hid (w2.ownsRow w.heap.size 5 1 v1 (l ++ [UInt8.ofNat (48 + k)]).length (Lib.byteCells (l ++ [UInt8.ofNat (48 + k)]))) := by
     show w2.ownsRow _ _ _ _ _ _
     rw [byte_snoc, dig_num2 k (by omega)]; simpa using hown'
    have hbel2 := (hb.alloc (by omega) _).grown hgrow (by simp; omega) (fun k hk => (hown1.out.lt k hk).1)
    clear hown' hgrow ho hb hown1
    have hl1 : (l ++ [UInt8.ofNat (48 + k)]).length ≤ 22 := by simp; omega
    have hrev : Hid ((l ++ [UInt8.ofNat (48 + k)]).reverse = Lib.decDigits N) := by show _ = _; rw [List.reverse_append]; exact hd2.out
    have hpos : 0 < (l ++ [UInt8.ofNat (48 + k)]).length := by simp
    generalize l ++ [UInt8.ofNat (48 + k)] = l1 at *
    clear hd2 hll hll2
    have hbs2 := hbel2.size
    go_wp2_with (at_builtin; refine wpList_append_own _ rfl _ _ 37 rfl w.heap.size 5 i0 (.int .u8 0) 1 1 Tryz.underlying37 hi hz0 hz1 hz2 rfl (by decide) _ _ _ rfl (hown2.out.alloc _) ⟨w2.heap.size, 0, none⟩ 1 1 [(.int .u8 45)] rfl rfl (World.news_of_block (cs := #[(.int .u8 45)]) (t := 5) (fr := (0, 0)) (heap_alloc_new w2 _)) (by simp [Value.oneCell']) (by unfold maxLen; omega) (by omega) (by simp; omega) ?_)
    intro v3 w3 hown' hgrow _
    have hown3 : Hid (w3.ownsRow w.heap.size 5 1 v3 (l1 ++ [45]).length (Lib.byteCells (l1 ++ [45]))) := by
     show w3.ownsRow _ _ _ _ _ _
     rw [byte_snoc]; simpa using hown'
    have hbel3 := (hbel2.alloc (by omega) _).grown hgrow (by simp; omega) (fun k hk => (hown2.out.lt k hk).1)
    have hrev3 : Hid ((l1 ++ [45]).reverse = Lib.itoa n) := by
     show _ = _
     rw [List.reverse_append, hrev.out]
     unfold Lib.itoa; rw [if_pos hn, hN]; rfl
    have hl3 : (l1 ++ [45]).length ≤ 23 := by simp; omega
    have hpos3 : 0 < (l1 ++ [45]).length := by simp
    generalize l1 ++ [45] = l3 at *
    clear hown' hgrow hrev hown2
    obtain ⟨g, cap, rfl⟩ : ∃ g cap, v3 = .slice (some ⟨g, 0, none⟩) l3.length cap := by
     rcases hown3.out.2 with ⟨_, h0⟩ | ⟨g, cap, cur, hv, _⟩
     ·omega
     ·exact ⟨g, cap, hv⟩
    obtain ⟨len, hlen⟩ : ∃ len, len = l3.length := ⟨_, rfl⟩
    rw [← hlen] at hown3 hl3 hpos3 ⊢
    replace hlen := hi_ hlen
    clear hbs2
    go_wp2
    go_loopw [5] (fun i wr => ∃ (j : Nat) (m : List UInt8), i = .int .i64 (j : Nat) ∧ j ≤ len ∧ wr.ownsRow w.heap.size 5 1 (.slice (some ⟨g, 0, none⟩) len cap) len (Lib.byteCells m) ∧ Rev l3 m j ∧ Below w.heap.size w wr) (fun i _ => len - (intOf i).toNat)
    case atStart => exact ⟨0, l3, rfl, Nat.zero_le _, hown3.out, Rev.zero l3, hbel3⟩
    case round =>
     obtain ⟨j, m, rfl, hj, ho, hr, hb⟩ := hrel
     have hbs := hb.size
     have hml : m.length = len := by rw [hlen.out]; exact hr.1
     by_cases hc : 2 * j + 1 < len
     ·obtain ⟨p, hp⟩ : ∃ p, len = j + p + 1 := ⟨len - 1 - j, by omega⟩
      have hjp : j < p := by omega
      have ha : m[j]? = some (m[j]'(by omega)) := List.getElem?_eq_getElem _
      have hbb : m[p]? = some (m[p]'(by omega)) := List.getElem?_eq_getElem _
      generalize m[j]'(by omega) = a at ha
      generalize m[p]'(by omega) = b at hbb
      have c1 : wr.cell? ⟨g, j, none⟩ = some (.int .u8 (a.toNat : Int)) := by rw [ho.cellAt j (by omega)]; simp [Lib.byteCells, ha]
      have c2 : wr.cell? ⟨g, p, none⟩ = some (.int .u8 (b.toNat : Int)) := by rw [ho.cellAt p (by omega)]; simp [Lib.byteCells, hbb]
      have f1 := ho.frozenAt j
      have f2 := ho.frozenAt p
      have s1 := ho.stored j (.int .u8 (b.toNat : Int))
      have s2 := s1.1.stored p (.int .u8 (a.toNat : Int))
      have hr2 := hr.step (by rw [← hlen.out]; omega) a b ha (by rw [← hlen.out, show len - 1 - j = p by omega]; exact hbb)
      rw [← hlen.out, show len - 1 - j = p by omega] at hr2
      have hpi : (len : Int) - 1 - (j : Int) = (p : Nat) := by omega
      have hcI : 2 * (j : Int) < (len : Int) - 1 := by omega
      have hfin : ∀ W, W = (wr.setCell ⟨g, j, none⟩ (.int .u8 (b.toNat : Int))).setCell ⟨g, p, none⟩ (.int .u8 (a.toNat : Int)) → W.ownsRow w.heap.size 5 1 (.slice (some ⟨g, 0, none⟩) len cap) len (Lib.byteCells ((m.set j b).set p a)) ∧ Below w.heap.size w W := fun W e => by
       rw [e]
       refine ⟨by rw [byte_set, byte_set]; exact s2.1, ?_⟩
       have hgb := (ho.lt g rfl).1
       have hg1 := hb.grown s1.2 (by omega) (fun k hk => by injection hk with hk; omega)
       exact hg1.grown s2.2 (by have := s1.2.size; omega) (fun k hk => by injection hk with hk; omega)
      replace hfin := hi_ hfin
      replace hr2 := hi_ hr2
      replace hp := hi_ hp
      replace hml := hi_ hml
      clear s1 s2 ho hr ha hbb
      go_wp2_with fail
      go_roundw
      case rel => exact ⟨j + 1, (m.set j b).set p a, by go_num, by omega, (hfin.out _ rfl).1, hr2.out, (hfin.out _ rfl).2⟩
      case measure => simp [intOf]; omega
     ·have hm := hr.done (by rw [← hlen.out]; exact hc)
      have hcI : ¬ 2 * (j : Int) < (len : Int) - 1 := by omega
      rw [hrev3.out] at hm
      replace hm := hi_ hm
      have hcv := run_convert_bytes_back (P := Tryz.prog) wr 37 9 5 ⟨g, 0, none⟩ cap m Tryz.underlying37 Tryz.underlying5 Tryz.underlying9 (fun j hj => by
       have := ho.cells rfl j (.int .u8 (m[j].toNat : Int)) (by simp [Lib.byteCells, hj])
       exact this)
      rw [hml] at hcv
      replace hb := hi_ hb
      replace hml := hi_ hml
      clear ho hr
      go_wp2
      go_ret
      exact ⟨by rw [← hm.out]; rfl, hb.out⟩
 ·skip
  go_enter Tryz.func41, Tryz.ntmps41
  go_wp2
  go_loopw [3, 4] (fun u v wr => ∃ (k : Nat) (l : List UInt8), u = .int .u64 (k : Nat) ∧ k ≤ N ∧ wr.ownsRow w.heap.size 5 1 v l.length (Lib.byteCells l) ∧ Lib.decDigits k ++ l.reverse = Lib.decDigits N ∧ Below w.heap.size w wr) (fun u _ _ => (intOf u).toNat)
  case atStart =>
   refine ⟨N, [], ?_, Nat.le_refl _, World.ownsRow_nil _ _ _ _, List.append_nil _, Below.refl _ _⟩
   simp
   try omega
  case round =>
   obtain ⟨k, l, rfl, hk, ho, hd, hb⟩ := hrel
   have hbs := hb.size
   have hll : Hid (l.length + (Lib.decDigits k).length = (Lib.decDigits N).length) := by
    show _ = _
    rw [← hd, List.length_append, List.length_reverse, Nat.add_comm]
   have hll2 : l.length ≤ 21 := by have := hll.out; omega
   have hown1 := hi_ ho
   by_cases hc : 9 < k
   ·have hd2 := hi_ (dec_step k N l.reverse (by omega) hd)
    clear hd
    go_wp2_with (at_builtin; refine wpList_append_own _ rfl _ _ 37 rfl w.heap.size 5 i0 (.int .u8 0) 1 1 Tryz.underlying37 hi hz0 hz1 hz2 rfl (by decide) _ _ _ rfl (hown1.out.alloc _) ⟨wr.heap.size, 0, none⟩ 1 1 [(.int .u8 (48 + (k : Int) % 10))] rfl rfl (World.news_of_block (cs := #[(.int .u8 (48 + (k : Int) % 10))]) (t := 5) (fr := (0, 0)) (heap_alloc_new wr _)) (by simp [Value.oneCell']) (by unfold maxLen; omega) (by omega) (by simp; omega) ?_)
    intro v' w2 hown' hgrow _
    have hown2 : Hid (w2.ownsRow w.heap.size 5 1 v' (l ++ [UInt8.ofNat (48 + k % 10)]).length (Lib.byteCells (l ++ [UInt8.ofNat (48 + k % 10)]))) := by
     show w2.ownsRow _ _ _ _ _ _
     rw [byte_snoc, dig_num k]; simpa using hown'
    have hbel2 := hi_ ((hb.alloc (by omega) _).grown hgrow (by simp; omega) (fun k hk => (hown1.out.lt k hk).1))
    clear hown' hgrow ho hb hown1
    go_wp2
    go_roundw
    case rel => exact ⟨k / 10, l ++ [UInt8.ofNat (48 + k % 10)], by go_num, by omega, hown2.out, by rw [List.reverse_append]; exact hd2.out, hbel2.out⟩
    case measure => simp [intOf]; omega
   ·have hd2 := hi_ (dec_last k N l.reverse (by omega) hd)
    clear hd
    go_wp2_with (at_builtin; refine wpList_append_own _ rfl _ _ 37 rfl w.heap.size 5 i0 (.int .u8 0) 1 1 Tryz.underlying37 hi hz0 hz1 hz2 rfl (by decide) _ _ _ rfl (hown1.out.alloc _) ⟨wr.heap.size, 0, none⟩ 1 1 [(.int .u8 (48 + (k : Int)))] rfl rfl (World.news_of_block (cs := #[(.int .u8 (48 + (k : Int)))]) (t := 5) (fr := (0, 0)) (heap_alloc_new wr _)) (by simp [Value.oneCell']) (by unfold maxLen; omega) (by omega) (by simp; omega) ?_)
    intro v1 w2 hown' hgrow _
    have hown2 : Hid (w2.ownsRow w.heap.size 5 1 v1 (l ++ [UInt8.ofNat (48 + k)]).length (Lib.byteCells (l ++ [UInt8.ofNat (48 + k)]))) := by
     show w2.ownsRow _ _ _ _ _ _
     rw [byte_snoc, dig_num2 k (by omega)]; simpa using hown'
    have hbel2 := (hb.alloc (by omega) _).grown hgrow (by simp; omega) (fun k hk => (hown1.out.lt k hk).1)
    clear hown' hgrow ho hb hown1
    have hl1 : (l ++ [UInt8.ofNat (48 + k)]).length ≤ 22 := by simp; omega
    have hrev : Hid ((l ++ [UInt8.ofNat (48 + k)]).reverse = Lib.decDigits N) := by show _ = _; rw [List.reverse_append]; exact hd2.out
    have hpos : 0 < (l ++ [UInt8.ofNat (48 + k)]).length := by simp
    generalize l ++ [UInt8.ofNat (48 + k)] = l1 at *
    clear hd2 hll hll2
    have hbs2 := hbel2.size
    have hrev3 : Hid (l1.reverse = Lib.itoa n) := by
     show _ = _
     rw [hrev.out]
     unfold Lib.itoa; rw [if_neg (by omega), hN, show n.natAbs = n.toNat by omega]
    have hown3 := hown2
    have hbel3 := hbel2
    have hl3 : l1.length ≤ 23 := by omega
    have hpos3 := hpos
    obtain ⟨w3, hw3⟩ : ∃ w3, w3 = w2 := ⟨_, rfl⟩
    rw [← hw3] at hown3 hbel3 ⊢
    obtain ⟨v3, hv3⟩ : ∃ v3, v3 = v1 := ⟨_, rfl⟩
    rw [← hv3] at hown3 ⊢
    obtain ⟨l3, hl33⟩ : ∃ l3, l3 = l1 := ⟨_, rfl⟩
    rw [← hl33] at hown3 hrev3 hl3 hpos3
    clear hrev hown2 hw3 hv3 hl33 hbel2
    obtain ⟨g, cap, rfl⟩ : ∃ g cap, v3 = .slice (some ⟨g, 0, none⟩) l3.length cap := by
     rcases hown3.out.2 with ⟨_, h0⟩ | ⟨g, cap, cur, hv, _⟩
     ·omega
     ·exact ⟨g, cap, hv⟩
    obtain ⟨len, hlen⟩ : ∃ len, len = l3.length := ⟨_, rfl⟩
    rw [← hlen] at hown3 hl3 hpos3 ⊢
    replace hlen := hi_ hlen
    clear hbs2
    go_wp2
    go_loopw [5] (fun i wr => ∃ (j : Nat) (m : List UInt8), i = .int .i64 (j : Nat) ∧ j ≤ len ∧ wr.ownsRow w.heap.size 5 1 (.slice (some ⟨g, 0, none⟩) len cap) len (Lib.byteCells m) ∧ Rev l3 m j ∧ Below w.heap.size w wr) (fun i _ => len - (intOf i).toNat)
    case atStart => exact ⟨0, l3, rfl, Nat.zero_le _, hown3.out, Rev.zero l3, hbel3⟩
    case round =>
     obtain ⟨j, m, rfl, hj, ho, hr, hb⟩ := hrel
     have hbs := hb.size
     have hml : m.length = len := by rw [hlen.out]; exact hr.1
     by_cases hc : 2 * j + 1 < len
     ·obtain ⟨p, hp⟩ : ∃ p, len = j + p + 1 := ⟨len - 1 - j, by omega⟩
      have hjp : j < p := by omega
      have ha : m[j]? = some (m[j]'(by omega)) := List.getElem?_eq_getElem _
      have hbb : m[p]? = some (m[p]'(by omega)) := List.getElem?_eq_getElem _
      generalize m[j]'(by omega) = a at ha
      generalize m[p]'(by omega) = b at hbb
      have c1 : wr.cell? ⟨g, j, none⟩ = some (.int .u8 (a.toNat : Int)) := by rw [ho.cellAt j (by omega)]; simp [Lib.byteCells, ha]
      have c2 : wr.cell? ⟨g, p, none⟩ = some (.int .u8 (b.toNat : Int)) := by rw [ho.cellAt p (by omega)]; simp [Lib.byteCells, hbb]
      have f1 := ho.frozenAt j
      have f2 := ho.frozenAt p
      have s1 := ho.stored j (.int .u8 (b.toNat : Int))
      have s2 := s1.1.stored p (.int .u8 (a.toNat : Int))
      have hr2 := hr.step (by rw [← hlen.out]; omega) a b ha (by rw [← hlen.out, show len - 1 - j = p by omega]; exact hbb)
      rw [← hlen.out, show len - 1 - j = p by omega] at hr2
      have hpi : (len : Int) - 1 - (j : Int) = (p : Nat) := by omega
      have hcI : 2 * (j : Int) < (len : Int) - 1 := by omega
      have hfin : ∀ W, W = (wr.setCell ⟨g, j, none⟩ (.int .u8 (b.toNat : Int))).setCell ⟨g, p, none⟩ (.int .u8 (a.toNat : Int)) → W.ownsRow w.heap.size 5 1 (.slice (some ⟨g, 0, none⟩) len cap) len (Lib.byteCells ((m.set j b).set p a)) ∧ Below w.heap.size w W := fun W e => by
       rw [e]
       refine ⟨by rw [byte_set, byte_set]; exact s2.1, ?_⟩
       have hgb := (ho.lt g rfl).1
       have hg1 := hb.grown s1.2 (by omega) (fun k hk => by injection hk with hk; omega)
       exact hg1.grown s2.2 (by have := s1.2.size; omega) (fun k hk => by injection hk with hk; omega)
      replace hfin := hi_ hfin
      replace hr2 := hi_ hr2
      replace hp := hi_ hp
      replace hml := hi_ hml
      clear s1 s2 ho hr ha hbb
      go_wp2_with fail
      go_roundw
      case rel => exact ⟨j + 1, (m.set j b).set p a, by go_num, by omega, (hfin.out _ rfl).1, hr2.out, (hfin.out _ rfl).2⟩
      case measure => simp [intOf]; omega
     ·have hm := hr.done (by rw [← hlen.out]; exact hc)
      have hcI : ¬ 2 * (j : Int) < (len : Int) - 1 := by omega
      rw [hrev3.out] at hm
      replace hm := hi_ hm
      have hcv := run_convert_bytes_back (P := Tryz.prog) wr 37 9 5 ⟨g, 0, none⟩ cap m Tryz.underlying37 Tryz.underlying5 Tryz.underlying9 (fun j hj => by
       have := ho.cells rfl j (.int .u8 (m[j].toNat : Int)) (by simp [Lib.byteCells, hj])
       exact this)
      rw [hml] at hcv
      replace hb := hi_ hb
      replace hml := hi_ hml
      clear ho hr
      go_wp2
      go_ret
      exact ⟨by rw [← hm.out]; rfl, hb.out⟩
theorem size_nil (s : ByteArray) : (s.toList = []) = (s.size = 0) := by
 rw [ByteArray.toList_eq, size_list]; exact propext List.length_eq_zero_iff.symm
theorem size_emp (s : ByteArray) : s.toList.isEmpty = decide (s.size = 0) := by
 rw [Bool.eq_iff_iff, List.isEmpty_iff, size_nil]; simp
theorem size_beq (s : ByteArray) : (s.toList == []) = decide (s.size = 0) := by
 rw [Bool.eq_iff_iff]; simp [size_nil]
structure ExLens (v : Ex) (q : QEx) : Prop where
 args : q.argsn = v.args.length
 names : q.namesn = v.names.length
 vals : q.valsn = v.vals.length
 key : q.keyn = v.key.length
 acts : q.actsn = v.acts.length
theorem ExAt.lens {w : World} {B : Nat} {v : Ex} {q : QEx} (h : ExAt w B v q) : ExLens v q :=
 ⟨by have := h.args.1; rwa [List.length_map] at this, by have := h.names.1; rwa [List.length_map] at this, by have := h.vals.1; rwa [List.length_map] at this, by have := h.key.1; rwa [List.length_map] at this, by have := h.acts.1; rwa [List.length_map] at this⟩
theorem ExLens.maxes {w : World} {B : Nat} {v : Ex} {q : QEx} (h : ExAt w B v q) : q.argsn ≤ 1152921504606846976 ∧ q.namesn ≤ 1152921504606846976 ∧ q.valsn ≤ 1152921504606846976 ∧ q.keyn ≤ 1152921504606846976 ∧ q.actsn ≤ 1152921504606846976 :=
 ⟨h.args.2.1, h.names.2.1, h.vals.2.1, h.key.2.1, h.acts.2.1⟩
theorem bare_any (v : Ex) (q : QEx) (n s args pairs : Bool) (w : World) (hL : ExLens v q) :
  Calls Tryz.prog 40 #[.agg (A0_ v q), .bool n, .bool s, .bool args, .bool pairs] w fun e w' => e = .returned (.bool (bareB v n s args pairs false)) ∧ Below w.heap.size w w' := by
 unfold A0_
 obtain ⟨S, hS⟩ : ∃ S, S = w.alloc ((O0_ v q)) := ⟨_, rfl⟩
 have hbS : Below w.heap.size w S := by rw [hS]; exact (Below.refl _ _).alloc (Nat.le_refl _) _
 have hrS : S.heap[w.heap.size]? = some ((O0_ v q)) := by rw [hS]; exact heap_alloc_new w _
 obtain ⟨x0, x1, x2, x3, x4, x5, x6, x7, x8, x9⟩ := c10_ hrS
 have hWS : Hid (S = _) := hS
 clear hrS hS
 have hV : Hid (bareB v n s args pairs false = ((n || decide (v.n = 0)) && (s || decide (v.s.size = 0)) && (args || decide (q.argsn = 0)) && (pairs || (decide (q.namesn = 0) && decide (q.valsn = 0))) && decide (v.elem = 0) && decide (q.keyn = 0) && (decide (q.actsn = 0) && decide (v.site.size = 0)))) := by
  show _ = _
  rw [hL.args, hL.names, hL.vals, hL.key, hL.acts]; rfl
 generalize bareB v n s args pairs false = V at *
 replace hbS := hi_ hbS
 clear hL
 cases n <;> cases s <;> cases args <;> cases pairs
 all_goals
  go_enter Tryz.func40, Tryz.ntmps40
  go_wp2_with (rw [← hWS.out])
  all_goals go_ret
  all_goals refine ⟨rbool ?_, hbS.out⟩
  all_goals
   rw [hV.out]
   try simp only [size_nil, size_emp] at *
   simp_all
theorem none_any (v : Ex) (q : QEx) (w : World) (hL : ExLens v q) :
  Calls Tryz.prog 38 #[.agg (A0_ v q)] w fun e w' => e = .returned (.bool (noneB v)) ∧ Below w.heap.size w w' := by
 unfold A0_
 obtain ⟨S, hS⟩ : ∃ S, S = w.alloc ((O0_ v q)) := ⟨_, rfl⟩
 have hbS : Below w.heap.size w S := by rw [hS]; exact (Below.refl _ _).alloc (Nat.le_refl _) _
 have hrS : S.heap[w.heap.size]? = some ((O0_ v q)) := by rw [hS]; exact heap_alloc_new w _
 obtain ⟨x0, x1, x2, x3, x4, x5, x6, x7, x8, x9⟩ := c10_ hrS
 have hWS : Hid (S = _) := hS
 clear hrS hS
 have cB := bare_any v q false false false false S hL
 have hV : Hid (noneB v = (decide (v.kind = 0) && bareB v false false false false false)) := rfl
 generalize noneB v = V at *
 generalize bareB v false false false false false = U at *
 replace hbS := hi_ hbS
 replace cB := hi_ cB
 clear hL
 by_cases hk : v.kind = 0
 ·rw [hk] at x0
  have hk9 := hi_ hk
  have ha : Hid (Value.agg #[.int .u8 v.kind, .int .i64 v.n, .string v.s, .slice q.argsa q.argsn q.argsc, .slice q.namesa q.namesn q.namesc, .slice q.valsa q.valsn q.valsc, .int .u8 v.elem, .slice q.keya q.keyn q.keyc, .slice q.actsa q.actsn q.actsc, .string v.site] = .agg #[.int .u8 0, .int .i64 v.n, .string v.s, .slice q.argsa q.argsn q.argsc, .slice q.namesa q.namesn q.namesc, .slice q.valsa q.valsn q.valsc, .int .u8 v.elem, .slice q.keya q.keyn q.keyc, .slice q.actsa q.actsn q.actsc, .string v.site]) := by show _ = _; rw [hk]
  clear hk
  have cB2 := cB.out
  rw [ha.out] at cB2
  replace cB2 := hi_ cB2
  go_enter Tryz.func38, Tryz.ntmps38
  go_wp2_with (first | (rw [← hWS.out]) | (go_at_call 40; refine cB2.out.mono ?_))
  first | rintro e w3 rfl hb3 | rintro e w3 ⟨rfl, hb3⟩
  have hb' := hi_ (hbS.out.trans (hb3.mono hbS.out.size))
  clear hb3
  go_wp2_with fail
  go_ret
  exact ⟨rbool (by rw [hV.out, hk9.out]; simp), hb'.out⟩
 ·go_enter Tryz.func38, Tryz.ntmps38
  go_wp2_with (rw [← hWS.out])
  all_goals go_ret
  all_goals exact ⟨rbool (by rw [hV.out]; simp [hk]), hbS.out⟩
structure StLens (v : St) (q : QSt) : Prop where
 ex : ExLens v.expr q.expr
 deps : q.depsn = v.deps.length
 dos : q.dosn = v.dos.length
 undo : q.undon = v.undo.length
 body : q.bodyn = v.body.length
theorem StAt.lens {w : World} {B : Nat} {v : St} {q : QSt} (h : StAt w B v q) : StLens v q :=
 ⟨h.expr.lens, by have := h.deps.1; rwa [List.length_map] at this, by have := h.dos.1; rwa [List.length_map] at this, by have := h.undo.1; rwa [List.length_map] at this, by have := h.body.1; rwa [List.length_map] at this⟩
theorem lists_any (v : St) (q : QSt) (w : World) (hL : StLens v q) :
  Calls Tryz.prog 36 #[.agg (A2_ v q)] w fun e w' => e = .returned (.bool (RS.lists v)) ∧ Below w.heap.size w w' := by
 unfold A2_
 obtain ⟨S, hS⟩ : ∃ S, S = w.alloc ((O2_ v q)) := ⟨_, rfl⟩
 have hbS : Below w.heap.size w S := by rw [hS]; exact (Below.refl _ _).alloc (Nat.le_refl _) _
 have hrS : S.heap[w.heap.size]? = some ((O2_ v q)) := by rw [hS]; exact heap_alloc_new w _
 obtain ⟨x0, x1, x2, x3, x4, x5, x6, x7, x8, x9, x10, x11, x12, x13, x14, x15, x16⟩ := c17_ hrS
 have hWS : Hid (S = _) := hS
 clear hrS hS
 have hV : Hid (RS.lists v = (decide (q.dosn = 0) && decide (q.undon = 0))) := by
  show _ = _
  rw [hL.dos, hL.undo]; rfl
 generalize RS.lists v = V at *
 replace hbS := hi_ hbS
 clear hL
 go_enter Tryz.func36, Tryz.ntmps36
 go_wp2_with (rw [← hWS.out])
 all_goals go_ret
 all_goals refine ⟨rbool ?_, hbS.out⟩
 all_goals (rw [hV.out, Bool.eq_iff_iff]; simp_all)
theorem must_as (w0 : World) (B b : Nat) (t : RS) (C : Bool) (bx : Bx) (hF : FitR (t.must C)) : ∀ (ok : Bool) (w : World), RK w0 B b t bx w → ok = C → Calls Tryz.prog 34 #[.pointer (some ⟨b, 0, none⟩), .bool ok] w fun e w' => e = .returned (.tuple #[]) ∧ RK w0 B b (t.must C) bx w' := by
 rintro ok w h rfl
 exact must_R w0 B b t ok bx w h hF
theorem int_beq (a b : Nat) : ((a : Int) == (b : Int)) = decide (a = b) := by
 rw [Bool.eq_iff_iff]; simp; omega
theorem so_R (w0 : World) (B b : Nat) (v : Ex) (q : QEx) (word : List UInt8) (n : Nat) (t : RS) (hv : ExAt w0 B v q) (hA : ExsR w0 B b v.args) :
  DoesR w0 B b 67 #[.pointer (some ⟨b, 0, none⟩), .string (bs word), .agg (A0_ v q), .int .i64 (n : Nat)] t (RS.so word v n (rExs v.args) t) := by
 unfold A0_
 intro bx w h hF
 have hL := hv.lens
 have hmx := ExLens.maxes hv
 have f2 := FitR.exs hv.args hF
 obtain ⟨S, hS⟩ : ∃ S, S = w.alloc ((O0_ v q)) := ⟨_, rfl⟩
 have h0 : RK w0 B b t ((w.heap.size, (O0_ v q)) :: bx) S := by rw [hS]; exact h.alloc _
 have hWS : Hid (S = _) := hS
 clear hS
 replace h := hi_ h
 have c1 := hi_ (put_R w0 B b t word _ _ h0 f2.must)
 have cB := hi_ (fun W => bare_any v q false false true false W hL)
 have cM := hi_ (must_as w0 B b (t.put word) (bareB v false false true false false && decide (v.args.length = n)) ((w.heap.size, (O0_ v q)) :: bx) f2)
 have cA := hi_ (fun W (hW : RK w0 B b ((t.put word).must (bareB v false false true false false && decide (v.args.length = n))) ((w.heap.size, (O0_ v q)) :: bx) W) => hA _ _ q.argsc _ hv.args _ W hW hF)
 have hla := hi_ hL.args
 replace h0 := hi_ h0
 clear hF f2 hv hL
 go_enter Tryz.func67, Tryz.ntmps67
 go_wp2_with (first | (rw [← hWS.out]) | (go_at_call 17; refine c1.out.mono ?_))
 first | rintro e w1 rfl h1 | rintro e w1 ⟨rfl, h1⟩
 go_upto_region 2 with fail
 go_cut [] (fun wx => RK w0 B b ((t.put word).must (bareB v false false true false false && decide (v.args.length = n))) ((w.heap.size, (O0_ v q)) :: bx) wx)
 case first =>
  obtain ⟨x0, x1, x2, x3, x4, x5, x6, x7, x8, x9⟩ := c10_ (h1.box M0_)
  have cB1 := hi_ (cB.out w1)
  have h1' := hi_ h1
  clear h1
  generalize bareB v false false true false false = U at *
  go_wp2_with (go_at_call 40; refine cB1.out.mono ?_)
  first | rintro e w2 rfl hb2 | rintro e w2 ⟨rfl, hb2⟩
  have h2 := h1'.out.below hb2
  clear x0 x1 x2 x3 x4 x5 x6 x7 x8 x9
  replace hb2 := hi_ hb2
  obtain ⟨-, -, -, x3, -⟩ := c10_ (h2.box M0_)
  replace h2 := hi_ h2
  cases U
  ·go_wp2_with (go_at_call 34; refine (cM.out _ _ h2.out (by simp)).mono ?_)
   first | rintro e w3 rfl h3 | rintro e w3 ⟨rfl, h3⟩
   replace h3 := hi_ h3
   go_wp2_with fail
   go_meet
   exact h3.out
  ·go_wp2_with (go_at_call 34; refine (cM.out _ _ h2.out (by rw [← hla.out, int_beq]; simp)).mono ?_)
   first | rintro e w3 rfl h3 | rintro e w3 ⟨rfl, h3⟩
   replace h3 := hi_ h3
   go_wp2_with fail
   go_meet
   exact h3.out
 case rest =>
  obtain ⟨-, -, -, x3, -⟩ := c10_ (hcut.box M0_)
  have cA1 := hi_ (cA.out wc hcut)
  replace hcut := hi_ hcut
  go_wp2_with (go_at_call 37; refine cA1.out.mono ?_)
  first | rintro e w4 rfl h4 | rintro e w4 ⟨rfl, h4⟩
  replace h4 := hi_ h4.drop
  go_wp2_with fail
  exact bodyPost_end (v := .tuple #[]) (results_none (by kernel_rfl) _ _ _) rfl ⟨rfl, h4.out⟩
theorem rPairs_snoc : ∀ (L : List Ex) (N : List ByteArray) (k : Nat) (v : Ex) (s : ByteArray) (t : RS), L[k]? = some v → N[k]? = some s → rPairs (L.take (k + 1)) N t = (rEx v (((rPairs (L.take k) N t).put [40]).plain s)).fin
 | [], _, _, _, _, _, h, _ => by simp at h
 | _ :: _, [], _, _, _, _, _, h => by simp at h
 | x :: r, y :: m, 0, v, s, t, h, g => by
  simp only [List.getElem?_cons_zero, Option.some.injEq] at h g
  subst h g
  simp only [List.take_succ_cons, List.take_zero, rPairs]
 | x :: r, y :: m, k + 1, v, s, t, h, g => by
  simp only [List.getElem?_cons_succ] at h g
  rw [List.take_succ_cons, rPairs, List.take_succ_cons, rPairs]
  exact rPairs_snoc r m k v s _ h g
theorem rPairs_all : ∀ (L : List Ex) (N : List ByteArray) (k : Nat) (t : RS), L.length ≤ k ∨ N.length ≤ k → rPairs (L.take k) N t = rPairs L N t
 | [], _, k, t, _ => by rw [List.take_nil]
 | x :: r, [], 0, t, _ => by rw [List.take_zero, rPairs, rPairs]
 | x :: r, y :: m, 0, t, h => by simp at h
 | x :: r, [], k + 1, t, _ => by rw [List.take_succ_cons, rPairs, rPairs]
 | x :: r, y :: m, k + 1, t, h => by
  rw [List.take_succ_cons, rPairs, rPairs]
  refine rPairs_all r m k _ ?_
  simp at h; omega
theorem FitR.pairs_take {w : World} {B n : Nat} {L : List Ex} {a : Option Addr} (k : ExLs w B L a n) {N : List ByteArray} {t : RS} (h : FitR (rPairs L N t)) (j : Nat) : FitR (rPairs (L.take j) N t) := by
 have key : ∀ (L : List Ex) (N : List ByteArray) (j : Nat) (t : RS), oks (L.map Ex.tr) = true → (rPairs (L.take j) N t).l.length ≤ (rPairs L N t).l.length := by
  intro L
  induction L with
  | nil => intro N j t _; rw [List.take_nil]; exact Nat.le_refl _
  | cons x r ih =>
   intro N j t ho
   have hr := ho
   rw [List.map_cons, oks, Bool.and_eq_true] at hr
   cases N with
   | nil => cases j <;> simp [rPairs]
   | cons y m =>
    cases j with
    | zero => rw [List.take_zero, rPairs]; exact (rPairs_le (x :: r) (fun v _ => rEx_le v) ho (y :: m) t).lo
    | succ j => rw [List.take_succ_cons, rPairs, rPairs]; exact ih m j _ hr.2
 exact Nat.le_trans (key L N j t k.oks) h
def PairsR (w0 : World) (B b : Nat) (v : Ex) : Prop := ∀ (q : QEx) (t : RS), ExAt w0 B v q → DoesR w0 B b 68 #[.pointer (some ⟨b, 0, none⟩), .agg #[.int .u8 v.kind, .int .i64 v.n, .string v.s, .slice q.argsa q.argsn q.argsc, .slice q.namesa q.namesn q.namesc, .slice q.valsa q.valsn q.valsc, .int .u8 v.elem, .slice q.keya q.keyn q.keyc, .slice q.actsa q.actsn q.actsc, .string v.site]] t (RS.pairsF v (rPairs v.vals v.names) t)
theorem pairs_R (w0 : World) (B b : Nat) (v : Ex) (hV : ∀ x ∈ v.vals, ExR w0 B b x) : PairsR w0 B b v := by
 intro q t hv bx w h hF
 have hL := hv.lens
 have hmx := ExLens.maxes hv
 have hmn := hmx.2.1
 have hmv := hmx.2.2.1
 have hF' : FitR (rPairs v.vals v.names (t.must (decide (v.names.length = v.vals.length)))) := hF
 have f0 : FitR (t.must (decide (v.names.length = v.vals.length))) := FitR.pairs hv.vals hF'
 obtain ⟨S, hS⟩ : ∃ S, S = w.alloc ((O0_ v q)) := ⟨_, rfl⟩
 have h0 : RK w0 B b t ((w.heap.size, (O0_ v q)) :: bx) S := by rw [hS]; exact h.alloc _
 have hWS : Hid (S = _) := hS
 clear hS
 replace h := hi_ h
 have hnl := hv.names
 have hvl := hv.vals
 have cM := hi_ (must_as w0 B b t (decide (v.names.length = v.vals.length)) ((w.heap.size, (O0_ v q)) :: bx) f0)
 have hln := hi_ hL.names
 have hlv := hi_ hL.vals
 obtain ⟨-, -, -, -, x4, x5, -⟩ := c10_ (h0.box M0_)
 replace h0 := hi_ h0
 replace hF' := hi_ hF'
 clear hF f0 hv hL hmx
 go_enter Tryz.func68, Tryz.ntmps68
 go_wp2_with (first | (rw [← hWS.out]) | (go_at_call 34; refine (cM.out _ _ h0.out (by rw [int_beq, ← hln.out, ← hlv.out])).mono ?_))
 first | rintro e w1 rfl h1 | rintro e w1 ⟨rfl, h1⟩
 clear x4 x5
 go_wp2_with fail
 go_loopw [4] (fun i wr => ∃ k : Nat, k ≤ q.namesn ∧ k ≤ q.valsn ∧ i = .int .i64 (k : Nat) ∧ RK w0 B b (rPairs (v.vals.take k) v.names (t.must (decide (v.names.length = v.vals.length)))) ((w.heap.size, (O0_ v q)) :: bx) wr) (fun i _ => q.namesn - (intOf i).toNat)
 case atStart => exact ⟨0, Nat.zero_le _, Nat.zero_le _, rfl, by rw [List.take_zero, rPairs]; exact h1⟩
 case round =>
  clear h1
  obtain ⟨k, hk, hk2, rfl, hK⟩ := hrel
  by_cases hlt : k < q.namesn
  ·by_cases hlt2 : k < q.valsn
   ·have hlt9 : Hid (k + 1 ≤ q.namesn ∧ k + 1 ≤ q.valsn) := ⟨hlt, hlt2⟩
    have i1 : (k : Int) < (q.namesn : Int) := by omega
    have i2 : (k : Int) < (q.valsn : Int) := by omega
    obtain ⟨b1, o1, s, hqa, hb1, hg1, u0, hs⟩ := TLs.elem hnl k hlt
    obtain ⟨b2, o2, v2, q2, hqb, hb2, hg2, hc2, hv2⟩ := ExLs.elem hvl k hlt2
    replace hqa := hi_ hqa
    replace hqb := hi_ hqb
    have hsn := hi_ (rPairs_snoc v.vals v.names k v2 s (t.must (decide (v.names.length = v.vals.length))) hg2 hg1)
    have f4 := FitR.pairs_take hvl hF'.out (k + 1)
    rw [hsn.out] at f4
    have f3 := f4.fin
    have f2 := FitR.ex hv2 f3
    have f1 := f2.plain
    have c1 := hi_ (open_R w0 B b (rPairs (v.vals.take k) v.names (t.must (decide (v.names.length = v.vals.length)))) _ _ hK f1)
    have c2 := hi_ (fun W hW => plain_R w0 B b ((rPairs (v.vals.take k) v.names (t.must (decide (v.names.length = v.vals.length)))).put [40]) s hs ((w.heap.size, (O0_ v q)) :: bx) W hW f2)
    have c3 := hi_ (fun W hW => hV v2 (List.mem_of_getElem? hg2) q2 _ hv2 ((w.heap.size, (O0_ v q)) :: bx) W hW f3)
    have c4 := hi_ (fun W hW => end_R w0 B b (rEx v2 (((rPairs (v.vals.take k) v.names (t.must (decide (v.names.length = v.vals.length)))).put [40]).plain s)) ((w.heap.size, (O0_ v q)) :: bx) W hW f4)
    clear f1 f2 f3 f4 hg1 hg2 hv2
    obtain ⟨-, -, -, -, x4, x5, -⟩ := c10_ (hK.box M0_)
    rw [hqa.out] at x4
    rw [hqb.out] at x5
    replace hK := hi_ hK
    go_wp2_with (go_at_call 16; refine c1.out.mono ?_)
    first | rintro e w2 rfl h2 | rintro e w2 ⟨rfl, h2⟩
    clear x4 x5
    obtain ⟨-, -, -, -, x4, -⟩ := c10_ (h2.box M0_)
    rw [hqa.out] at x4
    have u0' := (h2.low.cell (p := ⟨b1, o1 + k, none⟩) hb1).trans u0
    have c2' := hi_ (c2.out _ h2)
    replace h2 := hi_ h2
    go_wp2_with (go_at_call 18; refine c2'.out.mono ?_)
    first | rintro e w3 rfl h3 | rintro e w3 ⟨rfl, h3⟩
    clear x4 u0'
    obtain ⟨-, -, -, -, -, x5, -⟩ := c10_ (h3.box M0_)
    rw [hqb.out] at x5
    have y0 : w3.cell? ⟨b2, o2 + k * 10, none⟩ = some (.int .u8 v2.kind) := (h3.low.cell (p := ⟨b2, o2 + k * 10, none⟩) hb2).trans (hc2 0 (by omega))
    have y1 : w3.cell? ⟨b2, o2 + k * 10 + 1, none⟩ = some (.int .i64 v2.n) := (h3.low.cell (p := ⟨b2, o2 + k * 10 + 1, none⟩) hb2).trans (by rw [Nat.add_assoc]; exact hc2 1 (by omega))
    have y2 : w3.cell? ⟨b2, o2 + k * 10 + 2, none⟩ = some (.string v2.s) := (h3.low.cell (p := ⟨b2, o2 + k * 10 + 2, none⟩) hb2).trans (by rw [Nat.add_assoc]; exact hc2 2 (by omega))
    have y3 : w3.cell? ⟨b2, o2 + k * 10 + 3, none⟩ = some (.slice q2.argsa q2.argsn q2.argsc) := (h3.low.cell (p := ⟨b2, o2 + k * 10 + 3, none⟩) hb2).trans (by rw [Nat.add_assoc]; exact hc2 3 (by omega))
    have y4 : w3.cell? ⟨b2, o2 + k * 10 + 4, none⟩ = some (.slice q2.namesa q2.namesn q2.namesc) := (h3.low.cell (p := ⟨b2, o2 + k * 10 + 4, none⟩) hb2).trans (by rw [Nat.add_assoc]; exact hc2 4 (by omega))
    have y5 : w3.cell? ⟨b2, o2 + k * 10 + 5, none⟩ = some (.slice q2.valsa q2.valsn q2.valsc) := (h3.low.cell (p := ⟨b2, o2 + k * 10 + 5, none⟩) hb2).trans (by rw [Nat.add_assoc]; exact hc2 5 (by omega))
    have y6 : w3.cell? ⟨b2, o2 + k * 10 + 6, none⟩ = some (.int .u8 v2.elem) := (h3.low.cell (p := ⟨b2, o2 + k * 10 + 6, none⟩) hb2).trans (by rw [Nat.add_assoc]; exact hc2 6 (by omega))
    have y7 : w3.cell? ⟨b2, o2 + k * 10 + 7, none⟩ = some (.slice q2.keya q2.keyn q2.keyc) := (h3.low.cell (p := ⟨b2, o2 + k * 10 + 7, none⟩) hb2).trans (by rw [Nat.add_assoc]; exact hc2 7 (by omega))
    have y8 : w3.cell? ⟨b2, o2 + k * 10 + 8, none⟩ = some (.slice q2.actsa q2.actsn q2.actsc) := (h3.low.cell (p := ⟨b2, o2 + k * 10 + 8, none⟩) hb2).trans (by rw [Nat.add_assoc]; exact hc2 8 (by omega))
    have y9 : w3.cell? ⟨b2, o2 + k * 10 + 9, none⟩ = some (.string v2.site) := (h3.low.cell (p := ⟨b2, o2 + k * 10 + 9, none⟩) hb2).trans (by rw [Nat.add_assoc]; exact hc2 9 (by omega))
    have c3' := hi_ (c3.out _ h3)
    replace h3 := hi_ h3
    go_wp2_with (go_at_call 20; refine c3'.out.mono ?_)
    first | rintro e w4 rfl h4 | rintro e w4 ⟨rfl, h4⟩
    clear x5 y0 y1 y2 y3 y4 y5 y6 y7 y8 y9 hc2
    have c4' := hi_ (c4.out _ h4)
    replace h4 := hi_ h4
    go_wp2_with (go_at_call 21; refine c4'.out.mono ?_)
    first | rintro e w5 rfl h5 | rintro e w5 ⟨rfl, h5⟩
    rw [← hsn.out] at h5
    replace h5 := hi_ h5
    go_wp2_with fail
    go_roundw
    case rel => exact ⟨k + 1, hlt9.out.1, hlt9.out.2, by go_num, h5.out⟩
    case measure => simp [intOf]; have := hlt9.out; omega
   ·have i1 : (k : Int) < (q.namesn : Int) := by omega
    have i2 : ¬ (k : Int) < (q.valsn : Int) := by omega
    have hfin : Hid (RK w0 B b (rPairs v.vals v.names (t.must (decide (v.names.length = v.vals.length)))) bx wr) := by
     have := hK.drop
     rw [rPairs_all _ _ k _ (by have := hln.out; have := hlv.out; omega)] at this
     exact this
    obtain ⟨-, -, -, -, x4, x5, -⟩ := c10_ (hK.box M0_)
    replace hK := hi_ hK
    go_wp2_with fail
    exact bodyPost_end (v := .tuple #[]) (results_none (by kernel_rfl) _ _ _) rfl ⟨rfl, hfin.out⟩
  ·have i1 : ¬ (k : Int) < (q.namesn : Int) := by omega
   have hfin : Hid (RK w0 B b (rPairs v.vals v.names (t.must (decide (v.names.length = v.vals.length)))) bx wr) := by
    have := hK.drop
    rw [rPairs_all _ _ k _ (by have := hln.out; have := hlv.out; omega)] at this
    exact this
   obtain ⟨-, -, -, -, x4, x5, -⟩ := c10_ (hK.box M0_)
   replace hK := hi_ hK
   go_wp2_with fail
   exact bodyPost_end (v := .tuple #[]) (results_none (by kernel_rfl) _ _ _) rfl ⟨rfl, hfin.out⟩
end Go.Proofs.YtlppklbmdedipaaGreatDoor

namespace Go
open RowKit
section
variable {P : Program} {ops : Array Oper} {Q : Exit → Act → World → Prop} {md : Region.Mode} {S : World → Prop} {last : Nat}

def waitsForAll (md : Region.Mode) (ops : Array Oper) (last : Nat) : Bool :=
  match ops[last]? with
  | none => false
  | some o => (List.range ops.size).all fun i => i == last || o.after.any fun e => Region.binds md e && e.on == i
theorem waits_spec (h : waitsForAll md ops last = true) {listed : Array Bool} {i : Nat} (hi : i ∈ Region.ready md ops listed) (hne : i ≠ last) : last ∉ Region.ready md ops listed := by
  intro hl
  obtain ⟨_, o, ho, hall⟩ := mem_ready.1 hl
  obtain ⟨h0, oi, hoi, _⟩ := mem_ready.1 hi
  unfold waitsForAll at h
  rw [ho] at h
  have h1 := List.all_eq_true.1 h i (List.mem_range.2 (Array.getElem?_eq_some_iff.1 hoi).1)
  simp only [Bool.or_eq_true, beq_iff_eq, hne, false_or] at h1
  obtain ⟨e, he, h2⟩ := Array.any_eq_true'.1 h1
  simp only [Bool.and_eq_true, beq_iff_eq] at h2
  have h3 := hall e he h2.1
  rw [h2.2] at h3
  rcases Nat.lt_or_ge i listed.size with h' | h'
  · simp [h'] at h0 h3
    rw [h0] at h3; cases h3
  · simp [Array.getElem?_eq_none h'] at h3

def AnyBut (P : Program) (md : Region.Mode) (ops : Array Oper) (Q : Exit → Act → World → Prop) (S : World → Prop) (last : Nat) : Nat → Array Bool → Act → World → Prop
  | 0, listed, a, w => Region.ready md ops listed = [] ∧ Q .normal a w
  | n + 1, listed, a, w => (Region.ready md ops listed = [] → Q .normal a w) ∧ ∀ i ∈ Region.ready md ops listed, wpOp P ops Q i (fun a' w' => (i ≠ last → S w') ∧ AnyBut P md ops Q S last n (listed.setIfInBounds i true) a' w') a w
theorem AnyBut.any : ∀ (n : Nat) (listed : Array Bool) (a : Act) (w : World), AnyBut P md ops Q S last n listed a w → wpAny P md ops Q n listed a w
  | 0, _, _, _, h => h
  | n + 1, _, _, _, h => ⟨h.1, fun i hi => wpOp_mono (fun a' w' k => AnyBut.any n _ a' w' k.2) (h.2 i hi)⟩
theorem AnyBut.take_aux (hw : waitsForAll md ops last = true) {i : Nat} {oi : Oper} {v : Value} (hi : ops[i]? = some oi) (hne : i ≠ last) (hsel : ∀ (j : Nat) (o : Oper) cs b, ops[j]? = some o → o.op ≠ .select cs b)
    (hQ : ∀ c a w, Q (.panic c) (a.put oi.dst v) w → Q (.panic c) a w) (n : Nat) :
    ∀ (listed : Array Bool) (a : Act) (w : World), (∀ j oj, ops[j]? = some oj → j ≠ i → listed.getD j true = false → (∀ e ∈ oj.after, Region.binds md e = true → e.on ≠ i) → oi.apart ops oj = true) →
      i ∈ Region.ready md ops listed → YieldsIf P ops S oi v a → S w → AnyBut P md ops Q S last n (listed.setIfInBounds i true) (a.put oi.dst v) w → AnyBut P md ops Q S last (n + 1) listed a w := by
  induction n with
  | zero =>
    intro listed a w _ hr hy hS H
    refine ⟨fun h => absurd hr (by rw [h]; exact List.not_mem_nil), fun j hj => ?_⟩
    by_cases hji : j = i
    · subst hji; exact hy.wpOp hi hS ⟨fun _ => hS, H⟩
    · exact absurd (ready_mono hj hji) (by rw [H.1]; exact List.not_mem_nil)
  | succ n ih =>
    intro listed a w hfree hr hy hS H
    refine ⟨fun h => absurd hr (by rw [h]; exact List.not_mem_nil), fun j hj => ?_⟩
    by_cases hji : j = i
    · subst hji; exact hy.wpOp hi hS ⟨fun _ => hS, H⟩
    · have hjl : j ≠ last := fun e => waits_spec hw hr hne (e ▸ hj)
      obtain ⟨hjun, oj, hoj, hall⟩ := mem_ready.1 hj
      have hir := (mem_ready.1 hr).1
      have hnot : ∀ e ∈ oj.after, Region.binds md e = true → e.on ≠ i := fun e he hb heq => by
        have h1 := hall e he hb
        rw [heq] at h1
        rcases Nat.lt_or_ge i listed.size with h' | h'
        · simp [h'] at hir h1; rw [hir] at h1; cases h1
        · simp [Array.getElem?_eq_none h'] at h1
      have h2 := wpOp_putIf hoj (hfree j oj hoj hji hjun hnot) (fun cs b => hsel i oi cs b hi) (fun cs b => hsel j oj cs b hoj) hQ hy (H.2 j (ready_mono hj hji))
      refine wpOp_mono (fun a' w' h3 => ?_) h2
      have hS' := h3.2.1 hjl
      refine ⟨fun _ => hS', ih (listed.setIfInBounds j true) a' w' (fun k ok hk hki hun hno => ?_) (ready_mono hr (Ne.symm hji)) h3.1 hS' ?_⟩
      · by_cases hjk : j = k
        · subst hjk; exact hfree j ok hk hki hjun hno
        · rw [getD_set_ne true hjk] at hun; exact hfree k ok hk hki hun hno
      · rw [Array.setIfInBounds_comm _ _ hji]; exact h3.2.2

theorem region_but {id : Nat} {a : Act} {w : World} (S : World → Prop) (last : Nat) (hm : P.follows .mixedOrders = true) (h : AnyBut P .any ops Q S last ops.size (Array.replicate ops.size false) a w.drew) : (Code.region id ops true).wp P Q a w :=
  wp_region_any hm (h.any)
theorem AnyBut.take (i : Nat) {oi : Oper} {d : Option Tmp} {v : Value} {n : Nat} {listed : Array Bool} {a : Act} {w : World} (hi : ops[i]? = some oi) (hd : oi.dst = d) (hw : waitsForAll md ops last = true) (hne : i ≠ last)
    (hs : Region.noSelect ops = true) (hf : Region.free md ops listed i = true) (hr : (Region.ready md ops listed).contains i = true)
    (hQ : ∀ c a w, Q (.panic c) (a.put oi.dst v) w → Q (.panic c) a w) (hwt : Region.wanted oi (yielded ops a.tmps) = true) (hS : S w)
    (hy : ∀ w, S w → (execOp a.eval oi).run P w = .ok (.value v) w)
    (h : AnyBut P md ops Q S last n (listed.setIfInBounds i true) (a.put d v) w) : AnyBut P md ops Q S last (n + 1) listed a w := by
  subst hd
  exact AnyBut.take_aux hw hi hne (Region.noSelect_spec hs) hQ n listed a w (Region.free_spec hi hf) (by simpa using hr) (.inl ⟨hwt, hy⟩) hS h
theorem AnyBut.one (i : Nat) {oi : Oper} {n : Nat} {listed : Array Bool} {a : Act} {w : World} (hi : ops[i]? = some oi) (hr : Region.ready md ops listed = [i])
    (h : ∀ K : Act → World → Prop, Hid (∀ a' w', (i ≠ last → S w') → AnyBut P md ops Q S last n (listed.setIfInBounds i true) a' w' → K a' w') → if Region.wanted oi (yielded ops a.tmps) = true then Oper.wp P oi a w K Q else K (a.put oi.dst undef) w) : AnyBut P md ops Q S last (n + 1) listed a w := by
  refine ⟨fun h0 => absurd (hr.symm.trans h0) (by simp), fun j hj => ?_⟩
  rw [hr] at hj
  obtain rfl : j = i := by simpa using hj
  exact wpOp_step hi (fun K2 hK => h K2 (Lib.hid fun a2 w2 h1 h2 => hK a2 w2 ⟨h1, h2⟩))
theorem AnyBut.done {n : Nat} {listed : Array Bool} {a : Act} {w : World} (hr : Region.ready md ops listed = []) (h : Q .normal a w) : AnyBut P md ops Q S last n listed a w := by
  cases n with
  | zero => exact ⟨hr, h⟩
  | succ n => exact ⟨fun _ => h, by rw [hr]; exact fun _ hj => absurd hj List.not_mem_nil⟩
end

section
variable {P : Program}
theorem step_append_row {w : World} {ops : Array Oper} {o : Oper} {a : Act} {K : Act → World → Prop} {Q : Exit → Act → World → Prop} {E : Prop} (hgd : o.guard = none) (s x : Operand) (t : TypeId)
    (ho : o.op = .call { callee := .builtin .append, args := #[s, x], argTypes := #[t, t] })
    (base : Nat) (e : TypeId) (i : TypeInfo) (z : Value) (size bytes : Nat) (ht : P.underlying t = some (.slice e)) (hi : P.info? e = some i) (hz : i.zero = some z)
    (hsize : i.size = size) (hby : i.bytes = bytes) (hzs : z.cells.size = size) (hsz : 0 < size)
    (v : Value) (n : Nat) (xs : List Value) (hs : a.eval s = v) (hown : w.ownsRow base e size v n xs)
    (ad : Addr) (m c : Nat) (news : List Value) (hx : a.eval x = .slice (some ad) m c) (hl : news.length = m * size) (hnews : ∀ j u, news[j]? = some u → w.cell? (ad.add j) = some u) (h1 : ∀ u ∈ news, u.oneCell' = true)
    (h63 : n + m ≤ maxLen) (hbytes : (n + m) * bytes ≤ 140737488355328) (hbase : base ≤ w.heap.size) (hpos : 0 < n + m)
    (h : ∀ g cap w', w'.ownsRow base e size (.slice (some ⟨g, 0, none⟩) (n + m) cap) (n + m) (xs ++ news) → w.grownBy w' v.ownBlock → (v.ownBlock = some g ∨ g = w.heap.size) → K (a.put o.dst (.slice (some ⟨g, 0, none⟩) (n + m) cap)) w') :
    if Region.wanted o (yielded ops a.tmps) = true then Oper.wp P o a w K Q else E := by
  have hw : Region.wanted o (yielded ops a.tmps) = true := by simp [Region.wanted, hgd]
  rw [if_pos hw]
  obtain ⟨v', w', hr, h2, h3, _, h5⟩ := run_append_own_at (P := P) w base t o.type e i z size bytes ht hi hz hsize hby hzs hsz v n xs hown ad m c news hl hnews h1 h63 hbytes hbase
  obtain ⟨g, cap, rfl, _, _⟩ := h2.form hpos
  unfold Oper.wp execOp
  simp only [ho, resolve, invoke, builtin, Sem.run_bind, Sem.run_pure, Result.andThen_ok, List.map_toArray, List.map_cons, List.map_nil, hs, hx, hr]
  refine h g cap w' h2 h3 ?_
  rcases h5 with h5 | h5
  · exact .inl h5.symm
  · exact .inr (by simpa [Value.ownBlock] using h5)
end
end Go
