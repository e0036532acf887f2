/- The contracts of digits, quoted: a number and a text as text. -/
import Derived.Test.YtimdkdengdhglaaDoorLexR
import Derived.Test.YtimdkdengdhglaaDoorLexJ
import Derived.Laws.AppendOwnNone
import Derived.Laws.IdiomStrings
import Derived.Lib.UnsafeStr
namespace Go.Proofs.YtimdkdengdhglaaDoor
open Go Go.RowKit

def ten : ByteArray := ⟨#[48, 49, 50, 51, 52, 53, 54, 55, 56, 57]⟩
theorem ten_cut : ∀ d : Fin 10, ten.extract d.val (d.val + 1) = bs [UInt8.ofNat (48 + d.val)] := by decide +kernel

theorem ten_at (k : Nat) : (⟨#[48, 49, 50, 51, 52, 53, 54, 55, 56, 57]⟩ : ByteArray).extract (k % 10) (k % 10 + 1) = bs [UInt8.ofNat (48 + k % 10)] :=
  ten_cut ⟨k % 10, Nat.mod_lt _ (by decide)⟩
theorem dec_step (k u : Nat) (l : List UInt8) (h : ¬ k < 10) (hl : Lib.decDigits k ++ l = Lib.decDigits u) : Lib.decDigits (k / 10) ++ (UInt8.ofNat (48 + k % 10) :: l) = Lib.decDigits u := by
  rw [← hl, Lib.decDigits.eq_1 k, dif_neg h, List.append_assoc]; rfl
theorem dec_last (k u : Nat) (l : List UInt8) (h : k < 10) (hl : Lib.decDigits k ++ l = Lib.decDigits u) : UInt8.ofNat (48 + k % 10) :: l = Lib.decDigits u := by
  rw [← hl, Lib.decDigits.eq_1 k, dif_pos h, Nat.mod_eq_of_lt h]; rfl
theorem dec_len (u : Nat) (h : u ≤ 9223372036854775808) : (Lib.decDigits u).length ≤ 21 := by
  have := Lib.itoa_length_le (-(u : Int)) (by omega) (by omega)
  unfold Lib.itoa at this
  split at this
  · rw [show (-(u : Int)).natAbs = u by omega] at this; simp at this; omega
  · obtain rfl : u = 0 := by omega
    rw [Lib.decDigits_length]; unfold Lib.nDigits; simp

set_option maxHeartbeats 2000000 in
set_option maxRecDepth 100000 in
theorem digits_any (n : Int) (w : World) (h0 : -9223372036854775808 ≤ n) (h1 : n ≤ 9223372036854775807) :
    Calls Tryd.prog 9 #[.int .i64 n] w fun e w' => e = .returned (.string (bs (Lib.itoa n))) ∧ w' = w := by
  by_cases hn : n < 0
  · have hI : Hid (Lib.itoa n = 45 :: Lib.decDigits n.natAbs) := by show _ = _; unfold Lib.itoa; rw [if_pos hn]
    have hL := dec_len n.natAbs (by omega)
    go_enter Tryd.func9, Tryd.ntmps9
    go_wp2
    go_loop [3, 4] (fun m s => ∃ (k : Nat) (l : List UInt8), m = .int .u64 (k : Nat) ∧ s = .string (bs l) ∧ Lib.decDigits k ++ l = Lib.decDigits n.natAbs ∧ k ≤ n.natAbs) (fun m _ => (intOf m).toNat)
    case atStart =>
      refine ⟨n.natAbs, [], ?_, rfl, List.append_nil _, Nat.le_refl _⟩
      simp [IntKind.wrap, IntKind.bits, IntKind.signed]
      try omega
    case round =>
      obtain ⟨k, l, rfl, rfl, hl, hk⟩ := hrel
      have hz := bs_size l
      have hz2 : l.length ≤ 21 := by
        have := congrArg List.length hl
        rw [List.length_append] at this; omega
      have ht := Lib.hid (ten_at k)
      by_cases hc : k < 10
      · have hq : ((k : Int) / 10 == 0) = true := by rw [beq_iff_eq]; omega
        have hd := Lib.hid (dec_last k _ l hc hl)
        clear hl
        go_wp2
        go_ret
        refine ⟨?_, rfl⟩
        rw [ht.out, bs_append, hI.out, List.singleton_append, hd.out]
        exact congrArg (fun s => Ending.returned (.string s)) (bs_append [45] _)
      · have hq : ((k : Int) / 10 == 0) = false := by rw [beq_eq_false_iff_ne]; omega
        have hd := Lib.hid (dec_step k _ l hc hl)
        clear hl
        go_wp2
        go_round
        case rel => exact ⟨k / 10, UInt8.ofNat (48 + k % 10) :: l, by go_num, by rw [ht.out, bs_append]; rfl, hd.out, by omega⟩
        case measure => simp [intOf]; omega
  · have hI : Hid (Lib.itoa n = Lib.decDigits n.toNat) := by show _ = _; unfold Lib.itoa; rw [if_neg hn]
    have hL := dec_len n.toNat (by omega)
    go_enter Tryd.func9, Tryd.ntmps9
    go_wp2
    go_loop [3, 4] (fun m s => ∃ (k : Nat) (l : List UInt8), m = .int .u64 (k : Nat) ∧ s = .string (bs l) ∧ Lib.decDigits k ++ l = Lib.decDigits n.toNat ∧ k ≤ n.toNat) (fun m _ => (intOf m).toNat)
    case atStart =>
      refine ⟨n.toNat, [], ?_, rfl, List.append_nil _, Nat.le_refl _⟩
      simp [IntKind.wrap, IntKind.bits, IntKind.signed]
      try omega
    case round =>
      obtain ⟨k, l, rfl, rfl, hl, hk⟩ := hrel
      have hz := bs_size l
      have hz2 : l.length ≤ 21 := by
        have := congrArg List.length hl
        rw [List.length_append] at this; omega
      have ht := Lib.hid (ten_at k)
      by_cases hc : k < 10
      · have hq : ((k : Int) / 10 == 0) = true := by rw [beq_iff_eq]; omega
        have hd := Lib.hid (dec_last k _ l hc hl)
        clear hl
        go_wp2
        go_ret
        refine ⟨?_, rfl⟩
        rw [ht.out, bs_append, hI.out, List.singleton_append, hd.out]
        rfl
      · have hq : ((k : Int) / 10 == 0) = false := by rw [beq_eq_false_iff_ne]; omega
        have hd := Lib.hid (dec_step k _ l hc hl)
        clear hl
        go_wp2
        go_round
        case rel => exact ⟨k / 10, UInt8.ofNat (48 + k % 10) :: l, by go_num, by rw [ht.out, bs_append]; rfl, hd.out, by omega⟩
        case measure => simp [intOf]; omega

theorem escL_take (s : List UInt8) (k : Nat) (h : k < s.length) : escL (s.take (k + 1)) = escL (s.take k) ++ escL [s[k]] := by
  rw [List.take_succ_eq_append_getElem h, escL_append]

set_option maxHeartbeats 4000000 in
set_option maxRecDepth 100000 in
theorem quoted_any (s : List UInt8) (w : World) (hlen : s.length ≤ 35184372088832) :
    Calls Tryd.prog 10 #[.string (bs s)] w fun e w' => e = .returned (.string (bs (quoteL s))) ∧ Below w.heap.size w w' := by
  obtain ⟨i0, hi, hz0, hz1, hz2⟩ := info_parts infoByte
  have hsz := bs_size s
  have hgg : Hid (∀ (k : Nat) (hk : k < s.length) (h : k < (bs s).size), (bs s)[k]'h = s[k]'hk) := fun k hk h => bs_get s k h
  generalize bs s = S at *
  go_enter Tryd.func10, Tryd.ntmps10
  go_wp2_with (at_builtin; refine wpList_append_own _ rfl _ _ 27 rfl w.heap.size 5 i0 (.int .u8 0) 1 1 Tryd.underlying27 hi hz0 hz1 hz2 rfl (by decide) _ _ _ rfl (World.ownsRow_nil _ _ _ _) ⟨w.heap.size, 0, none⟩ 1 1 [.int .u8 34] rfl rfl ?c1 ?c2 ?c3 ?c4 ?c5 ?_)
  case c1 =>
    intro j u hj
    match j, hj with
    | 0, hj => simp at hj; subst hj; simp [Addr.add]
  case c2 => intro u hu; simp at hu; subst hu; rfl
  case c3 => unfold maxLen; omega
  case c4 => omega
  case c5 => simp
  intro v0 w0 hown' hgrow _
  have ho0 : w0.ownsRow w.heap.size 5 1 v0 (34 :: escL (s.take 0)).length (Lib.byteCells (34 :: escL (s.take 0))) := hown'
  have hbel0 := ((Below.refl _ w).alloc (Nat.le_refl _) _).grown hgrow (by simp) (fun k hk => by simp [Value.ownBlock] at hk)
  clear hown' hgrow
  go_wp2
  go_loopw [3, 4] (fun b i wr => ∃ k : Nat, k ≤ s.length ∧ i = .int .i64 k ∧ wr.ownsRow w.heap.size 5 1 b (34 :: escL (s.take k)).length (Lib.byteCells (34 :: escL (s.take k))) ∧ Below w.heap.size w wr) (fun _ i _ => s.length - (intOf i).toNat)
  case atStart => exact ⟨0, Nat.zero_le _, rfl, ho0, hbel0⟩
  case round =>
    obtain ⟨k, hk, rfl, ho, hbel⟩ := hrel
    clear ho0 hbel0
    have hel := escL_len (s.take k)
    have htl := List.length_take_le k s
    by_cases hlt : k < s.length
    · have hg : ∀ h, S[k]'h = s[k] := fun h => hgg.out k hlt h
      have hs := Lib.hid (escL_take s k hlt)
      generalize s[k] = c at *
      have hln : (34 :: escL (s.take k)).length ≤ 70368744177665 := by simp; omega
      by_cases c1 : c = 34 ∨ c = 92
      · have t1 : Hid True := trivial
        rcases c1 with rfl | rfl
        · skip
          replace hs := hs
          go_wp2_with (at_builtin; refine wpList_append_own _ rfl _ _ 27 rfl w.heap.size 5 i0 (.int .u8 0) 1 1 Tryd.underlying27 hi hz0 hz1 hz2 rfl (by decide) _ _ _ rfl (ho.alloc _) ⟨wr.heap.size, 0, none⟩ 2 2 [.int .u8 92, .int .u8 34] rfl rfl ?c1 ?c2 ?c3 ?c4 ?c5 ?_)
          case c1 =>
            intro j u hj
            match j, hj with
            | 0, hj => simp at hj; subst hj; simp [Addr.add]
            | 1, hj => simp at hj; subst hj; simp [Addr.add]
          case c2 => intro u hu; simp at hu; (try rcases hu with rfl | rfl) <;> (try subst hu) <;> rfl
          case c3 => unfold maxLen; omega
          case c4 => omega
          case c5 => have := hbel.size; simp; omega
          intro v' w2 hown' hgrow _
          have hown2 : Hid (w2.ownsRow w.heap.size 5 1 v' (34 :: escL (s.take (k + 1))).length (Lib.byteCells (34 :: escL (s.take (k + 1))))) := by
            have e : 34 :: escL (s.take (k + 1)) = (34 :: escL (s.take k)) ++ [92, 34] := by rw [hs.out]; simp [escL, if_true]
            rw [e, List.length_append]
            show w2.ownsRow _ _ _ _ _ (Lib.byteCells _)
            simpa [Lib.byteCells] using hown'
          have hbel2 := Lib.hid ((hbel.alloc (by have := hbel.size; omega) _).grown hgrow (by have := hbel.size; simp; omega) (fun k hk => (ho.lt k hk).1))
          clear hown' hgrow ho hbel
          go_wp2
          go_roundw
          case rel => exact ⟨k + 1, by omega, by go_num, hown2.out, hbel2.out⟩
          case measure => simp [intOf]; omega
        · skip
          replace hs := hs
          go_wp2_with (at_builtin; refine wpList_append_own _ rfl _ _ 27 rfl w.heap.size 5 i0 (.int .u8 0) 1 1 Tryd.underlying27 hi hz0 hz1 hz2 rfl (by decide) _ _ _ rfl (ho.alloc _) ⟨wr.heap.size, 0, none⟩ 2 2 [.int .u8 92, .int .u8 92] rfl rfl ?c1 ?c2 ?c3 ?c4 ?c5 ?_)
          case c1 =>
            intro j u hj
            match j, hj with
            | 0, hj => simp at hj; subst hj; simp [Addr.add]
            | 1, hj => simp at hj; subst hj; simp [Addr.add]
          case c2 => intro u hu; simp at hu; (try rcases hu with rfl | rfl) <;> (try subst hu) <;> rfl
          case c3 => unfold maxLen; omega
          case c4 => omega
          case c5 => have := hbel.size; simp; omega
          intro v' w2 hown' hgrow _
          have hown2 : Hid (w2.ownsRow w.heap.size 5 1 v' (34 :: escL (s.take (k + 1))).length (Lib.byteCells (34 :: escL (s.take (k + 1))))) := by
            have e : 34 :: escL (s.take (k + 1)) = (34 :: escL (s.take k)) ++ [92, 92] := by rw [hs.out]; simp [escL, if_true]
            rw [e, List.length_append]
            show w2.ownsRow _ _ _ _ _ (Lib.byteCells _)
            simpa [Lib.byteCells] using hown'
          have hbel2 := Lib.hid ((hbel.alloc (by have := hbel.size; omega) _).grown hgrow (by have := hbel.size; simp; omega) (fun k hk => (ho.lt k hk).1))
          clear hown' hgrow ho hbel
          go_wp2
          go_roundw
          case rel => exact ⟨k + 1, by omega, by go_num, hown2.out, hbel2.out⟩
          case measure => simp [intOf]; omega
      · by_cases c2 : c = 10
        · subst c2
          go_wp2_with (at_builtin; refine wpList_append_own _ rfl _ _ 27 rfl w.heap.size 5 i0 (.int .u8 0) 1 1 Tryd.underlying27 hi hz0 hz1 hz2 rfl (by decide) _ _ _ rfl (ho.alloc _) ⟨wr.heap.size, 0, none⟩ 2 2 [.int .u8 92, .int .u8 110] rfl rfl ?c1 ?c2 ?c3 ?c4 ?c5 ?_)
          case c1 =>
            intro j u hj
            match j, hj with
            | 0, hj => simp at hj; subst hj; simp [Addr.add]
            | 1, hj => simp at hj; subst hj; simp [Addr.add]
          case c2 => intro u hu; simp at hu; (try rcases hu with rfl | rfl) <;> (try subst hu) <;> rfl
          case c3 => unfold maxLen; omega
          case c4 => omega
          case c5 => have := hbel.size; simp; omega
          intro v' w2 hown' hgrow _
          have hown2 : Hid (w2.ownsRow w.heap.size 5 1 v' (34 :: escL (s.take (k + 1))).length (Lib.byteCells (34 :: escL (s.take (k + 1))))) := by
            have e : 34 :: escL (s.take (k + 1)) = (34 :: escL (s.take k)) ++ [92, 110] := by rw [hs.out]; simp [escL, if_true]
            rw [e, List.length_append]
            show w2.ownsRow _ _ _ _ _ (Lib.byteCells _)
            simpa [Lib.byteCells] using hown'
          have hbel2 := Lib.hid ((hbel.alloc (by have := hbel.size; omega) _).grown hgrow (by have := hbel.size; simp; omega) (fun k hk => (ho.lt k hk).1))
          clear hown' hgrow ho hbel
          go_wp2
          go_roundw
          case rel => exact ⟨k + 1, by omega, by go_num, hown2.out, hbel2.out⟩
          case measure => simp [intOf]; omega
        · have t1 : ((c.toNat : Int) == 34) = false := by
            rw [beq_eq_false_iff_ne]; intro h; apply c1; left; apply UInt8.toNat_inj.1; simp; omega
          have t2 : ((c.toNat : Int) == 92) = false := by
            rw [beq_eq_false_iff_ne]; intro h; apply c1; right; apply UInt8.toNat_inj.1; simp; omega
          have t3 : ((c.toNat : Int) == 10) = false := by
            rw [beq_eq_false_iff_ne]; intro h; apply c2; apply UInt8.toNat_inj.1; simp; omega
          have c1' := Lib.hid c1
          have c2' := Lib.hid c2
          clear c1 c2
          go_wp2_with (at_builtin; refine wpList_append_own _ rfl _ _ 27 rfl w.heap.size 5 i0 (.int .u8 0) 1 1 Tryd.underlying27 hi hz0 hz1 hz2 rfl (by decide) _ _ _ rfl (ho.alloc _) ⟨wr.heap.size, 0, none⟩ 1 1 [.int .u8 (c.toNat : Int)] rfl rfl ?c1 ?c2 ?c3 ?c4 ?c5 ?_)
          case c1 =>
            intro j u hj
            match j, hj with
            | 0, hj => simp at hj; subst hj; simp [Addr.add]
          case c2 => intro u hu; simp at hu; (try rcases hu with rfl | rfl) <;> (try subst hu) <;> rfl
          case c3 => unfold maxLen; omega
          case c4 => omega
          case c5 => have := hbel.size; simp; omega
          intro v' w2 hown' hgrow _
          have hown2 : Hid (w2.ownsRow w.heap.size 5 1 v' (34 :: escL (s.take (k + 1))).length (Lib.byteCells (34 :: escL (s.take (k + 1))))) := by
            have e : 34 :: escL (s.take (k + 1)) = (34 :: escL (s.take k)) ++ [c] := by rw [hs.out]; simp [escL, c1'.out, c2'.out]
            rw [e, List.length_append]
            show w2.ownsRow _ _ _ _ _ (Lib.byteCells _)
            simpa [Lib.byteCells] using hown'
          have hbel2 := Lib.hid ((hbel.alloc (by have := hbel.size; omega) _).grown hgrow (by have := hbel.size; simp; omega) (fun k hk => (ho.lt k hk).1))
          clear hown' hgrow ho hbel
          go_wp2
          go_roundw
          case rel => exact ⟨k + 1, by omega, by go_num, hown2.out, hbel2.out⟩
          case measure => simp [intOf]; omega
    · obtain rfl : k = s.length := by omega
      rw [List.take_length] at ho hel
      have hln : (34 :: escL s).length ≤ 70368744177665 := by simp; omega
      go_wp2_with (at_builtin; refine wpList_append_own _ rfl _ _ 27 rfl w.heap.size 5 i0 (.int .u8 0) 1 1 Tryd.underlying27 hi hz0 hz1 hz2 rfl (by decide) _ _ _ rfl (ho.alloc _) ⟨wr.heap.size, 0, none⟩ 1 1 [.int .u8 34] rfl rfl ?c1 ?c2 ?c3 ?c4 ?c5 ?_)
      case c1 =>
        intro j u hj
        match j, hj with
        | 0, hj => simp at hj; subst hj; simp [Addr.add]
      case c2 => intro u hu; simp at hu; subst hu; rfl
      case c3 => unfold maxLen; omega
      case c4 => omega
      case c5 => have := hbel.size; simp; omega
      intro v' w2 hown' hgrow _
      have hown2 : w2.ownsRow w.heap.size 5 1 v' (quoteL s).length (Lib.byteCells (quoteL s)) := by
        simpa [quoteL, Lib.byteCells] using hown'
      have hbel2 := Lib.hid ((hbel.alloc (by have := hbel.size; omega) _).grown hgrow (by have := hbel.size; simp; omega) (fun k hk => (ho.lt k hk).1))
      clear hown' hgrow ho hbel
      obtain ⟨g, cap, rfl⟩ : ∃ g cap, v' = .slice (some ⟨g, 0, none⟩) (quoteL s).length cap := by
        rcases hown2.2 with ⟨_, h0⟩ | ⟨g, cap, cur, hv, _⟩
        · simp [quoteL] at h0
        · exact ⟨g, cap, hv⟩
      have hcv := run_convert_bytes_back (P := Tryd.prog) w2 27 9 5 ⟨g, 0, none⟩ cap (quoteL s) Tryd.underlying27 Tryd.underlying5 Tryd.underlying9 (fun j hj => by
        have := hown2.cells rfl j (.int .u8 ((quoteL s)[j].toNat : Int)) (by simp [Lib.byteCells, hj])
        exact this)
      clear hown2
      generalize (quoteL s).length = qn at hcv ⊢
      go_wp2
      go_ret
      exact ⟨rfl, hbel2.out⟩
end Go.Proofs.YtimdkdengdhglaaDoor
