/- The contract of the reference's text. -/
import Derived.Test.YtimdkdengdhglaaGreatDoorRefB
import Derived.Test.YtimdkdengdhglaaGreatDoorBld
import Derived.Laws.AppendOwnNone
import Derived.Laws.IdiomStrings
import Derived.Lib.UnsafeStr
import Derived.Lib.BufferRead
namespace Go.Proofs.YtimdkdengdhglaaGreatDoor
open Go Go.RowKit

def RTextPost (l : List UInt8) (w : World) (o : Option (List UInt8 × List UInt8)) (e : Ending) (w' : World) : Prop :=
  Below w.heap.size w w' ∧ match o with
  | some (t, r) => e = .returned (.tuple #[.string (bs t), .int .i64 ((l.length - r.length : Nat) : Int), .bool (decide (t.length ≤ 4096))])
  | none => ∃ (s : ByteArray) (n : Int), e = .returned (.tuple #[.string s, .int .i64 n, .bool false])
theorem rbytes_to (w : World) (v : Value) (l : List UInt8) {base : Nat} (h : w.ownsRow base 5 1 v l.length (Lib.byteCells l)) : (convert 73 9 v).run Tryz.prog w = .ok (.string (bs l)) w := by
  rcases h.2 with ⟨hv, h0⟩ | ⟨g, cap, cur, hv, _⟩
  · obtain rfl : l = [] := List.eq_nil_of_length_eq_zero h0
    rw [hv]
    exact Lib.run_convert_nil_bytes w _ _ 5 _ Tryz.underlying73 Tryz.underlying5 Tryz.underlying9
  · subst hv
    exact run_convert_bytes_back (P := Tryz.prog) w _ _ 5 ⟨g, 0, none⟩ cap l Tryz.underlying73 Tryz.underlying5 Tryz.underlying9 (fun j hj => by
      have := h.cells rfl j (.int .u8 (l[j].toNat : Int)) (by simp [Lib.byteCells, hj])
      exact this)
theorem rown_shape {w : World} {base : Nat} {e : TypeId} {size : Nat} {v : Value} {n : Nat} {xs : List Value} (h : w.ownsRow base e size v n xs) : ∃ ao cap, v = .slice ao n cap := by
  rcases h.2 with ⟨rfl, rfl⟩ | ⟨g, cap, cur, rfl, _⟩
  · exact ⟨none, 0, rfl⟩
  · exact ⟨_, cap, rfl⟩
theorem u8_ne {c d : UInt8} (h : c ≠ d) (n : Nat) (hd : d.toNat = n) : ((c.toNat : Int) == (n : Int)) = false := by
  rw [beq_eq_false_iff_ne]; intro e; apply h; apply UInt8.toNat_inj.1; omega

set_option maxHeartbeats 8000000 in
set_option maxRecDepth 100000 in
theorem rtext_any (l : List UInt8) (k : Nat) (w : World) (hk : k ≤ l.length) (hlen : l.length ≤ 65536) :
    Calls Tryz.prog 148 #[.string (bs l), .int .i64 (k : Nat)] w (RTextPost l w (textL false (l.drop k) [])) := by
  obtain ⟨i0, hi, hz0, hz1, hz2⟩ := info_parts infoByte
  obtain ⟨o, ho0⟩ : ∃ o, o = textL false (l.drop k) [] := ⟨_, rfl⟩
  rw [← ho0]
  have hsz := bs_size l
  have hgg : Hid (∀ (k : Nat) (hk : k < l.length) (h : k < (bs l).size), (bs l)[k]'h = l[k]'hk) := fun k hk h => bs_get l k h
  generalize bs l = S at *
  go_enter Tryz.func148, Tryz.ntmps148
  go_wp2
  go_loopw [1, 7] (fun i b wr => ∃ (j : Nat) (acc : List UInt8), j ≤ l.length ∧ i = .int .i64 (j : Nat) ∧ wr.ownsRow w.heap.size 5 1 b acc.length (Lib.byteCells acc) ∧ o = textL false (l.drop j) acc ∧ Below w.heap.size w wr ∧ acc.length ≤ j) (fun i _ _ => l.length - (intOf i).toNat)
  case atStart => exact ⟨k, [], hk, rfl, World.ownsRow_nil _ _ _ _, ho0, Below.refl _ _, by simp⟩
  case round =>
    obtain ⟨j, acc, hj, rfl, ho, hx, hbel, hacc⟩ := hrel
    by_cases hlt : j < l.length
    · have hg : ∀ h, S[j]'h = l[j] := fun h => hgg.out j hlt h
      rw [List.drop_eq_getElem_cons hlt] at hx
      generalize l[j]'hlt = c at *
      by_cases c10 : c = 10
      · subst c10
        rw [textL, if_neg (by decide), if_pos rfl] at hx
        subst hx
        have hb := Lib.hid hbel
        clear ho0 ho hbel
        go_wp2
        go_ret3
        exact ⟨hb.out, _, _, rfl⟩
      · have t10 : ((c.toNat : Int) == 10) = false := u8_ne c10 10 rfl
        by_cases c34 : c = 34
        · subst c34
          rw [textL, if_pos rfl] at hx
          subst hx
          have hcv := rbytes_to wr u7 acc ho
          obtain ⟨a7, cp7, rfl⟩ := rown_shape ho
          have hb := Lib.hid hbel
          have hd : l.length - (l.drop (j + 1)).length = j + 1 := by simp; omega
          have hd' : Hid (∀ (P : Nat → Prop), P (j + 1) → P (l.length - (l.drop (j + 1)).length)) := fun P h => by rw [hd]; exact h
          clear ho0 ho hbel hd
          go_wp2
          go_ret3
          refine ⟨hb.out, ?_⟩
          refine hd'.out (fun n => _ = Ending.returned (.tuple #[.string (bs acc), .int .i64 (n : Int), .bool (decide (acc.length ≤ 4096))])) ?_
          simp; omega
        · have t34 : ((c.toNat : Int) == 34) = false := u8_ne c34 34 rfl
          rw [textL, if_neg c34, if_neg c10] at hx
          by_cases c92 : c = 92
          · subst c92
            rw [if_pos rfl] at hx
            by_cases hend : j + 1 = l.length
            · rw [List.drop_of_length_le (by omega), textL] at hx
              subst hx
              have te : ((j : Int) + 1 == (l.length : Int)) = true := by rw [beq_iff_eq]; omega
              have hb := Lib.hid hbel
              clear ho0 ho hbel
              go_wp2
              go_ret3
              exact ⟨hb.out, _, _, rfl⟩
            · have te : ((j : Int) + 1 == (l.length : Int)) = false := by rw [beq_eq_false_iff_ne]; omega
              have hlt2 : j + 1 < l.length := by omega
              have hg2 : ∀ h, S[j + 1]'h = l[j + 1] := fun h => hgg.out (j + 1) hlt2 h
              rw [List.drop_eq_getElem_cons hlt2, textL] at hx
              generalize l[j + 1]'hlt2 = d at *
              by_cases d34 : d = 34
              · subst d34
                rw [show escOf 34 = some 34 from rfl, Option.bind_some] at hx
                replace hx := Lib.hid hx
                go_wp2_with (at_builtin; refine wpList_append_own _ rfl _ _ 73 rfl w.heap.size 5 i0 (.int .u8 0) 1 1 Tryz.underlying73 hi hz0 hz1 hz2 rfl (by decide) _ _ _ rfl (ho.alloc _) ⟨wr.heap.size, 0, none⟩ 1 1 [.int .u8 34] rfl rfl ?c1 ?c2 ?c3 ?c4 ?c5 ?_)
                case c1 =>
                  intro j u hj
                  match j, hj with
                  | 0, hj => simp at hj; subst hj; simp [Addr.add]
                case c2 => intro u hu; simp at hu; subst hu; rfl
                case c3 => unfold maxLen; omega
                case c4 => omega
                case c5 => have := hbel.size; simp; omega
                intro v' w2 hown' hgrow _
                have hown2 : Hid (w2.ownsRow w.heap.size 5 1 v' (acc ++ [34]).length (Lib.byteCells (acc ++ [34]))) := by
                  show w2.ownsRow _ _ _ _ _ _
                  simpa [Lib.byteCells] using hown'
                have hbel2 := Lib.hid ((hbel.alloc (by have := hbel.size; omega) _).grown hgrow (by have := hbel.size; simp; omega) (fun k hk => (ho.lt k hk).1))
                clear hown' hgrow ho hbel
                go_wp2
                go_roundw
                case rel => exact ⟨j + 1 + 1, acc ++ [34], by omega, by go_num, hown2.out, hx.out, hbel2.out, by simp; omega⟩
                case measure => simp [intOf]; omega
              · have td34 : ((d.toNat : Int) == 34) = false := u8_ne d34 34 rfl
                by_cases d92 : d = 92
                · subst d92
                  rw [show escOf 92 = some 92 from rfl, Option.bind_some] at hx
                  replace hx := Lib.hid hx
                  go_wp2_with (at_builtin; refine wpList_append_own _ rfl _ _ 73 rfl w.heap.size 5 i0 (.int .u8 0) 1 1 Tryz.underlying73 hi hz0 hz1 hz2 rfl (by decide) _ _ _ rfl (ho.alloc _) ⟨wr.heap.size, 0, none⟩ 1 1 [.int .u8 92] rfl rfl ?c1 ?c2 ?c3 ?c4 ?c5 ?_)
                  case c1 =>
                    intro j u hj
                    match j, hj with
                    | 0, hj => simp at hj; subst hj; simp [Addr.add]
                  case c2 => intro u hu; simp at hu; subst hu; rfl
                  case c3 => unfold maxLen; omega
                  case c4 => omega
                  case c5 => have := hbel.size; simp; omega
                  intro v' w2 hown' hgrow _
                  have hown2 : Hid (w2.ownsRow w.heap.size 5 1 v' (acc ++ [92]).length (Lib.byteCells (acc ++ [92]))) := by
                    show w2.ownsRow _ _ _ _ _ _
                    simpa [Lib.byteCells] using hown'
                  have hbel2 := Lib.hid ((hbel.alloc (by have := hbel.size; omega) _).grown hgrow (by have := hbel.size; simp; omega) (fun k hk => (ho.lt k hk).1))
                  clear hown' hgrow ho hbel
                  go_wp2
                  go_roundw
                  case rel => exact ⟨j + 1 + 1, acc ++ [92], by omega, by go_num, hown2.out, hx.out, hbel2.out, by simp; omega⟩
                  case measure => simp [intOf]; omega
                · have td92 : ((d.toNat : Int) == 92) = false := u8_ne d92 92 rfl
                  by_cases d110 : d = 110
                  · subst d110
                    rw [show escOf 110 = some 10 from rfl, Option.bind_some] at hx
                    replace hx := Lib.hid hx
                    go_wp2_with (at_builtin; refine wpList_append_own _ rfl _ _ 73 rfl w.heap.size 5 i0 (.int .u8 0) 1 1 Tryz.underlying73 hi hz0 hz1 hz2 rfl (by decide) _ _ _ rfl (ho.alloc _) ⟨wr.heap.size, 0, none⟩ 1 1 [.int .u8 10] rfl rfl ?c1 ?c2 ?c3 ?c4 ?c5 ?_)
                    case c1 =>
                      intro j u hj
                      match j, hj with
                      | 0, hj => simp at hj; subst hj; simp [Addr.add]
                    case c2 => intro u hu; simp at hu; subst hu; rfl
                    case c3 => unfold maxLen; omega
                    case c4 => omega
                    case c5 => have := hbel.size; simp; omega
                    intro v' w2 hown' hgrow _
                    have hown2 : Hid (w2.ownsRow w.heap.size 5 1 v' (acc ++ [10]).length (Lib.byteCells (acc ++ [10]))) := by
                      show w2.ownsRow _ _ _ _ _ _
                      simpa [Lib.byteCells] using hown'
                    have hbel2 := Lib.hid ((hbel.alloc (by have := hbel.size; omega) _).grown hgrow (by have := hbel.size; simp; omega) (fun k hk => (ho.lt k hk).1))
                    clear hown' hgrow ho hbel
                    go_wp2
                    go_roundw
                    case rel => exact ⟨j + 1 + 1, acc ++ [10], by omega, by go_num, hown2.out, hx.out, hbel2.out, by simp; omega⟩
                    case measure => simp [intOf]; omega
                  · have td110 : ((d.toNat : Int) == 110) = false := u8_ne d110 110 rfl
                    rw [show escOf d = none by simp [escOf, d34, d92, d110]] at hx
                    rw [Option.bind_none] at hx
                    subst hx
                    have hb := Lib.hid hbel
                    clear ho0 ho hbel
                    go_wp2
                    go_ret3
                    exact ⟨hb.out, _, _, rfl⟩
          · have t92 : ((c.toNat : Int) == 92) = false := u8_ne c92 92 rfl
            rw [if_neg c92] at hx
            replace hx := Lib.hid hx
            go_wp2_with (at_builtin; refine wpList_append_own _ rfl _ _ 73 rfl w.heap.size 5 i0 (.int .u8 0) 1 1 Tryz.underlying73 hi hz0 hz1 hz2 rfl (by decide) _ _ _ rfl (ho.alloc _) ⟨wr.heap.size, 0, none⟩ 1 1 [.int .u8 (c.toNat : Int)] rfl rfl ?c1 ?c2 ?c3 ?c4 ?c5 ?_)
            case c1 =>
              intro j u hj
              match j, hj with
              | 0, hj => simp at hj; subst hj; simp [Addr.add]
            case c2 => intro u hu; simp at hu; subst hu; rfl
            case c3 => unfold maxLen; omega
            case c4 => omega
            case c5 => have := hbel.size; simp; omega
            intro v' w2 hown' hgrow _
            have hown2 : Hid (w2.ownsRow w.heap.size 5 1 v' (acc ++ [c]).length (Lib.byteCells (acc ++ [c]))) := by
              show w2.ownsRow _ _ _ _ _ _
              simpa [Lib.byteCells] using hown'
            have hbel2 := Lib.hid ((hbel.alloc (by have := hbel.size; omega) _).grown hgrow (by have := hbel.size; simp; omega) (fun k hk => (ho.lt k hk).1))
            clear hown' hgrow ho hbel
            go_wp2
            go_roundw
            case rel => exact ⟨j + 1, acc ++ [c], by omega, by go_num, hown2.out, hx.out, hbel2.out, by simp; omega⟩
            case measure => simp [intOf]; omega
    · obtain rfl : j = l.length := by omega
      rw [List.drop_length, textL] at hx
      subst hx
      have hb := Lib.hid hbel
      clear ho0 ho hbel
      go_wp2
      go_ret3
      exact ⟨hb.out, _, _, rfl⟩
end Go.Proofs.YtimdkdengdhglaaGreatDoor
