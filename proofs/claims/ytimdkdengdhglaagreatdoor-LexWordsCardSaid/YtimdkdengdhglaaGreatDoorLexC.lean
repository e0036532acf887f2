/- The contract of the scanner's text. -/
import Derived.Test.YtimdkdengdhglaaGreatDoorLexA
import Derived.Test.YtimdkdengdhglaaGreatDoorBld
namespace Go.Proofs.YtimdkdengdhglaaGreatDoor
open Go Go.RowKit

/-- What comes of a text in quotes: what it stands for, or nothing. -/
def TextPost (b : Nat) (ln : Int) (w : World) (o : Option (List UInt8 × List UInt8)) (e : Ending) (w' : World) : Prop :=
  match o with
  | some (t, r) => e = .returned (.tuple #[.string (bs t), .bool (decide (t.length ≤ 4096))]) ∧ Scan w' b r ln ∧ Touch (fun k => k = b) w w'
  | none => e = .returned (.tuple #[.string (bs []), .bool false]) ∧ Touch (fun k => k = b) w w' ∧ ∃ m, Scan w' b m ln

theorem byteCells_str (l : List UInt8) : Lib.strCells (bs l) = Lib.byteCells l := Lib.strCells_eq (bs l)
theorem byteCells_snoc (l : List UInt8) (c : UInt8) : Lib.byteCells l ++ [.int .u8 (c.toNat : Int)] = Lib.byteCells (l ++ [c]) := by simp [Lib.byteCells]

set_option maxHeartbeats 4000000 in
set_option maxRecDepth 100000 in
theorem text_any (b : Nat) (l : List UInt8) (ln : Nat) (w : World) (hl : l.length ≤ 1000000) (hb : Scan w b (34 :: l) (ln : Int)) :
    Calls Tryz.prog 142 #[.pointer (some ⟨b, 0, none⟩)] w (TextPost b ln w (textL false l [])) := by
  have hbw := hb.lt
  have c0 := hb.c0
  have f0 := hb.fr 0
  have e1 : (bs (34 :: l)).extract 1 (bs (34 :: l)).size = bs l := by rw [bs_drop]; rfl
  have hsz : (bs (34 :: l)).size = l.length + 1 := by rw [bs_size]; rfl
  obtain ⟨S, hS⟩ : ∃ S, S = bs (34 :: l) := ⟨_, rfl⟩
  have hs1 := (hb.set0 l).alloc (.cells #[.pointer none, .slice none 0 0] 75)
  have ht1 := ((Touch.refl (fun k => k = b) w).set (p := ⟨b, 0, none⟩) rfl (.string (bs l))).alloc (.cells #[.pointer none, .slice none 0 0] 75)
  have hB1 : Lib.IsBuilder 75 5 w.heap.size w.heap.size (Lib.byteCells []) ((w.setCell ⟨b, 0, none⟩ (.string (bs l))).alloc (.cells #[.pointer none, .slice none 0 0] 75)) := by
    have := Lib.fresh_isBuilder 75 5 (w.setCell ⟨b, 0, none⟩ (.string (bs l)))
    simpa [Lib.byteCells] using this
  rw [← e1, ← hS] at hs1 ht1 hB1
  rw [← hS] at c0 hsz
  clear hb
  have hsz1 : 1 ≤ S.size := by omega
  have HS : Hid (S.extract 1 S.size = bs l) := by rw [hS]; exact e1
  clear hsz hS e1
  go_enter Tryz.func142, Tryz.ntmps142
  go_wp2_with fail
  go_loopg [] (l.length + 1) (fun g wr => ∃ (m acc : List UInt8), Scan wr b m (ln : Int) ∧ Lib.IsBuilder 75 5 w.heap.size w.heap.size (Lib.byteCells acc) wr ∧ Touch (fun k => k = b) w wr ∧ Hid (textL false m acc = textL false l []) ∧ acc.length + m.length ≤ 1000000 ∧ m.length < g)
  case atStart => exact ⟨l, [], hs1, hB1, ht1, rfl, by simpa using hl, by omega⟩
  case round =>
    obtain ⟨m, acc, hs, hB, ht, hsk, hma, hg⟩ := hrel
    clear hs1 ht1 hB1 HS c0 f0
    have cE := eat_text1 b m _ wr (by omega) hs
    have hs1 := hs.set0 (m.dropWhile plainByte)
    have ht1 := ht.set (p := ⟨b, 0, none⟩) rfl (.string (bs (m.dropWhile plainByte)))
    have hB1 := builder_setCell hB (p := ⟨b, 0, none⟩) hbw (.string (bs (m.dropWhile plainByte)))
    have hlen := tw_dw plainByte m
    have hsk' : Hid (textL false (m.dropWhile plainByte) (acc ++ m.takeWhile plainByte) = textL false l []) := by
      show _ = _; rw [← textL_plain]; exact hsk
    have hdd : Hid ((m.dropWhile plainByte).dropWhile plainByte = m.dropWhile plainByte) := dw_dw plainByte m
    have hwz := ht.size
    clear hs ht hB hsk
    generalize m.takeWhile plainByte = A at *
    generalize m.dropWhile plainByte = D at *
    have cW := writeString_any w.heap.size w.heap.size _ (bs A) _ hB1 (by rw [Lib.byteCells_length, bs_size]; omega) (by simpa using hwz)
    go_wp2_with (first | (go_at_call 137; refine cE.mono ?_; rintro e w1 ⟨rfl, rfl⟩) | (go_at_call 95; refine cW.mono ?_))
    rintro e W ⟨rfl, hB2, hb2⟩
    rw [byteCells_str, ← Lib.byteCells_append] at hB2
    have hs2 := hs1.below hb2 hbw
    have ht2 := ht1.below hb2 (fun k hk _ => hk)
    have hWz : w.heap.size ≤ W.heap.size := ht2.size
    clear cE cW hs1 ht1 hB1 hb2
    have hal : (acc ++ A).length + D.length ≤ 1000000 := by simp; omega
    have hDm : D.length ≤ m.length := by omega
    generalize acc ++ A = acc2 at *
    clear hma hlen
    have c0 := hs2.c0
    have f0 := hs2.fr 0
    rcases textL_ways D acc2 hdd.out with ⟨r, rfl⟩ | ⟨d, r, rfl, hd⟩ | ⟨r, rfl⟩ | ⟨hn, h1, h2, h3, h4⟩
    · -- the text's end
      have hfin : Hid (textL false l [] = some (acc2, r)) := by
        show _ = _; rw [← hsk'.out, textL_quote]
      have e1 : (bs (34 :: r)).extract 1 (bs (34 :: r)).size = bs r := by rw [bs_drop]; rfl
      have hp1 : Lib.hasPrefix (bs (34 :: r)).data.toList [34] = true := by rw [bs_data]; simp [Lib.hasPrefix, List.isPrefixOf]
      have hsz : 1 ≤ (bs (34 :: r)).size := by rw [bs_size]; simp
      have hs3 := hs2.set0 r
      have ht3 := ht2.set (p := ⟨b, 0, none⟩) rfl (.string (bs r))
      have hB3 := builder_setCell hB2 (p := ⟨b, 0, none⟩) hbw (.string (bs r))
      rw [← e1] at hs3 ht3 hB3
      have E1 := Lib.hid e1
      clear e1 hs2 ht2 hB2 hdd hsk'
      generalize bs (34 :: r) = S at *
      have cS := Tryz.Builder_String_any_f w.heap.size w.heap.size acc2 _ (Lib.IsBuilderF.of hB3) (by simpa using hWz)
      go_wp2_with (first | (go_at_call 140; refine (Tryz.strings_HasPrefix _ _ _).mono ?_; rintro e w1 ⟨rfl, rfl⟩) | (go_at_call 27; refine cS.mono ?_))
      rintro e W3 ⟨rfl, hB4, hb4⟩
      have hs4 := hs3.below hb4 hbw
      have ht4 := ht3.below hb4 (fun k hk _ => hk)
      have cL := Tryz.Builder_Len_f w.heap.size w.heap.size _ _ hB4
      rw [Lib.byteCells_length] at cL
      have HF : Hid (TextPost b ln w (textL false l []) (.returned (.tuple #[.string ⟨acc2.toArray⟩, .bool (decide ((acc2.length : Int) ≤ 4096))])) W3) := by
        show TextPost _ _ _ _ _ _
        rw [hfin.out]
        exact ⟨by have : ((acc2.length : Int) ≤ 4096) ↔ (acc2.length ≤ 4096) := by omega
                  simp [this, bs], hs4, ht4⟩
      clear hs3 ht3 hB3 hb4 hB4 cS hs4 ht4
      go_wp2_with (go_at_call 173; refine cL.mono ?_; rintro e w1 ⟨rfl, rfl⟩)
      go_ret2
      exact HF.out
    · -- a backslash, a quote or another one
      have hrl : r.length + 2 ≤ m.length := by simp at hDm; exact hDm
      have hral : acc2.length + r.length + 2 ≤ 1000000 := by simp at hal; omega
      have hsk2 : Hid (textL false r (acc2 ++ [d]) = textL false l []) := by
        show _ = _; rw [← hsk'.out, textL_esc d r acc2 hd]
      have e1 : (bs (92 :: d :: r)).extract 2 (bs (92 :: d :: r)).size = bs r := by rw [bs_drop]; rfl
      have hp1 : Lib.hasPrefix (bs (92 :: d :: r)).data.toList [34] = false := by rw [bs_data]; simp [Lib.hasPrefix, List.isPrefixOf]
      have hsz : 2 ≤ (bs (92 :: d :: r)).size := by rw [bs_size]; simp
      have hget : ∀ h : 1 < (bs (92 :: d :: r)).size, (bs (92 :: d :: r))[1]'h = d := fun h => by rw [bs_get]; rfl
      have E1 := Lib.hid e1
      have cB := writeByte_any w.heap.size w.heap.size (Lib.byteCells acc2) (d.toNat : Int) W hB2 (by rw [Lib.byteCells_length]; omega) hWz
      rw [byteCells_snoc] at cB
      clear e1 hdd hsk' hal hDm hB2
      have hp2 : Lib.hasPrefix (bs (92 :: d :: r)).data.toList [92, 92] = true ∨ (Lib.hasPrefix (bs (92 :: d :: r)).data.toList [92, 92] = false ∧ Lib.hasPrefix (bs (92 :: d :: r)).data.toList [92, 34] = true) := by
        rcases hd with rfl | rfl
        · right; rw [bs_data]; simp [Lib.hasPrefix, List.isPrefixOf]
        · left; rw [bs_data]; simp [Lib.hasPrefix, List.isPrefixOf]
      clear hd
      generalize bs (92 :: d :: r) = S at *
      rcases hp2 with hp2 | ⟨hp2, hp3⟩
      all_goals
        go_wp2_with (first | (go_at_call 140; refine (Tryz.strings_HasPrefix _ _ _).mono ?_; rintro e w1 ⟨rfl, rfl⟩) | (go_at_call 94; refine cB.mono ?_))
        rintro e W3 ⟨rfl, hB4, hb4⟩
        have hs4 := hs2.below hb4 hbw
        have ht4 := ht2.below hb4 (fun k hk _ => hk)
        have c4 : W3.cell? ⟨b, 0, none⟩ = some (.string S) := (hb4.cell (p := ⟨b, 0, none⟩) hbw).trans c0
        have f4 : W3.frozen? ⟨b, 0, none⟩ = false := (hb4.frozen (p := ⟨b, 0, none⟩) hbw).trans f0
        have hs5 := hs4.set0 r
        have ht5 := ht4.set (p := ⟨b, 0, none⟩) rfl (.string (bs r))
        have hB5 := builder_setCell hB4 (p := ⟨b, 0, none⟩) hbw (.string (bs r))
        rw [← E1.out] at hs5 ht5 hB5
        clear hs4 ht4 hB4 hb4 c0 f0 cB hp1 hp2 hget
        go_wp2
        go_roundg (gk - 1)
        case measure => omega
        case rel => exact ⟨r, acc2 ++ [d], hs5, hB5, ht5, hsk2, by simp; omega, by omega⟩
    · -- a backslash and an n
      have hrl : r.length + 2 ≤ m.length := by simp at hDm; exact hDm
      have hral : acc2.length + r.length + 2 ≤ 1000000 := by simp at hal; omega
      have hsk2 : Hid (textL false r (acc2 ++ [10]) = textL false l []) := by
        show _ = _; rw [← hsk'.out, textL_nl r acc2]
      have e1 : (bs (92 :: 110 :: r)).extract 2 (bs (92 :: 110 :: r)).size = bs r := by rw [bs_drop]; rfl
      have hp1 : Lib.hasPrefix (bs (92 :: 110 :: r)).data.toList [34] = false := by rw [bs_data]; simp [Lib.hasPrefix, List.isPrefixOf]
      have hp2 : Lib.hasPrefix (bs (92 :: 110 :: r)).data.toList [92, 92] = false := by rw [bs_data]; simp [Lib.hasPrefix, List.isPrefixOf]
      have hp3 : Lib.hasPrefix (bs (92 :: 110 :: r)).data.toList [92, 34] = false := by rw [bs_data]; simp [Lib.hasPrefix, List.isPrefixOf]
      have hp4 : Lib.hasPrefix (bs (92 :: 110 :: r)).data.toList [92, 110] = true := by rw [bs_data]; simp [Lib.hasPrefix, List.isPrefixOf]
      have hsz : 2 ≤ (bs (92 :: 110 :: r)).size := by rw [bs_size]; simp
      have E1 := Lib.hid e1
      have cB := writeByte_any w.heap.size w.heap.size (Lib.byteCells acc2) ((10 : UInt8).toNat : Int) W hB2 (by rw [Lib.byteCells_length]; omega) hWz
      rw [byteCells_snoc] at cB
      change Calls _ _ #[_, .int .u8 10] _ _ at cB
      clear e1 hdd hsk' hal hDm hB2
      generalize bs (92 :: 110 :: r) = S at *
      go_wp2_with (first | (go_at_call 140; refine (Tryz.strings_HasPrefix _ _ _).mono ?_; rintro e w1 ⟨rfl, rfl⟩) | (go_at_call 94; refine cB.mono ?_))
      rintro e W3 ⟨rfl, hB4, hb4⟩
      have hs4 := hs2.below hb4 hbw
      have ht4 := ht2.below hb4 (fun k hk _ => hk)
      have c4 : W3.cell? ⟨b, 0, none⟩ = some (.string S) := (hb4.cell (p := ⟨b, 0, none⟩) hbw).trans c0
      have f4 : W3.frozen? ⟨b, 0, none⟩ = false := (hb4.frozen (p := ⟨b, 0, none⟩) hbw).trans f0
      have hs5 := hs4.set0 r
      have ht5 := ht4.set (p := ⟨b, 0, none⟩) rfl (.string (bs r))
      have hB5 := builder_setCell hB4 (p := ⟨b, 0, none⟩) hbw (.string (bs r))
      rw [← E1.out] at hs5 ht5 hB5
      clear hs4 ht4 hB4 hb4 c0 f0 cB hp1 hp2 hp3 hp4
      go_wp2
      go_roundg (gk - 1)
      case measure => omega
      case rel => exact ⟨r, acc2 ++ [10], hs5, hB5, ht5, hsk2, by simp; omega, by omega⟩
    · -- none
      have hfin : Hid (TextPost b ln w (textL false l []) (.returned (.tuple #[.string (bs []), .bool false])) W) := by
        show TextPost _ _ _ _ _ _
        rw [← hsk'.out, hn]
        exact ⟨rfl, ht2, D, hs2⟩
      have hp1 : Lib.hasPrefix (bs D).data.toList [34] = false := by rw [bs_data]; exact h1
      have hp2 : Lib.hasPrefix (bs D).data.toList [92, 92] = false := by rw [bs_data]; exact h2
      have hp3 : Lib.hasPrefix (bs D).data.toList [92, 34] = false := by rw [bs_data]; exact h3
      have hp4 : Lib.hasPrefix (bs D).data.toList [92, 110] = false := by rw [bs_data]; exact h4
      clear hn h1 h2 h3 h4 hdd hsk' hB2 hs2 ht2
      generalize bs D = S at *
      go_wp2_with (go_at_call 140; refine (Tryz.strings_HasPrefix _ _ _).mono ?_; rintro e w1 ⟨rfl, rfl⟩)
      go_ret2
      exact hfin.out
end Go.Proofs.YtimdkdengdhglaaGreatDoor
