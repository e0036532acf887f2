/- The reference's Digits: a number as text. -/
import Derived.Test.YtehcbicngbibgaaGreatDoorZOd
import Derived.Maps.AppendAt
import Derived.Laws.AppendOwnNone
import Derived.Laws.IdiomStrings
namespace Go.Proofs.YtehcbicngbibgaaGreatDoor
open Go Go.RowKit
theorem dec_step (k u : Nat) (l : List UInt8) (h : ¬ k < 10) (hl : Lib.decDigits k ++ l = Lib.decDigits u) : Lib.decDigits (k / 10) ++ (UInt8.ofNat (48 + k % 10) :: l) = Lib.decDigits u := by
  rw [← hl, Lib.decDigits.eq_1 k, dif_neg h, List.append_assoc]; rfl
theorem dec_last (k u : Nat) (l : List UInt8) (h : k < 10) (hl : Lib.decDigits k ++ l = Lib.decDigits u) : UInt8.ofNat (48 + k) :: l = Lib.decDigits u := by
  rw [← hl, Lib.decDigits.eq_1 k, dif_pos h]; rfl
theorem dec_len (u : Nat) (h : u ≤ 9223372036854775808) : (Lib.decDigits u).length ≤ 21 := by
  have := Lib.itoa_length_le (-(u : Int)) (by omega) (by omega)
  unfold Lib.itoa at this
  split at this
  · rw [show (-(u : Int)).natAbs = u by omega] at this; simp at this; omega
  · obtain rfl : u = 0 := by omega
    rw [Lib.decDigits_length]; unfold Lib.nDigits; simp
theorem byte_snoc (l : List UInt8) (c : UInt8) : Lib.byteCells (l ++ [c]) = Lib.byteCells l ++ [.int .u8 (c.toNat : Int)] := by simp [Lib.byteCells]
theorem dig_num (k : Nat) : ((UInt8.ofNat (48 + k % 10)).toNat : Int) = 48 + (k : Int) % 10 := by simp; omega
theorem dig_num2 (k : Nat) (h : k ≤ 9) : ((UInt8.ofNat (48 + k)).toNat : Int) = 48 + (k : Int) := by simp; omega
/-- The first j and the last j of m are those of l, turned round; between them m is l. -/
def Rev (l m : List UInt8) (j : Nat) : Prop := m.length = l.length ∧ 2 * j ≤ l.length + 1 ∧ ∀ i, i < l.length → m[i]? = if i < j ∨ l.length ≤ i + j then l[l.length - 1 - i]? else l[i]?
theorem Rev.zero (l : List UInt8) : Rev l l 0 := ⟨rfl, by omega, fun i hi => by rw [if_neg (by omega)]⟩
theorem Rev.step {l m : List UInt8} {j : Nat} (h : Rev l m j) (hj : 2 * j + 1 < l.length) (a b : UInt8) (ha : m[j]? = some a) (hb : m[l.length - 1 - j]? = some b) : Rev l ((m.set j b).set (l.length - 1 - j) a) (j + 1) := by
  obtain ⟨h1, h2, h3⟩ := h
  have ea := h3 j (by omega)
  have eb := h3 (l.length - 1 - j) (by omega)
  rw [if_neg (by omega), ha] at ea
  rw [if_neg (by omega), hb] at eb
  refine ⟨by simp [h1], by omega, fun i hi => ?_⟩
  by_cases e1 : i = l.length - 1 - j
  · subst e1
    rw [List.getElem?_set_self (by simp; omega), if_pos (by omega), ea]
    congr 1; omega
  · rw [List.getElem?_set_ne (by omega)]
    by_cases e2 : i = j
    · subst e2
      rw [List.getElem?_set_self (by omega), if_pos (by omega), eb]
    · rw [List.getElem?_set_ne (by omega), h3 i hi]
      by_cases e3 : i < j ∨ l.length ≤ i + j
      · rw [if_pos e3, if_pos (by omega)]
      · rw [if_neg e3, if_neg (by omega)]
theorem Rev.done {l m : List UInt8} {j : Nat} (h : Rev l m j) (hj : ¬ 2 * j + 1 < l.length) : m = l.reverse := by
  obtain ⟨h1, h2, h3⟩ := h
  apply List.ext_getElem?
  intro i
  by_cases hi : i < l.length
  · rw [h3 i hi, List.getElem?_reverse hi]
    split
    · rfl
    · congr 1; omega
  · rw [List.getElem?_eq_none (by omega), List.getElem?_eq_none (by simp; omega)]
theorem byte_set (l : List UInt8) (j : Nat) (c : UInt8) : Lib.byteCells (l.set j c) = (Lib.byteCells l).set j (.int .u8 (c.toNat : Int)) := by simp [Lib.byteCells, List.map_set]
set_option maxHeartbeats 4000000 in
set_option maxRecDepth 100000 in
theorem refDigits_any (n : Int) (w : World) (h0 : -9223372036854775808 ≤ n) (h1 : n ≤ 9223372036854775807) :
    Calls Tryz.prog 161 #[.int .i64 n] w fun e w' => e = .returned (.string (bs (Lib.itoa n))) ∧ Below w.heap.size w w' := by
  obtain ⟨i0, hi, hz0, hz1, hz2⟩ := info_parts infoByte
  obtain ⟨N, hN⟩ : ∃ N, N = n.natAbs := ⟨_, rfl⟩
  have hL := dec_len N (by omega)
  by_cases hn : n < 0
  · skip
    go_enter Tryz.func161, Tryz.ntmps161
    go_wp2
    go_loopw [3, 4] (fun u v wr => ∃ (k : Nat) (l : List UInt8), u = .int .u64 (k : Nat) ∧ k ≤ N ∧ wr.ownsRow w.heap.size 5 1 v l.length (Lib.byteCells l) ∧ Lib.decDigits k ++ l.reverse = Lib.decDigits N ∧ Below w.heap.size w wr) (fun u _ _ => (intOf u).toNat)
    case atStart =>
      refine ⟨N, [], ?_, Nat.le_refl _, World.ownsRow_nil _ _ _ _, List.append_nil _, Below.refl _ _⟩
      simp [IntKind.wrap, IntKind.bits, IntKind.signed]
      try omega
    case round =>
      obtain ⟨k, l, rfl, hk, ho, hd, hb⟩ := hrel
      have hbs := hb.size
      have hll : Hid (l.length + (Lib.decDigits k).length = (Lib.decDigits N).length) := by
        show _ = _
        rw [← hd, List.length_append, List.length_reverse, Nat.add_comm]
      have hll2 : l.length ≤ 21 := by have := hll.out; omega
      have hown1 := Lib.hid ho
      by_cases hc : 9 < k
      · have hd2 := Lib.hid (dec_step k N l.reverse (by omega) hd)
        clear hd
        go_wp2_with (at_builtin; refine wpList_append_own _ rfl _ _ 66 rfl w.heap.size 5 i0 (.int .u8 0) 1 1 Tryz.underlying66 hi hz0 hz1 hz2 rfl (by decide) _ _ _ rfl (hown1.out.alloc _) ⟨wr.heap.size, 0, none⟩ 1 1 [(.int .u8 (48 + (k : Int) % 10))] rfl rfl (World.news_of_block (cs := #[(.int .u8 (48 + (k : Int) % 10))]) (t := 5) (fr := (0, 0)) (heap_alloc_new wr _)) (by simp [Value.oneCell']) (by unfold maxLen; omega) (by omega) (by simp; omega) ?_)
        intro v' w2 hown' hgrow _
        have hown2 : Hid (w2.ownsRow w.heap.size 5 1 v' (l ++ [UInt8.ofNat (48 + k % 10)]).length (Lib.byteCells (l ++ [UInt8.ofNat (48 + k % 10)]))) := by
          show w2.ownsRow _ _ _ _ _ _
          rw [byte_snoc, dig_num k]; simpa using hown'
        have hbel2 := Lib.hid ((hb.alloc (by omega) _).grown hgrow (by simp; omega) (fun k hk => (hown1.out.lt k hk).1))
        clear hown' hgrow ho hb hown1
        go_wp2
        go_roundw
        case rel => exact ⟨k / 10, l ++ [UInt8.ofNat (48 + k % 10)], by go_num, by omega, hown2.out, by rw [List.reverse_append]; exact hd2.out, hbel2.out⟩
        case measure => simp [intOf]; omega
      · have hd2 := Lib.hid (dec_last k N l.reverse (by omega) hd)
        clear hd
        go_wp2_with (at_builtin; refine wpList_append_own _ rfl _ _ 66 rfl w.heap.size 5 i0 (.int .u8 0) 1 1 Tryz.underlying66 hi hz0 hz1 hz2 rfl (by decide) _ _ _ rfl (hown1.out.alloc _) ⟨wr.heap.size, 0, none⟩ 1 1 [(.int .u8 (48 + (k : Int)))] rfl rfl (World.news_of_block (cs := #[(.int .u8 (48 + (k : Int)))]) (t := 5) (fr := (0, 0)) (heap_alloc_new wr _)) (by simp [Value.oneCell']) (by unfold maxLen; omega) (by omega) (by simp; omega) ?_)
        intro v1 w2 hown' hgrow _
        have hown2 : Hid (w2.ownsRow w.heap.size 5 1 v1 (l ++ [UInt8.ofNat (48 + k)]).length (Lib.byteCells (l ++ [UInt8.ofNat (48 + k)]))) := by
          show w2.ownsRow _ _ _ _ _ _
          rw [byte_snoc, dig_num2 k (by omega)]; simpa using hown'
        have hbel2 := (hb.alloc (by omega) _).grown hgrow (by simp; omega) (fun k hk => (hown1.out.lt k hk).1)
        clear hown' hgrow ho hb hown1
        have hl1 : (l ++ [UInt8.ofNat (48 + k)]).length ≤ 22 := by simp; omega
        have hrev : Hid ((l ++ [UInt8.ofNat (48 + k)]).reverse = Lib.decDigits N) := by show _ = _; rw [List.reverse_append]; exact hd2.out
        have hpos : 0 < (l ++ [UInt8.ofNat (48 + k)]).length := by simp
        generalize l ++ [UInt8.ofNat (48 + k)] = l1 at *
        clear hd2 hll hll2
        have hbs2 := hbel2.size
        go_wp2_with (at_builtin; refine wpList_append_own _ rfl _ _ 66 rfl w.heap.size 5 i0 (.int .u8 0) 1 1 Tryz.underlying66 hi hz0 hz1 hz2 rfl (by decide) _ _ _ rfl (hown2.out.alloc _) ⟨w2.heap.size, 0, none⟩ 1 1 [(.int .u8 45)] rfl rfl (World.news_of_block (cs := #[(.int .u8 45)]) (t := 5) (fr := (0, 0)) (heap_alloc_new w2 _)) (by simp [Value.oneCell']) (by unfold maxLen; omega) (by omega) (by simp; omega) ?_)
        intro v3 w3 hown' hgrow _
        have hown3 : Hid (w3.ownsRow w.heap.size 5 1 v3 (l1 ++ [45]).length (Lib.byteCells (l1 ++ [45]))) := by
          show w3.ownsRow _ _ _ _ _ _
          rw [byte_snoc]; simpa using hown'
        have hbel3 := (hbel2.alloc (by omega) _).grown hgrow (by simp; omega) (fun k hk => (hown2.out.lt k hk).1)
        have hrev3 : Hid ((l1 ++ [45]).reverse = Lib.itoa n) := by
          show _ = _
          rw [List.reverse_append, hrev.out]
          unfold Lib.itoa; rw [if_pos hn, hN]; rfl
        have hl3 : (l1 ++ [45]).length ≤ 23 := by simp; omega
        have hpos3 : 0 < (l1 ++ [45]).length := by simp
        generalize l1 ++ [45] = l3 at *
        clear hown' hgrow hrev hown2
        obtain ⟨g, cap, rfl⟩ : ∃ g cap, v3 = .slice (some ⟨g, 0, none⟩) l3.length cap := by
          rcases hown3.out.2 with ⟨_, h0⟩ | ⟨g, cap, cur, hv, _⟩
          · omega
          · exact ⟨g, cap, hv⟩
        obtain ⟨len, hlen⟩ : ∃ len, len = l3.length := ⟨_, rfl⟩
        rw [← hlen] at hown3 hl3 hpos3 ⊢
        replace hlen := Lib.hid hlen
        clear hbs2
        go_wp2
        go_loopw [5] (fun i wr => ∃ (j : Nat) (m : List UInt8), i = .int .i64 (j : Nat) ∧ j ≤ len ∧ wr.ownsRow w.heap.size 5 1 (.slice (some ⟨g, 0, none⟩) len cap) len (Lib.byteCells m) ∧ Rev l3 m j ∧ Below w.heap.size w wr) (fun i _ => len - (intOf i).toNat)
        case atStart => exact ⟨0, l3, rfl, Nat.zero_le _, hown3.out, Rev.zero l3, hbel3⟩
        case round =>
          obtain ⟨j, m, rfl, hj, ho, hr, hb⟩ := hrel
          have hbs := hb.size
          have hml : m.length = len := by rw [hlen.out]; exact hr.1
          by_cases hc : 2 * j + 1 < len
          · obtain ⟨p, hp⟩ : ∃ p, len = j + p + 1 := ⟨len - 1 - j, by omega⟩
            have hjp : j < p := by omega
            have ha : m[j]? = some (m[j]'(by omega)) := List.getElem?_eq_getElem _
            have hbb : m[p]? = some (m[p]'(by omega)) := List.getElem?_eq_getElem _
            generalize m[j]'(by omega) = a at ha
            generalize m[p]'(by omega) = b at hbb
            have c1 : wr.cell? ⟨g, j, none⟩ = some (.int .u8 (a.toNat : Int)) := by rw [ho.cellAt j (by omega)]; simp [Lib.byteCells, ha]
            have c2 : wr.cell? ⟨g, p, none⟩ = some (.int .u8 (b.toNat : Int)) := by rw [ho.cellAt p (by omega)]; simp [Lib.byteCells, hbb]
            have f1 := ho.frozenAt j
            have f2 := ho.frozenAt p
            have s1 := ho.stored j (.int .u8 (b.toNat : Int))
            have s2 := s1.1.stored p (.int .u8 (a.toNat : Int))
            have hr2 := hr.step (by rw [← hlen.out]; omega) a b ha (by rw [← hlen.out, show len - 1 - j = p by omega]; exact hbb)
            rw [← hlen.out, show len - 1 - j = p by omega] at hr2
            have hpi : (len : Int) - 1 - (j : Int) = (p : Nat) := by omega
            have hcI : 2 * (j : Int) < (len : Int) - 1 := by omega
            have hfin : ∀ W, W = (wr.setCell ⟨g, j, none⟩ (.int .u8 (b.toNat : Int))).setCell ⟨g, p, none⟩ (.int .u8 (a.toNat : Int)) → W.ownsRow w.heap.size 5 1 (.slice (some ⟨g, 0, none⟩) len cap) len (Lib.byteCells ((m.set j b).set p a)) ∧ Below w.heap.size w W := fun W e => by
              rw [e]
              refine ⟨by rw [byte_set, byte_set]; exact s2.1, ?_⟩
              have hgb := (ho.lt g rfl).1
              have hg1 := hb.grown s1.2 (by omega) (fun k hk => by injection hk with hk; omega)
              exact hg1.grown s2.2 (by have := s1.2.size; omega) (fun k hk => by injection hk with hk; omega)
            replace hfin := Lib.hid hfin
            replace hr2 := Lib.hid hr2
            replace hp := Lib.hid hp
            replace hml := Lib.hid hml
            clear s1 s2 ho hr ha hbb
            go_wp2_with fail
            go_roundw
            case rel => exact ⟨j + 1, (m.set j b).set p a, by go_num, by omega, (hfin.out _ rfl).1, hr2.out, (hfin.out _ rfl).2⟩
            case measure => simp [intOf]; omega
          · have hm := hr.done (by rw [← hlen.out]; exact hc)
            have hcI : ¬ 2 * (j : Int) < (len : Int) - 1 := by omega
            rw [hrev3.out] at hm
            replace hm := Lib.hid hm
            have hcv := run_convert_bytes_back (P := Tryz.prog) wr 66 9 5 ⟨g, 0, none⟩ cap m Tryz.underlying66 Tryz.underlying5 Tryz.underlying9 (fun j hj => by
              have := ho.cells rfl j (.int .u8 (m[j].toNat : Int)) (by simp [Lib.byteCells, hj])
              exact this)
            rw [hml] at hcv
            replace hb := Lib.hid hb
            replace hml := Lib.hid hml
            clear ho hr
            go_wp2
            go_ret
            exact ⟨by rw [← hm.out]; rfl, hb.out⟩
  · skip
    go_enter Tryz.func161, Tryz.ntmps161
    go_wp2
    go_loopw [3, 4] (fun u v wr => ∃ (k : Nat) (l : List UInt8), u = .int .u64 (k : Nat) ∧ k ≤ N ∧ wr.ownsRow w.heap.size 5 1 v l.length (Lib.byteCells l) ∧ Lib.decDigits k ++ l.reverse = Lib.decDigits N ∧ Below w.heap.size w wr) (fun u _ _ => (intOf u).toNat)
    case atStart =>
      refine ⟨N, [], ?_, Nat.le_refl _, World.ownsRow_nil _ _ _ _, List.append_nil _, Below.refl _ _⟩
      simp [IntKind.wrap, IntKind.bits, IntKind.signed]
      try omega
    case round =>
      obtain ⟨k, l, rfl, hk, ho, hd, hb⟩ := hrel
      have hbs := hb.size
      have hll : Hid (l.length + (Lib.decDigits k).length = (Lib.decDigits N).length) := by
        show _ = _
        rw [← hd, List.length_append, List.length_reverse, Nat.add_comm]
      have hll2 : l.length ≤ 21 := by have := hll.out; omega
      have hown1 := Lib.hid ho
      by_cases hc : 9 < k
      · have hd2 := Lib.hid (dec_step k N l.reverse (by omega) hd)
        clear hd
        go_wp2_with (at_builtin; refine wpList_append_own _ rfl _ _ 66 rfl w.heap.size 5 i0 (.int .u8 0) 1 1 Tryz.underlying66 hi hz0 hz1 hz2 rfl (by decide) _ _ _ rfl (hown1.out.alloc _) ⟨wr.heap.size, 0, none⟩ 1 1 [(.int .u8 (48 + (k : Int) % 10))] rfl rfl (World.news_of_block (cs := #[(.int .u8 (48 + (k : Int) % 10))]) (t := 5) (fr := (0, 0)) (heap_alloc_new wr _)) (by simp [Value.oneCell']) (by unfold maxLen; omega) (by omega) (by simp; omega) ?_)
        intro v' w2 hown' hgrow _
        have hown2 : Hid (w2.ownsRow w.heap.size 5 1 v' (l ++ [UInt8.ofNat (48 + k % 10)]).length (Lib.byteCells (l ++ [UInt8.ofNat (48 + k % 10)]))) := by
          show w2.ownsRow _ _ _ _ _ _
          rw [byte_snoc, dig_num k]; simpa using hown'
        have hbel2 := Lib.hid ((hb.alloc (by omega) _).grown hgrow (by simp; omega) (fun k hk => (hown1.out.lt k hk).1))
        clear hown' hgrow ho hb hown1
        go_wp2
        go_roundw
        case rel => exact ⟨k / 10, l ++ [UInt8.ofNat (48 + k % 10)], by go_num, by omega, hown2.out, by rw [List.reverse_append]; exact hd2.out, hbel2.out⟩
        case measure => simp [intOf]; omega
      · have hd2 := Lib.hid (dec_last k N l.reverse (by omega) hd)
        clear hd
        go_wp2_with (at_builtin; refine wpList_append_own _ rfl _ _ 66 rfl w.heap.size 5 i0 (.int .u8 0) 1 1 Tryz.underlying66 hi hz0 hz1 hz2 rfl (by decide) _ _ _ rfl (hown1.out.alloc _) ⟨wr.heap.size, 0, none⟩ 1 1 [(.int .u8 (48 + (k : Int)))] rfl rfl (World.news_of_block (cs := #[(.int .u8 (48 + (k : Int)))]) (t := 5) (fr := (0, 0)) (heap_alloc_new wr _)) (by simp [Value.oneCell']) (by unfold maxLen; omega) (by omega) (by simp; omega) ?_)
        intro v1 w2 hown' hgrow _
        have hown2 : Hid (w2.ownsRow w.heap.size 5 1 v1 (l ++ [UInt8.ofNat (48 + k)]).length (Lib.byteCells (l ++ [UInt8.ofNat (48 + k)]))) := by
          show w2.ownsRow _ _ _ _ _ _
          rw [byte_snoc, dig_num2 k (by omega)]; simpa using hown'
        have hbel2 := (hb.alloc (by omega) _).grown hgrow (by simp; omega) (fun k hk => (hown1.out.lt k hk).1)
        clear hown' hgrow ho hb hown1
        have hl1 : (l ++ [UInt8.ofNat (48 + k)]).length ≤ 22 := by simp; omega
        have hrev : Hid ((l ++ [UInt8.ofNat (48 + k)]).reverse = Lib.decDigits N) := by show _ = _; rw [List.reverse_append]; exact hd2.out
        have hpos : 0 < (l ++ [UInt8.ofNat (48 + k)]).length := by simp
        generalize l ++ [UInt8.ofNat (48 + k)] = l1 at *
        clear hd2 hll hll2
        have hbs2 := hbel2.size
        have hrev3 : Hid (l1.reverse = Lib.itoa n) := by
          show _ = _
          rw [hrev.out]
          unfold Lib.itoa; rw [if_neg (by omega), hN, show n.natAbs = n.toNat by omega]
        have hown3 := hown2
        have hbel3 := hbel2
        have hl3 : l1.length ≤ 23 := by omega
        have hpos3 := hpos
        obtain ⟨w3, hw3⟩ : ∃ w3, w3 = w2 := ⟨_, rfl⟩
        rw [← hw3] at hown3 hbel3 ⊢
        obtain ⟨v3, hv3⟩ : ∃ v3, v3 = v1 := ⟨_, rfl⟩
        rw [← hv3] at hown3 ⊢
        obtain ⟨l3, hl33⟩ : ∃ l3, l3 = l1 := ⟨_, rfl⟩
        rw [← hl33] at hown3 hrev3 hl3 hpos3
        clear hrev hown2 hw3 hv3 hl33 hbel2
        obtain ⟨g, cap, rfl⟩ : ∃ g cap, v3 = .slice (some ⟨g, 0, none⟩) l3.length cap := by
          rcases hown3.out.2 with ⟨_, h0⟩ | ⟨g, cap, cur, hv, _⟩
          · omega
          · exact ⟨g, cap, hv⟩
        obtain ⟨len, hlen⟩ : ∃ len, len = l3.length := ⟨_, rfl⟩
        rw [← hlen] at hown3 hl3 hpos3 ⊢
        replace hlen := Lib.hid hlen
        clear hbs2
        go_wp2
        go_loopw [5] (fun i wr => ∃ (j : Nat) (m : List UInt8), i = .int .i64 (j : Nat) ∧ j ≤ len ∧ wr.ownsRow w.heap.size 5 1 (.slice (some ⟨g, 0, none⟩) len cap) len (Lib.byteCells m) ∧ Rev l3 m j ∧ Below w.heap.size w wr) (fun i _ => len - (intOf i).toNat)
        case atStart => exact ⟨0, l3, rfl, Nat.zero_le _, hown3.out, Rev.zero l3, hbel3⟩
        case round =>
          obtain ⟨j, m, rfl, hj, ho, hr, hb⟩ := hrel
          have hbs := hb.size
          have hml : m.length = len := by rw [hlen.out]; exact hr.1
          by_cases hc : 2 * j + 1 < len
          · obtain ⟨p, hp⟩ : ∃ p, len = j + p + 1 := ⟨len - 1 - j, by omega⟩
            have hjp : j < p := by omega
            have ha : m[j]? = some (m[j]'(by omega)) := List.getElem?_eq_getElem _
            have hbb : m[p]? = some (m[p]'(by omega)) := List.getElem?_eq_getElem _
            generalize m[j]'(by omega) = a at ha
            generalize m[p]'(by omega) = b at hbb
            have c1 : wr.cell? ⟨g, j, none⟩ = some (.int .u8 (a.toNat : Int)) := by rw [ho.cellAt j (by omega)]; simp [Lib.byteCells, ha]
            have c2 : wr.cell? ⟨g, p, none⟩ = some (.int .u8 (b.toNat : Int)) := by rw [ho.cellAt p (by omega)]; simp [Lib.byteCells, hbb]
            have f1 := ho.frozenAt j
            have f2 := ho.frozenAt p
            have s1 := ho.stored j (.int .u8 (b.toNat : Int))
            have s2 := s1.1.stored p (.int .u8 (a.toNat : Int))
            have hr2 := hr.step (by rw [← hlen.out]; omega) a b ha (by rw [← hlen.out, show len - 1 - j = p by omega]; exact hbb)
            rw [← hlen.out, show len - 1 - j = p by omega] at hr2
            have hpi : (len : Int) - 1 - (j : Int) = (p : Nat) := by omega
            have hcI : 2 * (j : Int) < (len : Int) - 1 := by omega
            have hfin : ∀ W, W = (wr.setCell ⟨g, j, none⟩ (.int .u8 (b.toNat : Int))).setCell ⟨g, p, none⟩ (.int .u8 (a.toNat : Int)) → W.ownsRow w.heap.size 5 1 (.slice (some ⟨g, 0, none⟩) len cap) len (Lib.byteCells ((m.set j b).set p a)) ∧ Below w.heap.size w W := fun W e => by
              rw [e]
              refine ⟨by rw [byte_set, byte_set]; exact s2.1, ?_⟩
              have hgb := (ho.lt g rfl).1
              have hg1 := hb.grown s1.2 (by omega) (fun k hk => by injection hk with hk; omega)
              exact hg1.grown s2.2 (by have := s1.2.size; omega) (fun k hk => by injection hk with hk; omega)
            replace hfin := Lib.hid hfin
            replace hr2 := Lib.hid hr2
            replace hp := Lib.hid hp
            replace hml := Lib.hid hml
            clear s1 s2 ho hr ha hbb
            go_wp2_with fail
            go_roundw
            case rel => exact ⟨j + 1, (m.set j b).set p a, by go_num, by omega, (hfin.out _ rfl).1, hr2.out, (hfin.out _ rfl).2⟩
            case measure => simp [intOf]; omega
          · have hm := hr.done (by rw [← hlen.out]; exact hc)
            have hcI : ¬ 2 * (j : Int) < (len : Int) - 1 := by omega
            rw [hrev3.out] at hm
            replace hm := Lib.hid hm
            have hcv := run_convert_bytes_back (P := Tryz.prog) wr 66 9 5 ⟨g, 0, none⟩ cap m Tryz.underlying66 Tryz.underlying5 Tryz.underlying9 (fun j hj => by
              have := ho.cells rfl j (.int .u8 (m[j].toNat : Int)) (by simp [Lib.byteCells, hj])
              exact this)
            rw [hml] at hcv
            replace hb := Lib.hid hb
            replace hml := Lib.hid hml
            clear ho hr
            go_wp2
            go_ret
            exact ⟨by rw [← hm.out]; rfl, hb.out⟩
end Go.Proofs.YtehcbicngbibgaaGreatDoor
