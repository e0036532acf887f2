/- Texts: bytes, quoting; what a node tells; its length. -/
import Derived.Test.YtehcbicngbibgaaGreatDoorZSz
import Derived.Test.YtehcbicngbibgaaGreatDoorZBd
import Derived.Lib.ItoaLen
import Derived.Laws.AppendOwnNone
import Derived.Laws.IdiomStrings
import Derived.Lib.UnsafeStr
import Derived.Test.YtehcbicngbibgaaGreatDoorZBr
namespace Go.Proofs.YtehcbicngbibgaaGreatDoor
open Go Go.RowKit
def bs (l : List UInt8) : ByteArray := ⟨l.toArray⟩
theorem bs_data (l : List UInt8) : (bs l).data.toList = l := rfl
theorem bs_toList (s : ByteArray) : bs s.data.toList = s := by cases s; simp [bs]
theorem bs_size (l : List UInt8) : (bs l).size = l.length := by simp [bs, ByteArray.size]
theorem bs_inj {a b : List UInt8} (h : bs a = bs b) : a = b := by have := congrArg (fun s : ByteArray => s.data.toList) h; exact this
theorem ba_ext {s t : ByteArray} (h : s.data.toList = t.data.toList) : s = t := by rw [← bs_toList s, ← bs_toList t, h]
theorem size_list (s : ByteArray) : s.size = s.data.toList.length := by rw [Array.length_toList]; rfl
theorem bs_take (l : List UInt8) (k : Nat) : (bs l).extract 0 k = bs (l.take k) := by
  apply ba_ext; simp [bs]
theorem bs_drop (l : List UInt8) (k : Nat) : (bs l).extract k (bs l).size = bs (l.drop k) := by
  apply ba_ext
  have h : (bs l).size = l.length := bs_size l
  rw [h]
  simp [bs, List.take_of_length_le]
theorem bs_get (l : List UInt8) (k : Nat) (h : k < (bs l).size) : (bs l)[k] = l[k]'(by rw [← bs_size]; exact h) := by
  simp [bs, ByteArray.getElem_eq_getElem_data]
theorem bs_append (a b : List UInt8) : bs a ++ bs b = bs (a ++ b) := by apply ba_ext; simp [bs]
def escL : List UInt8 → List UInt8
  | [] => []
  | c :: r => (if c = 34 ∨ c = 92 then [92, c] else if c = 10 then [92, 110] else [c]) ++ escL r
def quoteL (s : List UInt8) : List UInt8 := 34 :: (escL s ++ [34])
theorem escL_append (a b : List UInt8) : escL (a ++ b) = escL a ++ escL b := by
  induction a with
  | nil => rfl
  | cons c r ih => simp only [List.cons_append, escL, ih, List.append_assoc]
theorem escL_len (a : List UInt8) : (escL a).length ≤ 2 * a.length := by
  induction a with
  | nil => simp [escL]
  | cons c r ih => simp only [escL, List.length_append, List.length_cons]; split; · simp; omega
                   split <;> simp <;> omega
theorem escL_take (s : List UInt8) (k : Nat) (h : k < s.length) : escL (s.take (k + 1)) = escL (s.take k) ++ escL [s[k]] := by
  rw [List.take_succ_eq_append_getElem h, escL_append]

end Go.Proofs.YtehcbicngbibgaaGreatDoor

/- The reference's Quoted. -/
namespace Go.Proofs.YtehcbicngbibgaaGreatDoor
open Go Go.RowKit
set_option maxHeartbeats 4000000 in
set_option maxRecDepth 100000 in
theorem refQuoted_any (s : List UInt8) (w : World) (hlen : s.length ≤ 35184372088832) :
    Calls Tryz.prog 91 #[.string (bs s)] w fun e w' => e = .returned (.string (bs (quoteL s))) ∧ Below w.heap.size w w' := by
  obtain ⟨i0, hi, hz0, hz1, hz2⟩ := info_parts infoByte
  have hsz := bs_size s
  have hgg : Hid (∀ (k : Nat) (hk : k < s.length) (h : k < (bs s).size), (bs s)[k]'h = s[k]'hk) := fun k hk h => bs_get s k h
  generalize bs s = S at *
  go_enter Tryz.func91, Tryz.ntmps91
  go_wp2_with (at_builtin; refine wpList_append_own _ rfl _ _ 66 rfl w.heap.size 5 i0 (.int .u8 0) 1 1 Tryz.underlying66 hi hz0 hz1 hz2 rfl (by decide) _ _ _ rfl (World.ownsRow_nil _ _ _ _) ⟨w.heap.size, 0, none⟩ 1 1 [.int .u8 34] rfl rfl ?c1 ?c2 ?c3 ?c4 ?c5 ?_)
  case c1 =>
    intro j u hj
    match j, hj with
    | 0, hj => simp at hj; subst hj; simp [Addr.add]
  case c2 => intro u hu; simp at hu; subst hu; rfl
  case c3 => unfold maxLen; omega
  case c4 => omega
  case c5 => simp
  intro v0 w0 hown' hgrow _
  have ho0 : w0.ownsRow w.heap.size 5 1 v0 (34 :: escL (s.take 0)).length (Lib.byteCells (34 :: escL (s.take 0))) := hown'
  have hbel0 := ((Below.refl _ w).alloc (Nat.le_refl _) _).grown hgrow (by simp) (fun k hk => by simp [Value.ownBlock] at hk)
  clear hown' hgrow
  go_wp2
  go_loopw [3, 4] (fun b i wr => ∃ k : Nat, k ≤ s.length ∧ i = .int .i64 k ∧ wr.ownsRow w.heap.size 5 1 b (34 :: escL (s.take k)).length (Lib.byteCells (34 :: escL (s.take k))) ∧ Below w.heap.size w wr) (fun _ i _ => s.length - (intOf i).toNat)
  case atStart => exact ⟨0, Nat.zero_le _, rfl, ho0, hbel0⟩
  case round =>
    obtain ⟨k, hk, rfl, ho, hbel⟩ := hrel
    clear ho0 hbel0
    have hel := escL_len (s.take k)
    have htl := List.length_take_le k s
    by_cases hlt : k < s.length
    · have hg : ∀ h, S[k]'h = s[k] := fun h => hgg.out k hlt h
      have hs := Lib.hid (escL_take s k hlt)
      generalize s[k] = c at *
      have hln : (34 :: escL (s.take k)).length ≤ 70368744177665 := by simp; omega
      by_cases c1 : c = 34 ∨ c = 92
      · have t1 : Hid True := trivial
        rcases c1 with rfl | rfl
        · skip
          replace hs := hs
          go_wp2_with (at_builtin; refine wpList_append_own _ rfl _ _ 66 rfl w.heap.size 5 i0 (.int .u8 0) 1 1 Tryz.underlying66 hi hz0 hz1 hz2 rfl (by decide) _ _ _ rfl (ho.alloc _) ⟨wr.heap.size, 0, none⟩ 2 2 [.int .u8 92, .int .u8 34] rfl rfl ?c1 ?c2 ?c3 ?c4 ?c5 ?_)
          case c1 =>
            intro j u hj
            match j, hj with
            | 0, hj => simp at hj; subst hj; simp [Addr.add]
            | 1, hj => simp at hj; subst hj; simp [Addr.add]
          case c2 => intro u hu; simp at hu; (try rcases hu with rfl | rfl) <;> (try subst hu) <;> rfl
          case c3 => unfold maxLen; omega
          case c4 => omega
          case c5 => have := hbel.size; simp; omega
          intro v' w2 hown' hgrow _
          have hown2 : Hid (w2.ownsRow w.heap.size 5 1 v' (34 :: escL (s.take (k + 1))).length (Lib.byteCells (34 :: escL (s.take (k + 1))))) := by
            have e : 34 :: escL (s.take (k + 1)) = (34 :: escL (s.take k)) ++ [92, 34] := by rw [hs.out]; simp [escL, if_true]
            rw [e, List.length_append]
            show w2.ownsRow _ _ _ _ _ (Lib.byteCells _)
            simpa [Lib.byteCells] using hown'
          have hbel2 := Lib.hid ((hbel.alloc (by have := hbel.size; omega) _).grown hgrow (by have := hbel.size; simp; omega) (fun k hk => (ho.lt k hk).1))
          clear hown' hgrow ho hbel
          go_wp2
          go_roundw
          case rel => exact ⟨k + 1, by omega, by go_num, hown2.out, hbel2.out⟩
          case measure => simp [intOf]; omega
        · skip
          replace hs := hs
          go_wp2_with (at_builtin; refine wpList_append_own _ rfl _ _ 66 rfl w.heap.size 5 i0 (.int .u8 0) 1 1 Tryz.underlying66 hi hz0 hz1 hz2 rfl (by decide) _ _ _ rfl (ho.alloc _) ⟨wr.heap.size, 0, none⟩ 2 2 [.int .u8 92, .int .u8 92] rfl rfl ?c1 ?c2 ?c3 ?c4 ?c5 ?_)
          case c1 =>
            intro j u hj
            match j, hj with
            | 0, hj => simp at hj; subst hj; simp [Addr.add]
            | 1, hj => simp at hj; subst hj; simp [Addr.add]
          case c2 => intro u hu; simp at hu; (try rcases hu with rfl | rfl) <;> (try subst hu) <;> rfl
          case c3 => unfold maxLen; omega
          case c4 => omega
          case c5 => have := hbel.size; simp; omega
          intro v' w2 hown' hgrow _
          have hown2 : Hid (w2.ownsRow w.heap.size 5 1 v' (34 :: escL (s.take (k + 1))).length (Lib.byteCells (34 :: escL (s.take (k + 1))))) := by
            have e : 34 :: escL (s.take (k + 1)) = (34 :: escL (s.take k)) ++ [92, 92] := by rw [hs.out]; simp [escL, if_true]
            rw [e, List.length_append]
            show w2.ownsRow _ _ _ _ _ (Lib.byteCells _)
            simpa [Lib.byteCells] using hown'
          have hbel2 := Lib.hid ((hbel.alloc (by have := hbel.size; omega) _).grown hgrow (by have := hbel.size; simp; omega) (fun k hk => (ho.lt k hk).1))
          clear hown' hgrow ho hbel
          go_wp2
          go_roundw
          case rel => exact ⟨k + 1, by omega, by go_num, hown2.out, hbel2.out⟩
          case measure => simp [intOf]; omega
      · by_cases c2 : c = 10
        · subst c2
          go_wp2_with (at_builtin; refine wpList_append_own _ rfl _ _ 66 rfl w.heap.size 5 i0 (.int .u8 0) 1 1 Tryz.underlying66 hi hz0 hz1 hz2 rfl (by decide) _ _ _ rfl (ho.alloc _) ⟨wr.heap.size, 0, none⟩ 2 2 [.int .u8 92, .int .u8 110] rfl rfl ?c1 ?c2 ?c3 ?c4 ?c5 ?_)
          case c1 =>
            intro j u hj
            match j, hj with
            | 0, hj => simp at hj; subst hj; simp [Addr.add]
            | 1, hj => simp at hj; subst hj; simp [Addr.add]
          case c2 => intro u hu; simp at hu; (try rcases hu with rfl | rfl) <;> (try subst hu) <;> rfl
          case c3 => unfold maxLen; omega
          case c4 => omega
          case c5 => have := hbel.size; simp; omega
          intro v' w2 hown' hgrow _
          have hown2 : Hid (w2.ownsRow w.heap.size 5 1 v' (34 :: escL (s.take (k + 1))).length (Lib.byteCells (34 :: escL (s.take (k + 1))))) := by
            have e : 34 :: escL (s.take (k + 1)) = (34 :: escL (s.take k)) ++ [92, 110] := by rw [hs.out]; simp [escL, if_true]
            rw [e, List.length_append]
            show w2.ownsRow _ _ _ _ _ (Lib.byteCells _)
            simpa [Lib.byteCells] using hown'
          have hbel2 := Lib.hid ((hbel.alloc (by have := hbel.size; omega) _).grown hgrow (by have := hbel.size; simp; omega) (fun k hk => (ho.lt k hk).1))
          clear hown' hgrow ho hbel
          go_wp2
          go_roundw
          case rel => exact ⟨k + 1, by omega, by go_num, hown2.out, hbel2.out⟩
          case measure => simp [intOf]; omega
        · have t1 : ((c.toNat : Int) == 34) = false := by
            rw [beq_eq_false_iff_ne]; intro h; apply c1; left; apply UInt8.toNat_inj.1; simp; omega
          have t2 : ((c.toNat : Int) == 92) = false := by
            rw [beq_eq_false_iff_ne]; intro h; apply c1; right; apply UInt8.toNat_inj.1; simp; omega
          have t3 : ((c.toNat : Int) == 10) = false := by
            rw [beq_eq_false_iff_ne]; intro h; apply c2; apply UInt8.toNat_inj.1; simp; omega
          have c1' := Lib.hid c1
          have c2' := Lib.hid c2
          clear c1 c2
          go_wp2_with (at_builtin; refine wpList_append_own _ rfl _ _ 66 rfl w.heap.size 5 i0 (.int .u8 0) 1 1 Tryz.underlying66 hi hz0 hz1 hz2 rfl (by decide) _ _ _ rfl (ho.alloc _) ⟨wr.heap.size, 0, none⟩ 1 1 [.int .u8 (c.toNat : Int)] rfl rfl ?c1 ?c2 ?c3 ?c4 ?c5 ?_)
          case c1 =>
            intro j u hj
            match j, hj with
            | 0, hj => simp at hj; subst hj; simp [Addr.add]
          case c2 => intro u hu; simp at hu; (try rcases hu with rfl | rfl) <;> (try subst hu) <;> rfl
          case c3 => unfold maxLen; omega
          case c4 => omega
          case c5 => have := hbel.size; simp; omega
          intro v' w2 hown' hgrow _
          have hown2 : Hid (w2.ownsRow w.heap.size 5 1 v' (34 :: escL (s.take (k + 1))).length (Lib.byteCells (34 :: escL (s.take (k + 1))))) := by
            have e : 34 :: escL (s.take (k + 1)) = (34 :: escL (s.take k)) ++ [c] := by rw [hs.out]; simp [escL, c1'.out, c2'.out]
            rw [e, List.length_append]
            show w2.ownsRow _ _ _ _ _ (Lib.byteCells _)
            simpa [Lib.byteCells] using hown'
          have hbel2 := Lib.hid ((hbel.alloc (by have := hbel.size; omega) _).grown hgrow (by have := hbel.size; simp; omega) (fun k hk => (ho.lt k hk).1))
          clear hown' hgrow ho hbel
          go_wp2
          go_roundw
          case rel => exact ⟨k + 1, by omega, by go_num, hown2.out, hbel2.out⟩
          case measure => simp [intOf]; omega
    · obtain rfl : k = s.length := by omega
      rw [List.take_length] at ho hel
      have hln : (34 :: escL s).length ≤ 70368744177665 := by simp; omega
      go_wp2_with (at_builtin; refine wpList_append_own _ rfl _ _ 66 rfl w.heap.size 5 i0 (.int .u8 0) 1 1 Tryz.underlying66 hi hz0 hz1 hz2 rfl (by decide) _ _ _ rfl (ho.alloc _) ⟨wr.heap.size, 0, none⟩ 1 1 [.int .u8 34] rfl rfl ?c1 ?c2 ?c3 ?c4 ?c5 ?_)
      case c1 =>
        intro j u hj
        match j, hj with
        | 0, hj => simp at hj; subst hj; simp [Addr.add]
      case c2 => intro u hu; simp at hu; subst hu; rfl
      case c3 => unfold maxLen; omega
      case c4 => omega
      case c5 => have := hbel.size; simp; omega
      intro v' w2 hown' hgrow _
      have hown2 : w2.ownsRow w.heap.size 5 1 v' (quoteL s).length (Lib.byteCells (quoteL s)) := by
        simpa [quoteL, Lib.byteCells] using hown'
      have hbel2 := Lib.hid ((hbel.alloc (by have := hbel.size; omega) _).grown hgrow (by have := hbel.size; simp; omega) (fun k hk => (ho.lt k hk).1))
      clear hown' hgrow ho hbel
      obtain ⟨g, cap, rfl⟩ : ∃ g cap, v' = .slice (some ⟨g, 0, none⟩) (quoteL s).length cap := by
        rcases hown2.2 with ⟨_, h0⟩ | ⟨g, cap, cur, hv, _⟩
        · simp [quoteL] at h0
        · exact ⟨g, cap, hv⟩
      have hcv := run_convert_bytes_back (P := Tryz.prog) w2 66 9 5 ⟨g, 0, none⟩ cap (quoteL s) Tryz.underlying66 Tryz.underlying5 Tryz.underlying9 (fun j hj => by
        have := hown2.cells rfl j (.int .u8 ((quoteL s)[j].toNat : Int)) (by simp [Lib.byteCells, hj])
        exact this)
      clear hown2
      generalize (quoteL s).length = qn at hcv ⊢
      go_wp2
      go_ret
      exact ⟨rfl, hbel2.out⟩
end Go.Proofs.YtehcbicngbibgaaGreatDoor

/- Names; the reference's Check of the three plain kinds. -/
namespace Go.Proofs.YtehcbicngbibgaaGreatDoor
open Go Go.RowKit
def nameB (s : ByteArray) : Bool := decide (0 < s.size) && decide (s.size ≤ 4096)
theorem size_zero {s : ByteArray} (h : ¬ 0 < s.size) : s = ⟨#[]⟩ := by
  have : s.size = 0 := by omega
  cases s; simp [ByteArray.size] at this; simp [this]
theorem ne_empty {s : ByteArray} (h : 0 < s.size) : ¬ s.toList = [] := by
  rw [ByteArray.toList_eq]
  intro e
  rw [size_list, e] at h
  exact absurd h (by decide)
set_option maxHeartbeats 1000000 in
set_option maxRecDepth 100000 in
theorem refName_any (s : ByteArray) (w : World) (hs : s.size ≤ 140737488355328) :
    Calls Tryz.prog 89 #[.string s] w fun e w' => e = .returned (.bool (nameB s)) ∧ w' = w := by
  unfold nameB
  go_enter Tryz.func89, Tryz.ntmps89
  by_cases h0 : 0 < s.size
  · by_cases h1 : s.size ≤ 4096
    · go_wp2
      go_ret
      simp [h0, h1] <;> omega
    · go_wp2
      go_ret
      simp [h0, h1] <;> omega
  · go_wp2
    go_ret
    simp <;> omega
set_option maxHeartbeats 1000000 in
set_option maxRecDepth 100000 in
theorem showName_any (s : ByteArray) (w : World) (hs : s.size ≤ 140737488355328) :
    Calls Tryz.prog 82 #[.string s] w fun e w' => e = .returned (.bool (nameB s)) ∧ w' = w := by
  unfold nameB
  go_enter Tryz.func82, Tryz.ntmps82
  by_cases h0 : 0 < s.size
  · have he := ne_empty h0
    by_cases h1 : s.size ≤ 4096
    · go_wp2
      go_ret
      simp [h0, h1, he] <;> omega
    · go_wp2
      go_ret
      simp [h0, h1, he] <;> omega
  · obtain rfl := size_zero h0
    go_wp2
    go_ret
    exact ⟨rfl, rfl⟩
set_option maxHeartbeats 1000000 in
set_option maxRecDepth 100000 in
theorem valName_any (s : ByteArray) (w : World) (hs : s.size ≤ 140737488355328) :
    Calls Tryz.prog 150 #[.string s] w fun e w' => e = .returned (.bool (nameB s)) ∧ w' = w := by
  unfold nameB
  go_enter Tryz.func150, Tryz.ntmps150
  by_cases h0 : 0 < s.size
  · have he := ne_empty h0
    by_cases h1 : s.size ≤ 4096
    · go_wp2
      go_ret
      simp [h0, h1, he] <;> omega
    · go_wp2
      go_ret
      simp [h0, h1, he] <;> omega
  · obtain rfl := size_zero h0
    go_wp2
    go_ret
    exact ⟨rfl, rfl⟩
end Go.Proofs.YtehcbicngbibgaaGreatDoor

/- The reference's Check of the three plain kinds; which attributes it lets in. -/
namespace Go.Proofs.YtehcbicngbibgaaGreatDoor
open Go Go.RowKit
def restB (ln fn : Nat) (el : Int) (key : ByteArray) (hk : Bool) : Bool := decide (ln = 0) && decide (fn = 0) && decide (el = 0) && decide (key.size = 0) && !hk
theorem size_empty : (⟨#[]⟩ : ByteArray).size = 0 := rfl
theorem toList_empty : (⟨#[]⟩ : ByteArray).toList = [] := by rw [ByteArray.toList_eq]
set_option maxHeartbeats 2000000 in
set_option maxRecDepth 100000 in
theorem onlyN_any (κ n : Int) (s : ByteArray) (la fa : Option Addr) (ln lc fn fc : Nat) (el : Int) (key : ByteArray) (hk : Bool) (w : World) (hln : ln ≤ 1152921504606846976) (hfn : fn ≤ 1152921504606846976) :
    Calls Tryz.prog 186 #[.agg #[.int .u8 κ, .int .i64 n, .string s, .slice la ln lc, .slice fa fn fc, .int .u8 el, .string key, .bool hk], .bool true, .bool false, .bool false, .bool false] w fun e w' =>
      e = .returned (.bool (decide (s.size = 0) && restB ln fn el key hk)) ∧ Below w.heap.size w w' := by
  unfold restB
  go_enter Tryz.func186, Tryz.ntmps186
  have hb : Hid (Below w.heap.size w (w.alloc (.cells #[.int .u8 κ, .int .i64 n, .string s, .slice la ln lc, .slice fa fn fc, .int .u8 el, .string key, .bool hk] 59))) := Lib.hid ((Below.refl _ w).alloc (Nat.le_refl _) _)
  by_cases h1 : 0 < s.size
  · have e1 := ne_empty h1
    go_wp2
    go_ret
    exact ⟨by rw [decide_eq_false (by omega : ¬ s.size = 0)]; rfl, hb.out⟩
  obtain rfl := size_zero h1
  by_cases h2 : ln = 0
  case neg =>
    go_wp2
    go_ret
    exact ⟨by simp_all, hb.out⟩
  subst h2
  by_cases h3 : fn = 0
  case neg =>
    go_wp2
    go_ret
    exact ⟨by simp_all, hb.out⟩
  subst h3
  by_cases h4 : el = 0
  case neg =>
    go_wp2
    go_ret
    exact ⟨by simp_all, hb.out⟩
  subst h4
  by_cases h5 : 0 < key.size
  · have e1 := ne_empty h5
    go_wp2
    go_ret
    exact ⟨by first | (rw [decide_eq_false (by omega : ¬ key.size = 0)]; simp) | (rw [decide_eq_false (by rintro rfl; exact absurd h5 (by decide) : ¬ key = ByteArray.empty)]; rfl), hb.out⟩
  obtain rfl := size_zero h5
  cases hk
  all_goals
    go_wp2
    go_ret
    exact ⟨rfl, hb.out⟩
set_option maxHeartbeats 2000000 in
set_option maxRecDepth 100000 in
theorem onlyS_any (κ n : Int) (s : ByteArray) (la fa : Option Addr) (ln lc fn fc : Nat) (el : Int) (key : ByteArray) (hk : Bool) (w : World) (hln : ln ≤ 1152921504606846976) (hfn : fn ≤ 1152921504606846976) :
    Calls Tryz.prog 186 #[.agg #[.int .u8 κ, .int .i64 n, .string s, .slice la ln lc, .slice fa fn fc, .int .u8 el, .string key, .bool hk], .bool false, .bool true, .bool false, .bool false] w fun e w' =>
      e = .returned (.bool (decide (n = 0) && restB ln fn el key hk)) ∧ Below w.heap.size w w' := by
  unfold restB
  go_enter Tryz.func186, Tryz.ntmps186
  have hb : Hid (Below w.heap.size w (w.alloc (.cells #[.int .u8 κ, .int .i64 n, .string s, .slice la ln lc, .slice fa fn fc, .int .u8 el, .string key, .bool hk] 59))) := Lib.hid ((Below.refl _ w).alloc (Nat.le_refl _) _)
  by_cases h1 : n = 0
  case neg =>
    go_wp2
    go_ret
    exact ⟨by simp_all, hb.out⟩
  subst h1
  by_cases h2 : ln = 0
  case neg =>
    go_wp2
    go_ret
    exact ⟨by simp_all, hb.out⟩
  subst h2
  by_cases h3 : fn = 0
  case neg =>
    go_wp2
    go_ret
    exact ⟨by simp_all, hb.out⟩
  subst h3
  by_cases h4 : el = 0
  case neg =>
    go_wp2
    go_ret
    exact ⟨by simp_all, hb.out⟩
  subst h4
  by_cases h5 : 0 < key.size
  · have e1 := ne_empty h5
    go_wp2
    go_ret
    exact ⟨by first | (rw [decide_eq_false (by omega : ¬ key.size = 0)]; simp) | (rw [decide_eq_false (by rintro rfl; exact absurd h5 (by decide) : ¬ key = ByteArray.empty)]; rfl), hb.out⟩
  obtain rfl := size_zero h5
  cases hk
  all_goals
    go_wp2
    go_ret
    exact ⟨rfl, hb.out⟩
/-- What a plain value's own Check asks. -/
def plainB (v : Val) : Bool := restB v.L.length v.F.length v.elem v.key v.hk && (if v.kind = 1 then decide (v.s.size = 0) else if v.kind = 2 then decide (v.s.size = 0) && (decide (v.n = 0) || decide (v.n = 1)) else decide (v.n = 0) && decide (v.s.size ≤ 4096))
def kindB (v : Val) : Bool := decide (v.kind = 1) || decide (v.kind = 2) || decide (v.kind = 3)
def attrB (v : Val) : Bool := kindB v && plainB v
end Go.Proofs.YtehcbicngbibgaaGreatDoor

/- The reference's shaped, Check, Attr; of the three plain kinds. -/
namespace Go.Proofs.YtehcbicngbibgaaGreatDoor
open Go Go.RowKit
def plainP (κ n : Int) (s : ByteArray) (ln fn : Nat) (el : Int) (key : ByteArray) (hk : Bool) : Bool := restB ln fn el key hk && (if κ = 1 then decide (s.size = 0) else if κ = 2 then decide (s.size = 0) && (decide (n = 0) || decide (n = 1)) else decide (n = 0) && decide (s.size ≤ 4096))
set_option maxHeartbeats 2000000 in
set_option maxRecDepth 100000 in
theorem shaped_any (κ n : Int) (s : ByteArray) (la fa : Option Addr) (ln lc fn fc : Nat) (el : Int) (key : ByteArray) (hk : Bool) (w : World) (hκ : κ = 1 ∨ κ = 2 ∨ κ = 3) (hln : ln ≤ 1152921504606846976) (hfn : fn ≤ 1152921504606846976) (hs : s.size ≤ 140737488355328) :
    Calls Tryz.prog 175 #[.agg #[.int .u8 κ, .int .i64 n, .string s, .slice la ln lc, .slice fa fn fc, .int .u8 el, .string key, .bool hk]] w fun e w' => e = .returned (.bool (plainP κ n s ln fn el key hk)) ∧ Below w.heap.size w w' := by
  obtain ⟨S, hS⟩ : ∃ S, S = w.alloc (.cells #[.int .u8 κ, .int .i64 n, .string s, .slice la ln lc, .slice fa fn fc, .int .u8 el, .string key, .bool hk] 59) := ⟨_, rfl⟩
  have hbS : Below w.heap.size w S := by rw [hS]; exact (Below.refl _ _).alloc (Nat.le_refl _) _
  have hrS : S.heap[w.heap.size]? = some (.cells #[.int .u8 κ, .int .i64 n, .string s, .slice la ln lc, .slice fa fn fc, .int .u8 el, .string key, .bool hk] 59 (0, 0)) := by rw [hS]; exact heap_alloc_new w _
  have hzS : S.heap.size = w.heap.size + 1 := by rw [hS]; simp
  have x0 : S.cell? ⟨w.heap.size, 0, none⟩ = some (.int .u8 κ) := by simp [World.cell?, hrS]
  have x1 : S.cell? ⟨w.heap.size, 1, none⟩ = some (.int .i64 n) := by simp [World.cell?, hrS]
  have x2 : S.cell? ⟨w.heap.size, 2, none⟩ = some (.string s) := by simp [World.cell?, hrS]
  have x3 : S.cell? ⟨w.heap.size, 3, none⟩ = some (.slice la ln lc) := by simp [World.cell?, hrS]
  have x4 : S.cell? ⟨w.heap.size, 4, none⟩ = some (.slice fa fn fc) := by simp [World.cell?, hrS]
  have x5 : S.cell? ⟨w.heap.size, 5, none⟩ = some (.int .u8 el) := by simp [World.cell?, hrS]
  have x6 : S.cell? ⟨w.heap.size, 6, none⟩ = some (.string key) := by simp [World.cell?, hrS]
  have x7 : S.cell? ⟨w.heap.size, 7, none⟩ = some (.bool hk) := by simp [World.cell?, hrS]
  have hWS : Hid (S = _) := hS
  replace hrS := Lib.hid hrS
  clear hS
  have cN := onlyN_any κ n s la fa ln lc fn fc el key hk S hln hfn
  have cS := onlyS_any κ n s la fa ln lc fn fc el key hk S hln hfn
  obtain ⟨V, hV⟩ : ∃ V, V = plainP κ n s ln fn el key hk := ⟨_, rfl⟩
  rw [← hV]
  unfold plainP at hV
  obtain ⟨R, hR⟩ : ∃ R, R = restB ln fn el key hk := ⟨_, rfl⟩
  rw [← hR] at hV cN cS
  obtain ⟨b1, hb1⟩ : ∃ b : Bool, b = (decide (s.size = 0) && R) := ⟨_, rfl⟩
  rw [← hb1] at cN
  obtain ⟨b2, hb2⟩ : ∃ b : Bool, b = (decide (n = 0) && R) := ⟨_, rfl⟩
  rw [← hb2] at cS
  have hf : if κ = 1 then V = b1 else if κ = 2 then V = (b1 && (decide (n = 0) || decide (n = 1))) else V = (b2 && decide (s.size ≤ 4096)) := by
    rw [hV]
    split
    · rw [hb1, Bool.and_comm]
    · split
      · rw [hb1, ← Bool.and_assoc, Bool.and_comm R]
      · rw [hb2, ← Bool.and_assoc, Bool.and_comm R]
  replace hf := Lib.hid hf
  replace hb1 := Lib.hid hb1
  replace hb2 := Lib.hid hb2
  replace hR := Lib.hid hR
  replace hV := Lib.hid hV
  replace cN := Lib.hid cN
  replace cS := Lib.hid cS
  replace hbS := Lib.hid hbS
  rcases hκ with rfl | rfl | rfl
  · go_enter Tryz.func175, Tryz.ntmps175
    go_wp2_with (first | (rw [← hWS.out]) | (go_at_call 186; refine cN.out.mono ?_))
    first | rintro e w3 rfl hb3 | rintro e w3 ⟨rfl, hb3⟩
    have x0' := (hb3.cell (p := ⟨w.heap.size, 0, none⟩) (by show w.heap.size < _; omega)).trans x0
    have x1' := (hb3.cell (p := ⟨w.heap.size, 1, none⟩) (by show w.heap.size < _; omega)).trans x1
    have x2' := (hb3.cell (p := ⟨w.heap.size, 2, none⟩) (by show w.heap.size < _; omega)).trans x2
    have x3' := (hb3.cell (p := ⟨w.heap.size, 3, none⟩) (by show w.heap.size < _; omega)).trans x3
    have x4' := (hb3.cell (p := ⟨w.heap.size, 4, none⟩) (by show w.heap.size < _; omega)).trans x4
    have x5' := (hb3.cell (p := ⟨w.heap.size, 5, none⟩) (by show w.heap.size < _; omega)).trans x5
    have x6' := (hb3.cell (p := ⟨w.heap.size, 6, none⟩) (by show w.heap.size < _; omega)).trans x6
    have x7' := (hb3.cell (p := ⟨w.heap.size, 7, none⟩) (by show w.heap.size < _; omega)).trans x7
    clear x0 x1 x2 x3 x4 x5 x6 x7
    have hb3' := Lib.hid (hbS.out.trans (hb3.mono (by omega)))
    clear hb3
    replace hf := Lib.hid (show V = b1 from hf.out)
    go_wp2_with fail
    go_ret
    exact ⟨by rw [hf.out]; rfl, hb3'.out⟩
  · go_enter Tryz.func175, Tryz.ntmps175
    go_wp2_with (first | (rw [← hWS.out]) | (go_at_call 186; refine cN.out.mono ?_))
    first | rintro e w3 rfl hb3 | rintro e w3 ⟨rfl, hb3⟩
    have x0' := (hb3.cell (p := ⟨w.heap.size, 0, none⟩) (by show w.heap.size < _; omega)).trans x0
    have x1' := (hb3.cell (p := ⟨w.heap.size, 1, none⟩) (by show w.heap.size < _; omega)).trans x1
    have x2' := (hb3.cell (p := ⟨w.heap.size, 2, none⟩) (by show w.heap.size < _; omega)).trans x2
    have x3' := (hb3.cell (p := ⟨w.heap.size, 3, none⟩) (by show w.heap.size < _; omega)).trans x3
    have x4' := (hb3.cell (p := ⟨w.heap.size, 4, none⟩) (by show w.heap.size < _; omega)).trans x4
    have x5' := (hb3.cell (p := ⟨w.heap.size, 5, none⟩) (by show w.heap.size < _; omega)).trans x5
    have x6' := (hb3.cell (p := ⟨w.heap.size, 6, none⟩) (by show w.heap.size < _; omega)).trans x6
    have x7' := (hb3.cell (p := ⟨w.heap.size, 7, none⟩) (by show w.heap.size < _; omega)).trans x7
    clear x0 x1 x2 x3 x4 x5 x6 x7
    have hb3' := Lib.hid (hbS.out.trans (hb3.mono (by omega)))
    clear hb3
    replace hf := Lib.hid (show V = (b1 && (decide (n = 0) || decide (n = 1))) from hf.out)
    cases b1
    · go_wp2_with fail
      go_ret
      exact ⟨by rw [hf.out]; rfl, hb3'.out⟩
    · by_cases h0 : n = 0
      · subst h0
        go_wp2_with fail
        go_ret
        exact ⟨by rw [hf.out]; rfl, hb3'.out⟩
      · by_cases h1 : n = 1
        · subst h1
          go_wp2_with fail
          go_ret
          exact ⟨by rw [hf.out]; rfl, hb3'.out⟩
        · go_wp2_with fail
          go_ret
          exact ⟨by rw [hf.out]; simp [h0, h1], hb3'.out⟩
  · go_enter Tryz.func175, Tryz.ntmps175
    go_wp2_with (first | (rw [← hWS.out]) | (go_at_call 186; refine cS.out.mono ?_))
    first | rintro e w3 rfl hb3 | rintro e w3 ⟨rfl, hb3⟩
    have x0' := (hb3.cell (p := ⟨w.heap.size, 0, none⟩) (by show w.heap.size < _; omega)).trans x0
    have x1' := (hb3.cell (p := ⟨w.heap.size, 1, none⟩) (by show w.heap.size < _; omega)).trans x1
    have x2' := (hb3.cell (p := ⟨w.heap.size, 2, none⟩) (by show w.heap.size < _; omega)).trans x2
    have x3' := (hb3.cell (p := ⟨w.heap.size, 3, none⟩) (by show w.heap.size < _; omega)).trans x3
    have x4' := (hb3.cell (p := ⟨w.heap.size, 4, none⟩) (by show w.heap.size < _; omega)).trans x4
    have x5' := (hb3.cell (p := ⟨w.heap.size, 5, none⟩) (by show w.heap.size < _; omega)).trans x5
    have x6' := (hb3.cell (p := ⟨w.heap.size, 6, none⟩) (by show w.heap.size < _; omega)).trans x6
    have x7' := (hb3.cell (p := ⟨w.heap.size, 7, none⟩) (by show w.heap.size < _; omega)).trans x7
    clear x0 x1 x2 x3 x4 x5 x6 x7
    have hb3' := Lib.hid (hbS.out.trans (hb3.mono (by omega)))
    clear hb3
    replace hf := Lib.hid (show V = (b2 && decide (s.size ≤ 4096)) from hf.out)
    cases b2
    · go_wp2_with fail
      go_ret
      exact ⟨by rw [hf.out]; rfl, hb3'.out⟩
    · by_cases h0 : s.size ≤ 4096
      · have h0' : (s.size : Int) ≤ 4096 := by omega
        go_wp2_with fail
        go_ret
        exact ⟨by rw [hf.out, decide_eq_true h0]; first | rfl | (rw [decide_eq_true h0']; rfl) | simp [h0'], hb3'.out⟩
      · have h0' : ¬ (s.size : Int) ≤ 4096 := by omega
        go_wp2_with fail
        go_ret
        exact ⟨by rw [hf.out, decide_eq_false h0]; first | rfl | (rw [decide_eq_false h0']; rfl) | simp [h0'], hb3'.out⟩
end Go.Proofs.YtehcbicngbibgaaGreatDoor

/- The reference's Size, Deep of a value with no parts; its Check, Attr. -/
namespace Go.Proofs.YtehcbicngbibgaaGreatDoor
open Go Go.RowKit
set_option maxHeartbeats 2000000 in
set_option maxRecDepth 100000 in
theorem sizeE_any (κ n : Int) (s : ByteArray) (la fa : Option Addr) (lc fc : Nat) (el : Int) (key : ByteArray) (hk : Bool) (w : World) :
    Calls Tryz.prog 176 #[.agg #[.int .u8 κ, .int .i64 n, .string s, .slice la 0 lc, .slice fa 0 fc, .int .u8 el, .string key, .bool hk]] w fun e w' => e = .returned (.int .i64 1) ∧ Below w.heap.size w w' := by
  obtain ⟨S, hS⟩ : ∃ S, S = w.alloc (.cells #[.int .u8 κ, .int .i64 n, .string s, .slice la 0 lc, .slice fa 0 fc, .int .u8 el, .string key, .bool hk] 59) := ⟨_, rfl⟩
  have hbS : Below w.heap.size w S := by rw [hS]; exact (Below.refl _ _).alloc (Nat.le_refl _) _
  have hrS : S.heap[w.heap.size]? = some (.cells #[.int .u8 κ, .int .i64 n, .string s, .slice la 0 lc, .slice fa 0 fc, .int .u8 el, .string key, .bool hk] 59 (0, 0)) := by rw [hS]; exact heap_alloc_new w _
  have hzS : S.heap.size = w.heap.size + 1 := by rw [hS]; simp
  have x0 : S.cell? ⟨w.heap.size, 0, none⟩ = some (.int .u8 κ) := by simp [World.cell?, hrS]
  have x1 : S.cell? ⟨w.heap.size, 1, none⟩ = some (.int .i64 n) := by simp [World.cell?, hrS]
  have x2 : S.cell? ⟨w.heap.size, 2, none⟩ = some (.string s) := by simp [World.cell?, hrS]
  have x3 : S.cell? ⟨w.heap.size, 3, none⟩ = some (.slice la 0 lc) := by simp [World.cell?, hrS]
  have x4 : S.cell? ⟨w.heap.size, 4, none⟩ = some (.slice fa 0 fc) := by simp [World.cell?, hrS]
  have x5 : S.cell? ⟨w.heap.size, 5, none⟩ = some (.int .u8 el) := by simp [World.cell?, hrS]
  have x6 : S.cell? ⟨w.heap.size, 6, none⟩ = some (.string key) := by simp [World.cell?, hrS]
  have x7 : S.cell? ⟨w.heap.size, 7, none⟩ = some (.bool hk) := by simp [World.cell?, hrS]
  have hWS : Hid (S = _) := hS
  replace hrS := Lib.hid hrS
  clear hS
  replace hbS := Lib.hid hbS
  go_enter Tryz.func176, Tryz.ntmps176
  go_wp2_with (first | (rw [← hWS.out]))
  go_loop [3, 4] (fun u i => u = .int .i64 1 ∧ i = .int .i64 0) (fun _ _ => 0)
  case atStart => exact ⟨rfl, rfl⟩
  case round =>
    obtain ⟨rfl, rfl⟩ := hrel
    go_wp2
    go_loop [3, 5] (fun u i => u = .int .i64 1 ∧ i = .int .i64 0) (fun _ _ => 0)
    case atStart => exact ⟨rfl, rfl⟩
    case round =>
      obtain ⟨rfl, rfl⟩ := hrel
      go_wp2
      go_ret
      exact ⟨rfl, hbS.out⟩
set_option maxHeartbeats 2000000 in
set_option maxRecDepth 100000 in
theorem deepE_any (κ n : Int) (s : ByteArray) (la fa : Option Addr) (lc fc : Nat) (el : Int) (key : ByteArray) (hk : Bool) (w : World) :
    Calls Tryz.prog 177 #[.agg #[.int .u8 κ, .int .i64 n, .string s, .slice la 0 lc, .slice fa 0 fc, .int .u8 el, .string key, .bool hk]] w fun e w' => e = .returned (.int .i64 1) ∧ Below w.heap.size w w' := by
  obtain ⟨S, hS⟩ : ∃ S, S = w.alloc (.cells #[.int .u8 κ, .int .i64 n, .string s, .slice la 0 lc, .slice fa 0 fc, .int .u8 el, .string key, .bool hk] 59) := ⟨_, rfl⟩
  have hbS : Below w.heap.size w S := by rw [hS]; exact (Below.refl _ _).alloc (Nat.le_refl _) _
  have hrS : S.heap[w.heap.size]? = some (.cells #[.int .u8 κ, .int .i64 n, .string s, .slice la 0 lc, .slice fa 0 fc, .int .u8 el, .string key, .bool hk] 59 (0, 0)) := by rw [hS]; exact heap_alloc_new w _
  have hzS : S.heap.size = w.heap.size + 1 := by rw [hS]; simp
  have x0 : S.cell? ⟨w.heap.size, 0, none⟩ = some (.int .u8 κ) := by simp [World.cell?, hrS]
  have x1 : S.cell? ⟨w.heap.size, 1, none⟩ = some (.int .i64 n) := by simp [World.cell?, hrS]
  have x2 : S.cell? ⟨w.heap.size, 2, none⟩ = some (.string s) := by simp [World.cell?, hrS]
  have x3 : S.cell? ⟨w.heap.size, 3, none⟩ = some (.slice la 0 lc) := by simp [World.cell?, hrS]
  have x4 : S.cell? ⟨w.heap.size, 4, none⟩ = some (.slice fa 0 fc) := by simp [World.cell?, hrS]
  have x5 : S.cell? ⟨w.heap.size, 5, none⟩ = some (.int .u8 el) := by simp [World.cell?, hrS]
  have x6 : S.cell? ⟨w.heap.size, 6, none⟩ = some (.string key) := by simp [World.cell?, hrS]
  have x7 : S.cell? ⟨w.heap.size, 7, none⟩ = some (.bool hk) := by simp [World.cell?, hrS]
  have hWS : Hid (S = _) := hS
  replace hrS := Lib.hid hrS
  clear hS
  replace hbS := Lib.hid hbS
  go_enter Tryz.func177, Tryz.ntmps177
  go_wp2_with (first | (rw [← hWS.out]))
  go_loop [3, 4] (fun u i => u = .int .i64 0 ∧ i = .int .i64 0) (fun _ _ => 0)
  case atStart => exact ⟨rfl, rfl⟩
  case round =>
    obtain ⟨rfl, rfl⟩ := hrel
    go_wp2
    go_loop [3, 5] (fun u i => u = .int .i64 0 ∧ i = .int .i64 0) (fun _ _ => 0)
    case atStart => exact ⟨rfl, rfl⟩
    case round =>
      obtain ⟨rfl, rfl⟩ := hrel
      go_wp2
      go_ret
      exact ⟨rfl, hbS.out⟩
theorem plain_empty {κ n : Int} {s : ByteArray} {ln fn : Nat} {el : Int} {key : ByteArray} {hk : Bool} (h : plainP κ n s ln fn el key hk = true) : ln = 0 ∧ fn = 0 := by
  unfold plainP restB at h
  simp only [Bool.and_eq_true, decide_eq_true_eq] at h
  exact ⟨h.1.1.1.1.1, h.1.1.1.1.2⟩
set_option maxHeartbeats 2000000 in
set_option maxRecDepth 100000 in
theorem refCheck_any (κ n : Int) (s : ByteArray) (la fa : Option Addr) (ln lc fn fc : Nat) (el : Int) (key : ByteArray) (hk : Bool) (w : World) (hκ : κ = 1 ∨ κ = 2 ∨ κ = 3) (hln : ln ≤ 1152921504606846976) (hfn : fn ≤ 1152921504606846976) (hs : s.size ≤ 140737488355328) :
    Calls Tryz.prog 160 #[.agg #[.int .u8 κ, .int .i64 n, .string s, .slice la ln lc, .slice fa fn fc, .int .u8 el, .string key, .bool hk]] w fun e w' => e = .returned (.bool (plainP κ n s ln fn el key hk)) ∧ Below w.heap.size w w' := by
  obtain ⟨S, hS⟩ : ∃ S, S = w.alloc (.cells #[.int .u8 κ, .int .i64 n, .string s, .slice la ln lc, .slice fa fn fc, .int .u8 el, .string key, .bool hk] 59) := ⟨_, rfl⟩
  have hbS : Below w.heap.size w S := by rw [hS]; exact (Below.refl _ _).alloc (Nat.le_refl _) _
  have hrS : S.heap[w.heap.size]? = some (.cells #[.int .u8 κ, .int .i64 n, .string s, .slice la ln lc, .slice fa fn fc, .int .u8 el, .string key, .bool hk] 59 (0, 0)) := by rw [hS]; exact heap_alloc_new w _
  have hzS : S.heap.size = w.heap.size + 1 := by rw [hS]; simp
  have x0 : S.cell? ⟨w.heap.size, 0, none⟩ = some (.int .u8 κ) := by simp [World.cell?, hrS]
  have x1 : S.cell? ⟨w.heap.size, 1, none⟩ = some (.int .i64 n) := by simp [World.cell?, hrS]
  have x2 : S.cell? ⟨w.heap.size, 2, none⟩ = some (.string s) := by simp [World.cell?, hrS]
  have x3 : S.cell? ⟨w.heap.size, 3, none⟩ = some (.slice la ln lc) := by simp [World.cell?, hrS]
  have x4 : S.cell? ⟨w.heap.size, 4, none⟩ = some (.slice fa fn fc) := by simp [World.cell?, hrS]
  have x5 : S.cell? ⟨w.heap.size, 5, none⟩ = some (.int .u8 el) := by simp [World.cell?, hrS]
  have x6 : S.cell? ⟨w.heap.size, 6, none⟩ = some (.string key) := by simp [World.cell?, hrS]
  have x7 : S.cell? ⟨w.heap.size, 7, none⟩ = some (.bool hk) := by simp [World.cell?, hrS]
  have hWS : Hid (S = _) := hS
  replace hrS := Lib.hid hrS
  clear hS
  have cS := shaped_any κ n s la fa ln lc fn fc el key hk S hκ hln hfn hs
  obtain ⟨b, hb⟩ : ∃ b : Bool, b = plainP κ n s ln fn el key hk := ⟨_, rfl⟩
  rw [← hb] at cS ⊢
  replace cS := Lib.hid cS
  replace hbS := Lib.hid hbS
  cases b
  · replace hb := Lib.hid hb
    go_enter Tryz.func160, Tryz.ntmps160
    go_wp2_with (first | (rw [← hWS.out]) | (go_at_call 175; refine cS.out.mono ?_))
    first | rintro e w3 rfl hb3 | rintro e w3 ⟨rfl, hb3⟩
    have hb3' := Lib.hid (hbS.out.trans (hb3.mono (by omega)))
    clear hb3
    go_wp2_with fail
    go_ret
    exact ⟨rfl, hb3'.out⟩
  · obtain ⟨rfl, rfl⟩ := plain_empty hb.symm
    replace hb := Lib.hid hb
    go_enter Tryz.func160, Tryz.ntmps160
    go_wp2_with (first | (rw [← hWS.out]) | (go_at_call 175; refine cS.out.mono ?_))
    first | rintro e w3 rfl hb3 | rintro e w3 ⟨rfl, hb3⟩
    have x0' := (hb3.cell (p := ⟨w.heap.size, 0, none⟩) (by show w.heap.size < _; omega)).trans x0
    have x1' := (hb3.cell (p := ⟨w.heap.size, 1, none⟩) (by show w.heap.size < _; omega)).trans x1
    have x2' := (hb3.cell (p := ⟨w.heap.size, 2, none⟩) (by show w.heap.size < _; omega)).trans x2
    have x3' := (hb3.cell (p := ⟨w.heap.size, 3, none⟩) (by show w.heap.size < _; omega)).trans x3
    have x4' := (hb3.cell (p := ⟨w.heap.size, 4, none⟩) (by show w.heap.size < _; omega)).trans x4
    have x5' := (hb3.cell (p := ⟨w.heap.size, 5, none⟩) (by show w.heap.size < _; omega)).trans x5
    have x6' := (hb3.cell (p := ⟨w.heap.size, 6, none⟩) (by show w.heap.size < _; omega)).trans x6
    have x7' := (hb3.cell (p := ⟨w.heap.size, 7, none⟩) (by show w.heap.size < _; omega)).trans x7
    clear x0 x1 x2 x3 x4 x5 x6 x7
    have hb3' := Lib.hid (hbS.out.trans (hb3.mono (by omega)))
    have hz3 := hb3.size
    clear hb3
    have cZ := Lib.hid (sizeE_any κ n s la fa lc fc el key hk w3)
    go_wp2_with (go_at_call 176; refine cZ.out.mono ?_)
    first | rintro e w4 rfl hb4 | rintro e w4 ⟨rfl, hb4⟩
    have x0'' := (hb4.cell (p := ⟨w.heap.size, 0, none⟩) (by show w.heap.size < _; omega)).trans x0'
    have x1'' := (hb4.cell (p := ⟨w.heap.size, 1, none⟩) (by show w.heap.size < _; omega)).trans x1'
    have x2'' := (hb4.cell (p := ⟨w.heap.size, 2, none⟩) (by show w.heap.size < _; omega)).trans x2'
    have x3'' := (hb4.cell (p := ⟨w.heap.size, 3, none⟩) (by show w.heap.size < _; omega)).trans x3'
    have x4'' := (hb4.cell (p := ⟨w.heap.size, 4, none⟩) (by show w.heap.size < _; omega)).trans x4'
    have x5'' := (hb4.cell (p := ⟨w.heap.size, 5, none⟩) (by show w.heap.size < _; omega)).trans x5'
    have x6'' := (hb4.cell (p := ⟨w.heap.size, 6, none⟩) (by show w.heap.size < _; omega)).trans x6'
    have x7'' := (hb4.cell (p := ⟨w.heap.size, 7, none⟩) (by show w.heap.size < _; omega)).trans x7'
    clear x0' x1' x2' x3' x4' x5' x6' x7'
    have hb4' := Lib.hid (hb3'.out.trans (hb4.mono (by omega)))
    have hz4 := hb4.size
    clear hb4
    have cD := Lib.hid (deepE_any κ n s la fa lc fc el key hk w4)
    go_wp2_with (go_at_call 177; refine cD.out.mono ?_)
    first | rintro e w5 rfl hb5 | rintro e w5 ⟨rfl, hb5⟩
    have hb5' := Lib.hid (hb4'.out.trans (hb5.mono (by omega)))
    clear hb5
    go_wp2_with fail
    go_ret
    exact ⟨rfl, hb5'.out⟩
def attrP (κ n : Int) (s : ByteArray) (ln fn : Nat) (el : Int) (key : ByteArray) (hk : Bool) : Bool := decide (κ = 1 ∨ κ = 2 ∨ κ = 3) && plainP κ n s ln fn el key hk
set_option maxHeartbeats 2000000 in
set_option maxRecDepth 100000 in
theorem refAttr_any (κ n : Int) (s : ByteArray) (la fa : Option Addr) (ln lc fn fc : Nat) (el : Int) (key : ByteArray) (hk : Bool) (w : World) (hln : ln ≤ 1152921504606846976) (hfn : fn ≤ 1152921504606846976) (hs : s.size ≤ 140737488355328) :
    Calls Tryz.prog 138 #[.agg #[.int .u8 κ, .int .i64 n, .string s, .slice la ln lc, .slice fa fn fc, .int .u8 el, .string key, .bool hk]] w fun e w' => e = .returned (.bool (attrP κ n s ln fn el key hk)) ∧ Below w.heap.size w w' := by
  unfold attrP
  obtain ⟨S, hS⟩ : ∃ S, S = w.alloc (.cells #[.int .u8 κ, .int .i64 n, .string s, .slice la ln lc, .slice fa fn fc, .int .u8 el, .string key, .bool hk] 59) := ⟨_, rfl⟩
  have hbS : Below w.heap.size w S := by rw [hS]; exact (Below.refl _ _).alloc (Nat.le_refl _) _
  have hrS : S.heap[w.heap.size]? = some (.cells #[.int .u8 κ, .int .i64 n, .string s, .slice la ln lc, .slice fa fn fc, .int .u8 el, .string key, .bool hk] 59 (0, 0)) := by rw [hS]; exact heap_alloc_new w _
  have hzS : S.heap.size = w.heap.size + 1 := by rw [hS]; simp
  have x0 : S.cell? ⟨w.heap.size, 0, none⟩ = some (.int .u8 κ) := by simp [World.cell?, hrS]
  have x1 : S.cell? ⟨w.heap.size, 1, none⟩ = some (.int .i64 n) := by simp [World.cell?, hrS]
  have x2 : S.cell? ⟨w.heap.size, 2, none⟩ = some (.string s) := by simp [World.cell?, hrS]
  have x3 : S.cell? ⟨w.heap.size, 3, none⟩ = some (.slice la ln lc) := by simp [World.cell?, hrS]
  have x4 : S.cell? ⟨w.heap.size, 4, none⟩ = some (.slice fa fn fc) := by simp [World.cell?, hrS]
  have x5 : S.cell? ⟨w.heap.size, 5, none⟩ = some (.int .u8 el) := by simp [World.cell?, hrS]
  have x6 : S.cell? ⟨w.heap.size, 6, none⟩ = some (.string key) := by simp [World.cell?, hrS]
  have x7 : S.cell? ⟨w.heap.size, 7, none⟩ = some (.bool hk) := by simp [World.cell?, hrS]
  have hWS : Hid (S = _) := hS
  replace hrS := Lib.hid hrS
  clear hS
  obtain ⟨b, hb⟩ : ∃ b : Bool, b = plainP κ n s ln fn el key hk := ⟨_, rfl⟩
  by_cases hκ : κ = 1 ∨ κ = 2 ∨ κ = 3
  · have cC := refCheck_any κ n s la fa ln lc fn fc el key hk S hκ hln hfn hs
    rw [decide_eq_true hκ, Bool.true_and]
    rw [← hb] at cC ⊢
    replace hb := Lib.hid hb
    replace cC := Lib.hid cC
    replace hbS := Lib.hid hbS
    rcases hκ with rfl | rfl | rfl
    all_goals
      go_enter Tryz.func138, Tryz.ntmps138
      go_wp2_with (first | (rw [← hWS.out]) | (go_at_call 160; refine cC.out.mono ?_))
      first | rintro e w3 rfl hb3 | rintro e w3 ⟨rfl, hb3⟩
      have hb3' := Lib.hid (hbS.out.trans (hb3.mono (by omega)))
      clear hb3
      go_wp2_with fail
      go_ret
      exact ⟨rfl, hb3'.out⟩
  · rw [decide_eq_false hκ, Bool.false_and]
    have k1 : ¬ κ = 1 := fun h => hκ (.inl h)
    have k2 : ¬ κ = 2 := fun h => hκ (.inr (.inl h))
    have k3 : ¬ κ = 3 := fun h => hκ (.inr (.inr h))
    replace hκ := Lib.hid hκ
    replace hbS := Lib.hid hbS
    replace hb := Lib.hid hb
    go_enter Tryz.func138, Tryz.ntmps138
    go_wp2_with (first | (rw [← hWS.out]))
    go_ret
    exact ⟨by simp, hbS.out⟩
end Go.Proofs.YtehcbicngbibgaaGreatDoor
