/- The walk of Least, for nodes with attributes: those of one number have the same. (By XBgL.gen.py from XBgV.) -/
import Derived.Test.YtehcbicngbibgaaBgV
import Derived.Test.YtehcbicngbibgaaBgI
namespace Go.Proofs.Ytehcbicngbibgaa
open Go Go.RowKit Go.Maps

def att (A l : List Seat) : Nat := (l.map fun s => if s.tag.toList = [] ∨ (seek A s.id).isSome then 0 else s.an).sum
theorem att_snoc (A l : List Seat) (s : Seat) : att A (l ++ [s]) = att A l + (if s.tag.toList = [] ∨ (seek A s.id).isSome then 0 else s.an) := by
  unfold att; rw [List.map_append, List.sum_append]; simp
theorem att_take (A l : List Seat) (k : Nat) : att A (l.take k) ≤ att A l := by
  have e : att A l = att A (l.take k) + ((l.drop k).map fun s => if s.tag.toList = [] ∨ (seek A s.id).isSome then 0 else s.an).sum := by
    unfold att; rw [← List.sum_append, ← List.map_append, List.take_append_drop]
  omega
theorem CostRow.s2 {W : World} {C : Nat} {a b c d e : Int} (h : CostRow W C a b c d e) (x : Int) : CostRow (W.setCell ⟨C, 2, none⟩ (.int .i64 x)) C a b x d e := by have := blk_set (show W.heap[C]? = _ from h) 2 (.int .i64 x); exact this
theorem no_fields (w : World) (B : Nat) (ao : Option Addr) (N : Nat → ByteArray) (L : Nat → Val) : FieldsAt w B ao 0 N L := ⟨by omega, fun h => by omega⟩
set_option maxHeartbeats 8000000 in
set_option maxRecDepth 100000 in
theorem least2_any (AN : Seat → Nat → ByteArray) (AL : Seat → Nat → Val) (v1 v2 : Value) (A B : List Seat) (w : World) (hA : Flat w w.heap.size v1 0 A) (hB : Flat w w.heap.size v2 0 B) (hnA : (A.map (·.id)).Nodup) (hnB : (B.map (·.id)).Nodup) (hlA : A.length ≤ 1048576) (hlB : B.length ≤ 1048576)
    (hwA : ∀ s ∈ A, s.good) (hwB : ∀ s ∈ B, s.good) (hrA : ∀ s ∈ A, (Lit.int .i64 s.row).wf = true) (hrB : ∀ s ∈ B, (Lit.int .i64 s.row).wf = true) (hfB : ∀ s ∈ B, FieldsAt w w.heap.size s.aa s.an (AN s) (AL s)) (hdB : ∀ s ∈ B, ∀ i j, i < j → j < s.an → (AN s i).toList ≠ (AN s j).toList) (hvB : ∀ s ∈ B, ∀ i, i < s.an → Refl w w.heap.size (AL s i)) (hat : att A B ≤ 4611686018427387904)
    (hsame : ∀ s ∈ B, ∀ o, seek A s.id = some o → o.tag = s.tag ∧ o.text = s.text ∧ o.aa = s.aa ∧ o.an = s.an ∧ o.ac = s.ac) :
    Calls Try.prog 6 #[v1, v2] w fun e w' => ∃ vis : List Int, vis.Nodup ∧ (∀ r, r ∈ vis ↔ rowsOf A B r ≠ []) ∧
      e = .returned (.agg #[.int .i64 (made A B : Nat), .int .i64 0, .int .i64 (att A B : Nat), .int .i64 ((made A B : Int) + moved A B + (vis.map fun r => delta (rowsOf A B r)).sum), .int .i64 (gone B A : Nat)]) ∧ Below w.heap.size w w' := by
  have hmm := @run_makeMap Try.prog
  replace hwA := Lib.hid hwA
  replace hwB := Lib.hid hwB
  replace hrA := Lib.hid hrA
  replace hrB := Lib.hid hrB
  obtain ⟨i0, hi, hz0, hz1', hz2'⟩ := info_parts infoInt
  replace hfB := Lib.hid hfB
  replace hdB := Lib.hid hdB
  replace hvB := Lib.hid hvB
  replace hsame := Lib.hid hsame
  obtain ⟨w1, hw1⟩ : ∃ w1, w1 = ((w.alloc (.cells #[.int .i64 0, .int .i64 0, .int .i64 0, .int .i64 0, .int .i64 0] 27)).alloc (.map #[] 0)).alloc (.map #[] 0) := ⟨_, rfl⟩
  have hb1 : Below w.heap.size w w1 := by rw [hw1]; exact (((Below.refl _ w).alloc (Nat.le_refl _) _).alloc (by simp) _).alloc (by simp; omega) _
  have hz1 : w1.heap.size = w.heap.size + 3 := by rw [hw1]; simp
  have hma : w1.ownsMap Try.prog 3 R (w.heap.size + 1) 0 (.map []) := by
    rw [hw1]
    have := World.ownsMap_made (w.alloc (.cells #[.int .i64 0, .int .i64 0, .int .i64 0, .int .i64 0, .int .i64 0] 27)) Try.prog 3 R
    rw [show (w.alloc (.cells #[.int .i64 0, .int .i64 0, .int .i64 0, .int .i64 0, .int .i64 0] 27)).heap.size = w.heap.size + 1 by simp] at this
    exact this.alloc _
  have hmb : w1.ownsMap Try.prog 3 R (w.heap.size + 2) 0 (.map []) := by
    rw [hw1]
    have := World.ownsMap_made ((w.alloc (.cells #[.int .i64 0, .int .i64 0, .int .i64 0, .int .i64 0, .int .i64 0] 27)).alloc (.map #[] 0)) Try.prog 3 R
    rw [show ((w.alloc (.cells #[.int .i64 0, .int .i64 0, .int .i64 0, .int .i64 0, .int .i64 0] 27)).alloc (.map #[] 0)).heap.size = w.heap.size + 2 by simp] at this
    exact this
  have hres1 : Hid (w1.heap[w.heap.size]? = some (.cells #[.int .i64 0, .int .i64 0, .int .i64 0, .int .i64 0, .int .i64 0] 27 (0, 0))) := by
    rw [hw1]
    exact (Below.heap_alloc _ _ _ (by simp; omega)).trans ((Below.heap_alloc _ _ _ (by simp)).trans (heap_alloc_new w _))
  have cA := seats_any w.heap.size v1 0 A w hA (w.heap.size + 1) [] (.slice none 0 0) [] w1 hb1 (by omega) (by omega) hma (World.ownsRow_nil _ _ _ _) (by simpa using hnA) (by simpa using hlA) (by simpa using hlA)
  replace hnA := Lib.hid hnA
  replace hnB := Lib.hid hnB
  replace hma := Lib.hid hma
  replace hmb := Lib.hid hmb
  replace hb1 := Lib.hid hb1
  replace hw1 := Lib.hid hw1
  go_enter Try.func6, Try.ntmps6
  go_wp2_with (first | (rw [← hw1.out]) | (go_at_call 8; refine cA.mono ?_))
  first | rintro e w2 ⟨o1, rfl, hma2, ho1, ht1⟩ | rintro e w2 o1 rfl hma2 ho1 ht1
  have hmb2 := turn_other ht1 hmb.out (by omega) (by simp [Value.ownBlock])
  have hz2 := ht1.size
  have hb2 : Below w.heap.size w w2 := hb1.out.trans (ht1.toBelow (by omega) (fun k hk => by simp [Value.ownBlock] at hk) (by omega))
  rw [List.nil_append] at hma2 ho1
  have cB := seats_any w.heap.size v2 0 B w hB (w.heap.size + 2) [] (.slice none 0 0) [] w2 hb2 (by omega) (by omega) hmb2 (World.ownsRow_nil _ _ _ _) (by simpa using hnB.out) (by simpa using hlB) (by simpa using hlB)
  replace hma2 := Lib.hid hma2
  replace ho1 := Lib.hid ho1
  replace hb2 := Lib.hid hb2
  have hmb2' := Lib.hid hmb2
  have hres2 : Hid (w2.heap[w.heap.size]? = some (.cells #[.int .i64 0, .int .i64 0, .int .i64 0, .int .i64 0, .int .i64 0] 27 (0, 0))) := (ht1.block _ (by omega) (by omega) (by simp [Value.ownBlock])).trans hres1.out
  clear hma hmb hb1 hw1 ht1 cA hmb2
  go_wp2_with (go_at_call 8; refine cB.mono ?_)
  first | rintro e w3 ⟨o2, rfl, hmb3, ho2, ht2⟩ | rintro e w3 o2 rfl hmb3 ho2 ht2
  have hz3 := ht2.size
  have hb3 : Below w.heap.size w w3 := hb2.out.trans (ht2.toBelow (by omega) (fun k hk => by simp [Value.ownBlock] at hk) (by omega))
  have hma3 := turn_other ht2 hma2.out (by omega) (by simp [Value.ownBlock])
  have hne1 := map_ne_row hma2.out ho1.out
  rw [List.nil_append] at hmb3 ho2
  have ho13 : OwnIds w3 w.heap.size o1 (A.map (·.id)) := by
    refine ⟨ho1.out.1, ?_⟩
    rcases ho1.out.2 with h0 | ⟨g, cap, cur, e1, e2, e3, e4⟩
    · exact .inl h0
    · refine .inr ⟨g, cap, cur, e1, e2, (ht2.block g (Array.getElem?_eq_some_iff.1 e3).1 (fun e => ?_) (by simp [Value.ownBlock])).trans e3, e4⟩
      subst e
      obtain ⟨es, clock, q1, _⟩ := hmb2'.out
      rw [q1] at e3
      simp at e3
  obtain ⟨a1, c1, rfl⟩ := ids_shape ho13
  obtain ⟨a2, c2, rfl⟩ := ids_shape ho2
  rw [List.length_map] at *
  have hres3 : w3.heap[w.heap.size]? = some (.cells #[.int .i64 0, .int .i64 0, .int .i64 0, .int .i64 0, .int .i64 0] 27 (0, 0)) := (ht2.block _ (by omega) (by omega) (by simp [Value.ownBlock])).trans hres2.out
  have hBase : Hid (BaseAt w3 w.heap.size (.slice a1 A.length c1) (.slice a2 B.length c2) A B) := ⟨hma3, hmb3, ho13, ho2, hres3⟩
  clear ht2 hmb3 hma3 ho13 ho2 hne1 hma2 ho1 hmb2' hres2 hres3 cB hB hA
  replace hb3 := Lib.hid hb3
  obtain ⟨wC, hwC⟩ : ∃ wC, wC = (w3.alloc (.cells #[.int .i64 0, .int .i64 0, .int .i64 0, .int .i64 0, .int .i64 0] 27)).alloc (.map #[] 0) := ⟨_, rfl⟩
  have hbC : Below w3.heap.size w3 wC := by rw [hwC]; exact ((Below.refl _ w3).alloc (Nat.le_refl _) _).alloc (by simp) _
  have hzC : wC.heap.size = w3.heap.size + 2 := by rw [hwC]; simp
  have hcC : CostRow wC w3.heap.size 0 0 0 0 0 := by
    rw [hwC]
    exact (Below.heap_alloc _ _ _ (by simp)).trans (heap_alloc_new w3 _)
  have hrC : RowsAt wC (w3.heap.size + 2) (w3.heap.size + 1) 0 (fun _ => []) := by
    rw [hwC]
    have := RowsAt.made (w3.alloc (.cells #[.int .i64 0, .int .i64 0, .int .i64 0, .int .i64 0, .int .i64 0] 27)) (w3.heap.size + 2)
    rw [show (w3.alloc (.cells #[.int .i64 0, .int .i64 0, .int .i64 0, .int .i64 0, .int .i64 0] 27)).heap.size = w3.heap.size + 1 by simp] at this
    exact this
  replace hwC := Lib.hid hwC
  replace hbC := Lib.hid hbC
  replace hcC := Lib.hid hcC
  replace hrC := Lib.hid hrC
  go_wp2_with (first | (rw [← hwC.out]) | fail)
  go_loopw [43] (fun i wr => ∃ k : Nat, k ≤ B.length ∧ i = .int .i64 (k : Nat) ∧ Below w3.heap.size w3 wr ∧ w3.heap.size + 2 ≤ wr.heap.size ∧ CostRow wr w3.heap.size (made A (B.take k) : Nat) 0 (att A (B.take k) : Nat) ((made A (B.take k) : Int) + moved A (B.take k)) 0 ∧ RowsAt wr (w3.heap.size + 2) (w3.heap.size + 1) k (rowsOf A (B.take k))) (fun i _ => B.length - (intOf i).toNat)
  case atStart => exact ⟨0, Nat.zero_le _, rfl, hbC.out, by omega, by simpa [made, moved, att] using hcC.out, hrC.out⟩
  case round =>
    obtain ⟨k, hk, rfl, hb, hzr, hco, hro⟩ := hrel
    have hba := hBase.out.below hb
    by_cases hlt : k < B.length
    · obtain ⟨g2, rfl, x0⟩ := ids_cell hba.now k (by rw [List.length_map]; exact hlt)
      rw [List.getElem_map] at x0
      obtain ⟨s, hs⟩ : ∃ s, s = B[k] := ⟨_, rfl⟩
      have hsB : s ∈ B := by rw [hs]; exact List.getElem_mem hlt
      rw [← hs] at x0
      have hgs := hwB.out s hsB
      have hgr := hrB.out s hsB
      have hatB : Hid ((mapOf B).atKey (keyL s.id) (.held zeroSeat) = .held (.agg #[.int .i64 s.id, .string s.tag, .string s.text, .slice s.aa s.an s.ac, .slice s.ka s.kn s.kc, .int .i64 s.row, .int .i64 (s.pos : Nat)])) := by
        have := at_mapOf B hnB.out s hsB (.held zeroSeat)
        rw [Seat.val] at this
        exact this
      have htk : Hid (B.take (k + 1) = B.take k ++ [s]) := by show B.take (k + 1) = _; rw [List.take_succ_eq_append_getElem hlt, hs]
      have hatk := att_take A B (k + 1)
      rw [htk.out, att_snoc] at hatk
      have hml := made_le A (B.take k)
      have hvl := moved_le A (B.take k)
      rw [List.length_take, Nat.min_eq_left (by omega)] at hml hvl
      have hmA := Lib.hid hba.mA
      have hmB := Lib.hid hba.mB
      replace hs := Lib.hid hs
      clear hba
      have h1 := at_seek A hnA.out s.id
      have h2 := has_seek A s.id
      unfold seekV at h1
      cases hsk : seek A s.id with
      | none =>
        rw [hsk] at h1 h2
        have hoA := Lib.hid h1
        have hok : Hid (Maps.has (mapOf A) (keyL s.id) = false) := h2
        replace hsk := Lib.hid hsk
        clear h1 h2
        by_cases htag : s.tag.toList = []
        · obtain ⟨S2, hS2⟩ : ∃ S2, S2 = (wr.alloc (.cells #[.int .i64 s.id, .string s.tag, .string s.text, .slice s.aa s.an s.ac, .slice s.ka s.kn s.kc, .int .i64 s.row, .int .i64 (s.pos : Nat)] 45)).alloc (.cells #[.int .i64 0, .string ByteArray.empty, .string ByteArray.empty, .slice none 0 0, .slice none 0 0, .int .i64 0, .int .i64 0] 45) := ⟨_, rfl⟩
          have hb2' : Below wr.heap.size wr S2 := by rw [hS2]; exact ((Below.refl _ wr).alloc (Nat.le_refl _) _).alloc (by simp) _
          have hzS : S2.heap.size = wr.heap.size + 2 := by rw [hS2]; simp
          have hs13 : S2.heap[wr.heap.size]? = some (.cells #[.int .i64 s.id, .string s.tag, .string s.text, .slice s.aa s.an s.ac, .slice s.ka s.kn s.kc, .int .i64 s.row, .int .i64 (s.pos : Nat)] 45 (0, 0)) := by rw [hS2]; exact (Below.heap_alloc _ _ _ (by simp)).trans (heap_alloc_new wr _)
          have hs14 : S2.heap[wr.heap.size + 1]? = some (.cells #[.int .i64 0, .string ByteArray.empty, .string ByteArray.empty, .slice none 0 0, .slice none 0 0, .int .i64 0, .int .i64 0] 45 (0, 0)) := by
            rw [hS2]
            have := heap_alloc_new (wr.alloc (.cells #[.int .i64 s.id, .string s.tag, .string s.text, .slice s.aa s.an s.ac, .slice s.ka s.kn s.kc, .int .i64 s.row, .int .i64 (s.pos : Nat)] 45)) (.cells #[.int .i64 0, .string ByteArray.empty, .string ByteArray.empty, .slice none 0 0, .slice none 0 0, .int .i64 0, .int .i64 0] 45)
            rw [show (wr.alloc (.cells #[.int .i64 s.id, .string s.tag, .string s.text, .slice s.aa s.an s.ac, .slice s.ka s.kn s.kc, .int .i64 s.row, .int .i64 (s.pos : Nat)] 45)).heap.size = wr.heap.size + 1 by simp] at this
            exact this
          have hcS : CostRow S2 w3.heap.size (made A (B.take k) : Nat) 0 (att A (B.take k) : Nat) ((made A (B.take k) : Int) + moved A (B.take k)) 0 := (hb2'.block _ (by omega)).trans hco
          have hrS : RowsAt S2 (w3.heap.size + 2) (w3.heap.size + 1) k (rowsOf A (B.take k)) := hro.below hb2'
          have hbS : Below w3.heap.size w3 S2 := hb.trans (hb2'.mono (by omega))
          obtain ⟨p1, p2, p3, p5, p6⟩ := seat_cells hs13
          obtain ⟨q1, q2, q3, q5, q6⟩ := seat_cells hs14
          obtain ⟨d0, d1, d2, d3, d4⟩ := hcS.cells
          have e0 := hcS.fr 0
          have e3 := hcS.fr 3
          replace hS2 := Lib.hid hS2
          replace hs13 := Lib.hid hs13
          replace hs14 := Lib.hid hs14
          replace hcS := Lib.hid hcS
          replace hrS := Lib.hid hrS
          replace hbS := Lib.hid hbS
          clear hb hb2' hco hro
          go_wp2_with (first | (at_lookup; refine wpList_look _ rfl _ _ rfl (w.heap.size + 2) _ _ rfl hmB.out s.id rfl hgs (.agg #[.int .i64 s.id, .string s.tag, .string s.text, .slice s.aa s.an s.ac, .slice s.ka s.kn s.kc, .int .i64 s.row, .int .i64 (s.pos : Nat)]) hatB.out ?_) | (at_lookup; refine wpList_look_ok _ rfl _ _ rfl (w.heap.size + 1) _ _ rfl (hmA.out.alloc _) s.id rfl hgs (.agg #[.int .i64 0, .string ByteArray.empty, .string ByteArray.empty, .slice none 0 0, .slice none 0 0, .int .i64 0, .int .i64 0]) hoA.out false hok.out ?_) | (rw [← hS2.out]))
          have hc9 : Hid (CostRow _ w3.heap.size ((made A (B.take k) : Int) + 1) 0 (att A (B.take k) : Nat) ((made A (B.take k) : Int) + moved A (B.take k) + 1) 0) := (hcS.out.s0 ((made A (B.take k) : Int) + 1)).s3 ((made A (B.take k) : Int) + moved A (B.take k) + 1)
          have hb9 := Lib.hid ((hbS.out.setCell (p := ⟨w3.heap.size, 0, none⟩) (Nat.le_refl _) (.int .i64 ((made A (B.take k) : Int) + 1))).setCell (p := ⟨w3.heap.size, 3, none⟩) (Nat.le_refl _) (.int .i64 ((made A (B.take k) : Int) + moved A (B.take k) + 1)))
          have hr9 : Hid (RowsAt ((S2.setCell ⟨w3.heap.size, 0, none⟩ (.int .i64 ((made A (B.take k) : Int) + 1))).setCell ⟨w3.heap.size, 3, none⟩ (.int .i64 ((made A (B.take k) : Int) + moved A (B.take k) + 1))) (w3.heap.size + 2) (w3.heap.size + 1) k (rowsOf A (B.take k))) :=
            hrS.out.kept (fun j _ hj => by rw [Below.heap_setCell _ _ _ _ (by show j ≠ w3.heap.size; omega), Below.heap_setCell _ _ _ _ (by show j ≠ w3.heap.size; omega)]) (by simp)
          go_roundw
          case rel => exact ⟨k + 1, by omega, by go_num, hb9.out, by simp; omega, by rw [htk.out, made_snoc, moved_snoc, att_snoc, hsk.out]; simpa [htag, Hid, Int.add_assoc, Int.add_comm, Int.add_left_comm] using hc9.out, by rw [htk.out]; exact (rows_idle hsk.out hr9.out).mono (Nat.le_succ k)⟩
          case measure => simp [intOf]; omega
        · have h9 : ¬ (s.tag.toList = [] ∨ (seek A s.id).isSome = true) := fun h => h.elim htag (fun h2 => by rw [hsk.out] at h2; cases h2)
          rw [if_neg h9] at hatk
          have hattb : (att A (B.take k) : Int) + (s.an : Int) ≤ 4611686018427387904 := by have := Nat.le_trans hatk hat; omega
          clear h9
          obtain ⟨wo, hwo⟩ : ∃ wo : World, wo = wr := ⟨_, rfl⟩
          subst hwo
          obtain ⟨S2, hS2⟩ : ∃ S2, S2 = (wo.alloc (.cells #[.int .i64 s.id, .string s.tag, .string s.text, .slice s.aa s.an s.ac, .slice s.ka s.kn s.kc, .int .i64 s.row, .int .i64 (s.pos : Nat)] 45)).alloc (.cells #[.int .i64 0, .string ByteArray.empty, .string ByteArray.empty, .slice none 0 0, .slice none 0 0, .int .i64 0, .int .i64 0] 45) := ⟨_, rfl⟩
          have hb2' : Below wo.heap.size wo S2 := by rw [hS2]; exact ((Below.refl _ wo).alloc (Nat.le_refl _) _).alloc (by simp) _
          have hzS : S2.heap.size = wo.heap.size + 2 := by rw [hS2]; simp
          have hs13 : S2.heap[wo.heap.size]? = some (.cells #[.int .i64 s.id, .string s.tag, .string s.text, .slice s.aa s.an s.ac, .slice s.ka s.kn s.kc, .int .i64 s.row, .int .i64 (s.pos : Nat)] 45 (0, 0)) := by rw [hS2]; exact (Below.heap_alloc _ _ _ (by simp)).trans (heap_alloc_new wo _)
          have hs14 : S2.heap[wo.heap.size + 1]? = some (.cells #[.int .i64 0, .string ByteArray.empty, .string ByteArray.empty, .slice none 0 0, .slice none 0 0, .int .i64 0, .int .i64 0] 45 (0, 0)) := by
            rw [hS2]
            have := heap_alloc_new (wo.alloc (.cells #[.int .i64 s.id, .string s.tag, .string s.text, .slice s.aa s.an s.ac, .slice s.ka s.kn s.kc, .int .i64 s.row, .int .i64 (s.pos : Nat)] 45)) (.cells #[.int .i64 0, .string ByteArray.empty, .string ByteArray.empty, .slice none 0 0, .slice none 0 0, .int .i64 0, .int .i64 0] 45)
            rw [show (wo.alloc (.cells #[.int .i64 s.id, .string s.tag, .string s.text, .slice s.aa s.an s.ac, .slice s.ka s.kn s.kc, .int .i64 s.row, .int .i64 (s.pos : Nat)] 45)).heap.size = wo.heap.size + 1 by simp] at this
            exact this
          have hcS : CostRow S2 w3.heap.size (made A (B.take k) : Nat) 0 (att A (B.take k) : Nat) ((made A (B.take k) : Int) + moved A (B.take k)) 0 := (hb2'.block _ (by omega)).trans hco
          have hrS : RowsAt S2 (w3.heap.size + 2) (w3.heap.size + 1) k (rowsOf A (B.take k)) := hro.below hb2'
          have hbS : Below w3.heap.size w3 S2 := hb.trans (hb2'.mono (by omega))
          obtain ⟨p1, p2, p3, p5, p6⟩ := seat_cells hs13
          obtain ⟨q1, q2, q3, q5, q6⟩ := seat_cells hs14
          obtain ⟨d0, d1, d2, d3, d4⟩ := hcS.cells
          have e0 := hcS.fr 0
          have e3 := hcS.fr 3
          replace hS2 := Lib.hid hS2
          replace hs13 := Lib.hid hs13
          replace hs14 := Lib.hid hs14
          replace hcS := Lib.hid hcS
          replace hrS := Lib.hid hrS
          replace hbS := Lib.hid hbS
          clear hb hb2' hco hro
          have htg : s.tag.toList.isEmpty = false := by simpa using htag
          go_wp2_with (first | (at_lookup; refine wpList_look _ rfl _ _ rfl (w.heap.size + 2) _ _ rfl hmB.out s.id rfl hgs (.agg #[.int .i64 s.id, .string s.tag, .string s.text, .slice s.aa s.an s.ac, .slice s.ka s.kn s.kc, .int .i64 s.row, .int .i64 (s.pos : Nat)]) hatB.out ?_) | (at_lookup; refine wpList_look_ok _ rfl _ _ rfl (w.heap.size + 1) _ _ rfl (hmA.out.alloc _) s.id rfl hgs (.agg #[.int .i64 0, .string ByteArray.empty, .string ByteArray.empty, .slice none 0 0, .slice none 0 0, .int .i64 0, .int .i64 0]) hoA.out false hok.out ?_) | (rw [← hS2.out]))
          have hL1 := Lib.hid (hbS.out.setCell (p := ⟨w3.heap.size, 0, none⟩) (Nat.le_refl _) (.int .i64 ((made A (B.take k) : Int) + 1)))
          have hL2 : wo.heap.size + 2 ≤ (S2.setCell ⟨w3.heap.size, 0, none⟩ (.int .i64 ((made A (B.take k) : Int) + 1))).heap.size := by simp; omega
          have hL3 : Hid (CostRow (S2.setCell ⟨w3.heap.size, 0, none⟩ (.int .i64 ((made A (B.take k) : Int) + 1))) w3.heap.size ((made A (B.take k) : Int) + 1) 0 (att A (B.take k) : Nat) ((made A (B.take k) : Int) + moved A (B.take k)) 0) := hcS.out.s0 ((made A (B.take k) : Int) + 1)
          have hL4 : Hid (RowsAt (S2.setCell ⟨w3.heap.size, 0, none⟩ (.int .i64 ((made A (B.take k) : Int) + 1))) (w3.heap.size + 2) (w3.heap.size + 1) k (rowsOf A (B.take k))) := hrS.out.kept (fun j _ hj => by rw [Below.heap_setCell _ _ _ _ (by show j ≠ w3.heap.size; omega)]) (by simp)
          have hL5 := Lib.hid ((Below.heap_setCell S2 ⟨w3.heap.size, 0, none⟩ (.int .i64 ((made A (B.take k) : Int) + 1)) wo.heap.size (by show wo.heap.size ≠ w3.heap.size; omega)).trans hs13.out)
          have hL6 := Lib.hid ((Below.heap_setCell S2 ⟨w3.heap.size, 0, none⟩ (.int .i64 ((made A (B.take k) : Int) + 1)) (wo.heap.size + 1) (by show wo.heap.size + 1 ≠ w3.heap.size; omega)).trans hs14.out)
          go_loopw [96] (fun i wy => ∃ m : Nat, m ≤ s.an ∧ i = .int .i64 (m : Nat) ∧ Below w3.heap.size w3 wy ∧ wo.heap.size + 2 ≤ wy.heap.size ∧ CostRow wy w3.heap.size ((made A (B.take k) : Int) + 1) 0 ((att A (B.take k) : Int) + m) ((made A (B.take k) : Int) + moved A (B.take k)) 0 ∧ RowsAt wy (w3.heap.size + 2) (w3.heap.size + 1) k (rowsOf A (B.take k)) ∧ wy.heap[wo.heap.size]? = some (.cells #[.int .i64 s.id, .string s.tag, .string s.text, .slice s.aa s.an s.ac, .slice s.ka s.kn s.kc, .int .i64 s.row, .int .i64 (s.pos : Nat)] 45 (0, 0)) ∧ wy.heap[wo.heap.size + 1]? = some (.cells #[.int .i64 0, .string ByteArray.empty, .string ByteArray.empty, .slice none 0 0, .slice none 0 0, .int .i64 0, .int .i64 0] 45 (0, 0))) (fun i _ => s.an - (intOf i).toNat)
          case atStart => exact ⟨0, Nat.zero_le _, rfl, hL1.out, hL2, by simpa using hL3.out, hL4.out, hL5.out, hL6.out⟩
          case round =>
            obtain ⟨m, hm, rfl, by1, hy2, hy3, hy4, hy5, hy6⟩ := hrel
            obtain ⟨p1, p2, p3, p5, p6⟩ := seat_cells hy5
            obtain ⟨q1, q2, q3, q5, q6⟩ := seat_cells hy6
            obtain ⟨d0, d1, d2, d3, d4⟩ := hy3.cells
            have e0 := hy3.fr 0
            have e2 := hy3.fr 2
            have e3 := hy3.fr 3
            by_cases hmlt : m < s.an
            · have hbw : Below w.heap.size w wr := hb3.out.trans (by1.mono (by omega))
              have hmlt9 : Hid (m + 1 ≤ s.an) := hmlt
              have hle9 := (hfB.out s hsB).le
              have hFw := (hfB.out s hsB).kept hbw
              obtain ⟨b, o, haa, hbB, hcF⟩ := hFw.at_ (by omega)
              obtain ⟨q, hq⟩ : ∃ q, q = AL s m := ⟨_, rfl⟩
              have gc : ∀ j, j < 9 → wr.cell? ⟨b, o + (m * 9 + j), none⟩ = (fieldCells (AN s m) q)[j]? := fun j hj => by rw [hq]; exact hcF m hmlt j hj
              have x0 : wr.cell? ⟨b, o + m * 9, none⟩ = some (.string (AN s m)) := gc 0 (by omega)
              have x1 : wr.cell? ⟨b, o + m * 9 + 1, none⟩ = some (.int .u8 q.kind) := by rw [Nat.add_assoc]; exact gc 1 (by omega)
              have x2 : wr.cell? ⟨b, o + m * 9 + 2, none⟩ = some (.int .i64 q.n) := by rw [Nat.add_assoc]; exact gc 2 (by omega)
              have x3 : wr.cell? ⟨b, o + m * 9 + 3, none⟩ = some (.string q.s) := by rw [Nat.add_assoc]; exact gc 3 (by omega)
              have x4 : wr.cell? ⟨b, o + m * 9 + 4, none⟩ = some (.slice q.la q.ln q.lc) := by rw [Nat.add_assoc]; exact gc 4 (by omega)
              have x5 : wr.cell? ⟨b, o + m * 9 + 5, none⟩ = some (.slice q.fa q.fn q.fc) := by rw [Nat.add_assoc]; exact gc 5 (by omega)
              have x6 : wr.cell? ⟨b, o + m * 9 + 6, none⟩ = some (.int .u8 q.elem) := by rw [Nat.add_assoc]; exact gc 6 (by omega)
              have x7 : wr.cell? ⟨b, o + m * 9 + 7, none⟩ = some (.string q.key) := by rw [Nat.add_assoc]; exact gc 7 (by omega)
              have x8 : wr.cell? ⟨b, o + m * 9 + 8, none⟩ = some (.bool q.hk) := by rw [Nat.add_assoc]; exact gc 8 (by omega)
              obtain ⟨S3, hS3⟩ : ∃ S3, S3 = wr.alloc (.cells #[.string (AN s m), .int .u8 q.kind, .int .i64 q.n, .string q.s, .slice q.la q.ln q.lc, .slice q.fa q.fn q.fc, .int .u8 q.elem, .string q.key, .bool q.hk] 39) := ⟨_, rfl⟩
              have hb3' : Below wr.heap.size wr S3 := by rw [hS3]; exact (Below.refl _ _).alloc (Nat.le_refl _) _
              have hz3' : S3.heap.size = wr.heap.size + 1 := by rw [hS3]; simp
              have hrow3 : S3.heap[wr.heap.size]? = some (.cells #[.string (AN s m), .int .u8 q.kind, .int .i64 q.n, .string q.s, .slice q.la q.ln q.lc, .slice q.fa q.fn q.fc, .int .u8 q.elem, .string q.key, .bool q.hk] 39 (0, 0)) := by rw [hS3]; exact heap_alloc_new wr _
              have hbw3 : Below w.heap.size w S3 := hbw.trans (hb3'.mono (by have := hbw.size; omega))
              have hbw3z := hbw3.size
              have n0 : S3.cell? ⟨wr.heap.size, 0, none⟩ = some (.string (AN s m)) := by simp [World.cell?, hrow3]
              have p33 := (hb3'.cell (p := ⟨wo.heap.size, 3, none⟩) (by show wo.heap.size < _; omega)).trans p3
              have q33 := (hb3'.cell (p := ⟨wo.heap.size + 1, 3, none⟩) (by show wo.heap.size + 1 < _; omega)).trans q3
              have cA := attr_any w w.heap.size none 0 0 (AN s) (AL s) (AN s m) (no_fields _ _ _ _ _) S3 hbw3 hbw3z
              replace cA := Lib.hid cA
              replace hS3 := Lib.hid hS3
              replace hq := Lib.hid hq
              replace by1 := Lib.hid by1
              replace hy3 := Lib.hid hy3
              replace hy4 := Lib.hid hy4
              replace hy5 := Lib.hid hy5
              replace hy6 := Lib.hid hy6
              replace hbw := Lib.hid hbw
              replace hb3' := Lib.hid hb3'
              replace hrow3 := Lib.hid hrow3
              replace hFw := Lib.hid hFw
              replace hcF := Lib.hid hcF
              clear gc hbw3
              go_wp2_with (first | (rw [← hS3.out]) | (go_at_call 9; refine cA.out.mono ?_))
              first | rintro e W4 hres hb4 | rintro e W4 ⟨hres, hb4⟩
              have hz4 := hb4.size
              have he : e = .returned (.tuple #[zeroVal, .bool false]) := by
                rcases hres with ⟨j, hj, _⟩ | ⟨_, h⟩
                · omega
                · exact h
              subst he
              obtain ⟨S4, hS4⟩ : ∃ S4, S4 = W4.alloc (.cells #[.int .u8 0, .int .i64 0, .string ⟨#[]⟩, .slice none 0 0, .slice none 0 0, .int .u8 0, .string ⟨#[]⟩, .bool false] 37) := ⟨_, rfl⟩
              have hrow4 : S4.heap[W4.heap.size]? = some (.cells #[.int .u8 0, .int .i64 0, .string ⟨#[]⟩, .slice none 0 0, .slice none 0 0, .int .u8 0, .string ⟨#[]⟩, .bool false] 37 (0, 0)) := by rw [hS4]; exact heap_alloc_new W4 _
              have hb40 : Below W4.heap.size W4 S4 := by rw [hS4]; exact (Below.refl _ _).alloc (Nat.le_refl _) _
              have hz40 : S4.heap.size = W4.heap.size + 1 := by rw [hS4]; simp
              have hf4 : ∀ kk, S4.frozen? ⟨W4.heap.size, kk, none⟩ = false := fun kk => by simp [World.frozen?, hrow4]
              have y0 : S4.cell? ⟨W4.heap.size, 0, none⟩ = some (.int .u8 0) := by simp [World.cell?, hrow4]
              have z0 := hf4 0
              have y1 : S4.cell? ⟨W4.heap.size, 1, none⟩ = some (.int .i64 0) := by simp [World.cell?, hrow4]
              have z1 := hf4 1
              have y2 : S4.cell? ⟨W4.heap.size, 2, none⟩ = some (.string ⟨#[]⟩) := by simp [World.cell?, hrow4]
              have z2 := hf4 2
              have y3 : S4.cell? ⟨W4.heap.size, 3, none⟩ = some (.slice none 0 0) := by simp [World.cell?, hrow4]
              have z3 := hf4 3
              have y4 : S4.cell? ⟨W4.heap.size, 4, none⟩ = some (.slice none 0 0) := by simp [World.cell?, hrow4]
              have z4 := hf4 4
              have y5 : S4.cell? ⟨W4.heap.size, 5, none⟩ = some (.int .u8 0) := by simp [World.cell?, hrow4]
              have z5 := hf4 5
              have y6 : S4.cell? ⟨W4.heap.size, 6, none⟩ = some (.string ⟨#[]⟩) := by simp [World.cell?, hrow4]
              have z6 := hf4 6
              have y7 : S4.cell? ⟨W4.heap.size, 7, none⟩ = some (.bool false) := by simp [World.cell?, hrow4]
              have z7 := hf4 7
              obtain ⟨S5, hS5⟩ : ∃ S5, S5 = ((((((((S4.setCell ⟨W4.heap.size, 0, none⟩ (.int .u8 0)).setCell ⟨W4.heap.size, 1, none⟩ (.int .i64 0)).setCell ⟨W4.heap.size, 2, none⟩ (.string ⟨#[]⟩)).setCell ⟨W4.heap.size, 3, none⟩ (.slice none 0 0)).setCell ⟨W4.heap.size, 4, none⟩ (.slice none 0 0)).setCell ⟨W4.heap.size, 5, none⟩ (.int .u8 0)).setCell ⟨W4.heap.size, 6, none⟩ (.string ⟨#[]⟩)).setCell ⟨W4.heap.size, 7, none⟩ (.bool false)) := ⟨_, rfl⟩
              have hb5 : Below W4.heap.size W4 S5 := by
                rw [hS5]
                exact (((((((hb40.setCell (p := ⟨W4.heap.size, 0, none⟩) (Nat.le_refl _) _).setCell (p := ⟨W4.heap.size, 1, none⟩) (Nat.le_refl _) _).setCell (p := ⟨W4.heap.size, 2, none⟩) (Nat.le_refl _) _).setCell (p := ⟨W4.heap.size, 3, none⟩) (Nat.le_refl _) _).setCell (p := ⟨W4.heap.size, 4, none⟩) (Nat.le_refl _) _).setCell (p := ⟨W4.heap.size, 5, none⟩) (Nat.le_refl _) _).setCell (p := ⟨W4.heap.size, 6, none⟩) (Nat.le_refl _) _).setCell (p := ⟨W4.heap.size, 7, none⟩) (Nat.le_refl _) _
              have hz5 : S5.heap.size = W4.heap.size + 1 := by rw [hS5]; simp [hz40]
              replace hS4 := Lib.hid hS4
              clear hrow4 hb40 hf4
              have hb35 : Below S3.heap.size S3 S5 := hb4.trans (hb5.mono hz4)
              have hbr5 : Below wr.heap.size wr S5 := hb3'.out.trans (hb35.mono (by omega))
              have hc5 : CostRow S5 w3.heap.size ((made A (B.take k) : Int) + 1) 0 ((att A (B.take k) : Int) + m) ((made A (B.take k) : Int) + moved A (B.take k)) 0 := (hbr5.block _ (by omega)).trans hy3.out
              have hr5 := hy4.out.below hbr5
              have hs5 := (hbr5.block wo.heap.size (by omega)).trans hy5.out
              have ht5 := (hbr5.block (wo.heap.size + 1) (by omega)).trans hy6.out
              have hbE5 := by1.out.trans (hbr5.mono (by omega))
              obtain ⟨c0, c1, c2, c3, c4⟩ := hc5.cells
              have f2 := hc5.fr 2
              replace hS5 := Lib.hid hS5
              replace hc5 := Lib.hid hc5
              replace hr5 := Lib.hid hr5
              replace hs5 := Lib.hid hs5
              replace ht5 := Lib.hid ht5
              replace hbE5 := Lib.hid hbE5
              clear hres hb4 hb5 hb35 hbr5 cA
              unfold zeroVal
              go_wp2_with (first | (rw [← hS4.out]) | (rw [← hS5.out]) | fail)
              have hc9 : Hid (CostRow (S5.setCell ⟨w3.heap.size, 2, none⟩ (.int .i64 (((att A (B.take k) : Int) + m) + 1))) w3.heap.size ((made A (B.take k) : Int) + 1) 0 (((att A (B.take k) : Int) + m) + 1) ((made A (B.take k) : Int) + moved A (B.take k)) 0) := hc5.out.s2 (((att A (B.take k) : Int) + m) + 1)
              have hb9 := Lib.hid (hbE5.out.setCell (p := ⟨w3.heap.size, 2, none⟩) (Nat.le_refl _) (.int .i64 (((att A (B.take k) : Int) + m) + 1)))
              have hr9 : Hid (RowsAt (S5.setCell ⟨w3.heap.size, 2, none⟩ (.int .i64 (((att A (B.take k) : Int) + m) + 1))) (w3.heap.size + 2) (w3.heap.size + 1) k (rowsOf A (B.take k))) :=
                hr5.out.kept (fun j _ hj => by rw [Below.heap_setCell _ _ _ _ (by show j ≠ w3.heap.size; omega)]) (by simp)
              have hs9 := Lib.hid ((Below.heap_setCell S5 ⟨w3.heap.size, 2, none⟩ (.int .i64 (((att A (B.take k) : Int) + m) + 1)) wo.heap.size (by show wo.heap.size ≠ w3.heap.size; omega)).trans hs5.out)
              have ht9 := Lib.hid ((Below.heap_setCell S5 ⟨w3.heap.size, 2, none⟩ (.int .i64 (((att A (B.take k) : Int) + m) + 1)) (wo.heap.size + 1) (by show wo.heap.size + 1 ≠ w3.heap.size; omega)).trans ht5.out)
              (try rw [← haa])
              replace haa := Lib.hid haa
              go_roundw
              case rel => exact ⟨m + 1, hmlt9.out, by go_num, hb9.out, by simp; omega, by simpa [Int.add_assoc] using hc9.out, hr9.out, hs9.out, ht9.out⟩
              case measure => simp [intOf]; have := hmlt9.out; omega
            · obtain rfl : m = s.an := by omega
              replace by1 := Lib.hid by1
              replace hy3 := Lib.hid hy3
              replace hy4 := Lib.hid hy4
              clear hL1 hL2 hL3 hL4 hL5 hL6 hy5 hy6
              go_wp2_with fail
              refine wp_loop_rounds 1 ?_
              rw [rounds_succ]
              go_wp2_with fail
              have hc9 : Hid (CostRow _ w3.heap.size ((made A (B.take k) : Int) + 1) 0 ((att A (B.take k) : Int) + s.an) ((made A (B.take k) : Int) + moved A (B.take k) + 1) 0) := hy3.out.s3 ((made A (B.take k) : Int) + moved A (B.take k) + 1)
              have hb9 := Lib.hid (by1.out.setCell (p := ⟨w3.heap.size, 3, none⟩) (Nat.le_refl _) (.int .i64 ((made A (B.take k) : Int) + moved A (B.take k) + 1)))
              have hr9 : Hid (RowsAt (wr.setCell ⟨w3.heap.size, 3, none⟩ (.int .i64 ((made A (B.take k) : Int) + moved A (B.take k) + 1))) (w3.heap.size + 2) (w3.heap.size + 1) k (rowsOf A (B.take k))) :=
                hy4.out.kept (fun j _ hj => by rw [Below.heap_setCell _ _ _ _ (by show j ≠ w3.heap.size; omega)]) (by simp)
              go_roundw
              case rel => exact ⟨k + 1, by omega, by go_num, hb9.out, by simp; omega, by rw [htk.out, made_snoc, moved_snoc, att_snoc, hsk.out]; simpa [htag, Hid, Int.add_assoc, Int.add_comm, Int.add_left_comm] using hc9.out, by rw [htk.out]; exact (rows_idle hsk.out hr9.out).mono (Nat.le_succ k)⟩
              case measure => simp [intOf]; omega
      | some o =>
        obtain ⟨oT, oX, oA, oN, oC⟩ := hsame.out s hsB o hsk
        rw [hsk] at h1 h2
        obtain ⟨oid, otag, otext, oaa, oan, oac, oka, okn, okc, orow, opos⟩ := o
        simp only at oT oX oA oN oC
        subst oT oX oA oN oC
        have hoA := Lib.hid h1
        have hok : Hid (Maps.has (mapOf A) (keyL s.id) = true) := h2
        replace hsk := Lib.hid hsk
        clear h1 h2
        by_cases hrow : orow = s.row
        · replace hrow := Lib.hid hrow
          have hrd : (orow != s.row) = false := by simpa using hrow.out
          by_cases htag : s.tag.toList = []
          · obtain ⟨S2, hS2⟩ : ∃ S2, S2 = (wr.alloc (.cells #[.int .i64 s.id, .string s.tag, .string s.text, .slice s.aa s.an s.ac, .slice s.ka s.kn s.kc, .int .i64 s.row, .int .i64 (s.pos : Nat)] 45)).alloc (.cells #[.int .i64 oid, .string s.tag, .string s.text, .slice s.aa s.an s.ac, .slice oka okn okc, .int .i64 orow, .int .i64 (opos : Nat)] 45) := ⟨_, rfl⟩
            have hb2' : Below wr.heap.size wr S2 := by rw [hS2]; exact ((Below.refl _ wr).alloc (Nat.le_refl _) _).alloc (by simp) _
            have hzS : S2.heap.size = wr.heap.size + 2 := by rw [hS2]; simp
            have hs13 : S2.heap[wr.heap.size]? = some (.cells #[.int .i64 s.id, .string s.tag, .string s.text, .slice s.aa s.an s.ac, .slice s.ka s.kn s.kc, .int .i64 s.row, .int .i64 (s.pos : Nat)] 45 (0, 0)) := by rw [hS2]; exact (Below.heap_alloc _ _ _ (by simp)).trans (heap_alloc_new wr _)
            have hs14 : S2.heap[wr.heap.size + 1]? = some (.cells #[.int .i64 oid, .string s.tag, .string s.text, .slice s.aa s.an s.ac, .slice oka okn okc, .int .i64 orow, .int .i64 (opos : Nat)] 45 (0, 0)) := by
              rw [hS2]
              have := heap_alloc_new (wr.alloc (.cells #[.int .i64 s.id, .string s.tag, .string s.text, .slice s.aa s.an s.ac, .slice s.ka s.kn s.kc, .int .i64 s.row, .int .i64 (s.pos : Nat)] 45)) (.cells #[.int .i64 oid, .string s.tag, .string s.text, .slice s.aa s.an s.ac, .slice oka okn okc, .int .i64 orow, .int .i64 (opos : Nat)] 45)
              rw [show (wr.alloc (.cells #[.int .i64 s.id, .string s.tag, .string s.text, .slice s.aa s.an s.ac, .slice s.ka s.kn s.kc, .int .i64 s.row, .int .i64 (s.pos : Nat)] 45)).heap.size = wr.heap.size + 1 by simp] at this
              exact this
            have hcS : CostRow S2 w3.heap.size (made A (B.take k) : Nat) 0 (att A (B.take k) : Nat) ((made A (B.take k) : Int) + moved A (B.take k)) 0 := (hb2'.block _ (by omega)).trans hco
            have hrS : RowsAt S2 (w3.heap.size + 2) (w3.heap.size + 1) k (rowsOf A (B.take k)) := hro.below hb2'
            have hbS : Below w3.heap.size w3 S2 := hb.trans (hb2'.mono (by omega))
            obtain ⟨p1, p2, p3, p5, p6⟩ := seat_cells hs13
            obtain ⟨q1, q2, q3, q5, q6⟩ := seat_cells hs14
            obtain ⟨d0, d1, d2, d3, d4⟩ := hcS.cells
            have e0 := hcS.fr 0
            have e3 := hcS.fr 3
            replace hS2 := Lib.hid hS2
            replace hs13 := Lib.hid hs13
            replace hs14 := Lib.hid hs14
            replace hcS := Lib.hid hcS
            replace hrS := Lib.hid hrS
            replace hbS := Lib.hid hbS
            clear hb hb2' hco hro
            go_wp2_with (first | (at_lookup; refine wpList_look _ rfl _ _ rfl (w.heap.size + 2) _ _ rfl hmB.out s.id rfl hgs (.agg #[.int .i64 s.id, .string s.tag, .string s.text, .slice s.aa s.an s.ac, .slice s.ka s.kn s.kc, .int .i64 s.row, .int .i64 (s.pos : Nat)]) hatB.out ?_) | (at_lookup; refine wpList_look_ok _ rfl _ _ rfl (w.heap.size + 1) _ _ rfl (hmA.out.alloc _) s.id rfl hgs (.agg #[.int .i64 oid, .string s.tag, .string s.text, .slice s.aa s.an s.ac, .slice oka okn okc, .int .i64 orow, .int .i64 (opos : Nat)]) hoA.out true hok.out ?_) | (rw [← hS2.out]))
            obtain ⟨D, n, V, m1, m2, m3, m4, m5, m6, m7, m8, m9⟩ := hrS.out.ex
            have hq0 : (fun U : World => U.cell? ⟨wr.heap.size, 5, none⟩ = some (.int .i64 s.row) ∧ U.cell? ⟨wr.heap.size + 1, 6, none⟩ = some (.int .i64 (opos : Nat)) ∧ U.ownsMap Try.prog 3 R (w3.heap.size + 1) n D) S2.drew := ⟨p5, q6, m1⟩
            have hVr := m6 s.row
            have hlenr := rowsOf_len A (B.take k) s.row
            rw [List.length_take, Nat.min_eq_left (by omega)] at hlenr
            replace m4 := Lib.hid m4
            replace m5 := Lib.hid m5
            replace m6 := Lib.hid m6
            replace m7 := Lib.hid m7
            replace m8 := Lib.hid m8
            replace m9 := Lib.hid m9
            replace hVr := Lib.hid hVr
            refine region_but (fun U : World => U.cell? ⟨wr.heap.size, 5, none⟩ = some (.int .i64 s.row) ∧ U.cell? ⟨wr.heap.size + 1, 6, none⟩ = some (.int .i64 (opos : Nat)) ∧ U.ownsMap Try.prog 3 R (w3.heap.size + 1) n D) 11 (by kernel_rfl) ?_
            refine AnyBut.take 0 (d := some 160) (v := ?_) rfl rfl (by kernel_rfl) (by decide) (by kernel_rfl) (by kernel_rfl) (by kernel_rfl) (fun _ _ _ h => h) (by rfl) (by assumption) ?_ ?_
            rotate_left
            · intro U hU; obtain ⟨y0, y1, y2⟩ := hU; go_simp <;> with_reducible rfl
            try simp only [Act.put, List.setIfInBounds_toArray, List.set_cons_zero, List.set_cons_succ]
            refine AnyBut.take 1 (d := some 161) (v := ?_) rfl rfl (by kernel_rfl) (by decide) (by kernel_rfl) (by kernel_rfl) (by kernel_rfl) (fun _ _ _ h => h) (by rfl) (by assumption) ?_ ?_
            rotate_left
            · intro U hU; obtain ⟨y0, y1, y2⟩ := hU; go_simp <;> with_reducible rfl
            try simp only [Act.put, List.setIfInBounds_toArray, List.set_cons_zero, List.set_cons_succ]
            refine AnyBut.take 2 (d := some 162) (v := ?_) rfl rfl (by kernel_rfl) (by decide) (by kernel_rfl) (by kernel_rfl) (by kernel_rfl) (fun _ _ _ h => h) (by rfl) (by assumption) ?_ ?_
            rotate_left
            · intro U hU; obtain ⟨y0, y1, y2⟩ := hU; go_simp <;> with_reducible rfl
            try simp only [Act.put, List.setIfInBounds_toArray, List.set_cons_zero, List.set_cons_succ]
            refine AnyBut.take 3 (d := some 163) (v := ?_) rfl rfl (by kernel_rfl) (by decide) (by kernel_rfl) (by kernel_rfl) (by kernel_rfl) (fun _ _ _ h => h) (by rfl) (by assumption) ?_ ?_
            rotate_left
            · intro U hU; obtain ⟨y0, y1, y2⟩ := hU; go_simp <;> with_reducible rfl
            try simp only [Act.put, List.setIfInBounds_toArray, List.set_cons_zero, List.set_cons_succ]
            refine AnyBut.take 4 (d := some 164) (v := ?_) rfl rfl (by kernel_rfl) (by decide) (by kernel_rfl) (by kernel_rfl) (by kernel_rfl) (fun _ _ _ h => h) (by rfl) (by assumption) ?_ ?_
            rotate_left
            · intro U hU; obtain ⟨y0, y1, y2⟩ := hU; go_simp <;> with_reducible rfl
            try simp only [Act.put, List.setIfInBounds_toArray, List.set_cons_zero, List.set_cons_succ]
            refine AnyBut.take 5 (d := some 165) (v := ?_) rfl rfl (by kernel_rfl) (by decide) (by kernel_rfl) (by kernel_rfl) (by kernel_rfl) (fun _ _ _ h => h) (by rfl) (by assumption) ?_ ?_
            rotate_left
            · intro U hU; obtain ⟨y0, y1, y2⟩ := hU; go_simp <;> with_reducible rfl
            try simp only [Act.put, List.setIfInBounds_toArray, List.set_cons_zero, List.set_cons_succ]
            refine AnyBut.take 6 (d := some 166) (v := V s.row) rfl rfl (by kernel_rfl) (by decide) (by kernel_rfl) (by kernel_rfl) (by kernel_rfl) (fun _ _ _ h => h) (by rfl) (by assumption) ?_ ?_
            · intro U hU
              have hrun := rows_look hU.2.2 s.row hgr (V s.row) hVr.out
              clear hU
              go_simp
            try simp only [Act.put, List.setIfInBounds_toArray, List.set_cons_zero, List.set_cons_succ]
            refine AnyBut.take 7 (d := some 167) (v := ?_) rfl rfl (by kernel_rfl) (by decide) (by kernel_rfl) (by kernel_rfl) (by kernel_rfl) (fun _ _ _ h => h) (by rfl) (by assumption) ?_ ?_
            rotate_left
            · intro U hU; obtain ⟨y0, y1, y2⟩ := hU; go_simp <;> with_reducible rfl
            try simp only [Act.put, List.setIfInBounds_toArray, List.set_cons_zero, List.set_cons_succ]
            refine AnyBut.take 8 (d := some 168) (v := ?_) rfl rfl (by kernel_rfl) (by decide) (by kernel_rfl) (by kernel_rfl) (by kernel_rfl) (fun _ _ _ h => h) (by rfl) (by assumption) ?_ ?_
            rotate_left
            · intro U hU; obtain ⟨y0, y1, y2⟩ := hU; go_simp <;> with_reducible rfl
            try simp only [Act.put, List.setIfInBounds_toArray, List.set_cons_zero, List.set_cons_succ]
            obtain ⟨W3, hW3⟩ : ∃ W3, W3 = (S2.alloc (.cells #[.int .i64 (opos : Nat)] 3)).drew := ⟨_, rfl⟩
            have hb23 : Below S2.heap.size S2 W3 := by rw [hW3]; exact ((Below.refl _ S2).alloc (Nat.le_refl _) _).drew
            have hzW3 : W3.heap.size = S2.heap.size + 1 := by rw [hW3]; simp
            have hnew : ∀ j u, ([Value.int .i64 (opos : Nat)] : List Value)[j]? = some u → W3.cell? ((⟨wr.heap.size + 2, 0, none⟩ : Addr).add j) = some u := by
              rw [hW3, ← hzS]; exact cell_one_new S2 _ 3
            have h13 : W3.cell? ⟨wr.heap.size, 5, none⟩ = some (.int .i64 s.row) := (hb23.cell (p := ⟨wr.heap.size, 5, none⟩) (by show wr.heap.size < _; omega)).trans p5
            have h14 : W3.cell? ⟨wr.heap.size + 1, 6, none⟩ = some (.int .i64 (opos : Nat)) := (hb23.cell (p := ⟨wr.heap.size + 1, 6, none⟩) (by show wr.heap.size + 1 < _; omega)).trans q6
            have hm3 : W3.ownsMap Try.prog 3 R (w3.heap.size + 1) n D := m1.kept (below_none hb23) (by simp)
            have hg23 := below_none hb23
            replace hW3 := Lib.hid hW3
            replace hnew := Lib.hid hnew
            replace hb23 := Lib.hid hb23
            replace hg23 := Lib.hid hg23
            refine AnyBut.one 9 rfl (by kernel_rfl) (fun K hK => ?_)
            go_simp
            rw [← hW3.out]
            refine hK.out _ _ (fun _ => (⟨h13, h14, hm3⟩ : (fun U : World => U.cell? ⟨wr.heap.size, 5, none⟩ = some (.int .i64 s.row) ∧ U.cell? ⟨wr.heap.size + 1, 6, none⟩ = some (.int .i64 (opos : Nat)) ∧ U.ownsMap Try.prog 3 R (w3.heap.size + 1) n D) W3)) ?_
            clear hK K hq0
            try simp only [Act.put, List.setIfInBounds_toArray, List.set_cons_zero, List.set_cons_succ]
            refine AnyBut.one 10 rfl (by kernel_rfl) (fun K hK => ?_)
            refine step_append_row (by rfl) _ _ 41 (by rfl) (w3.heap.size + 2) 3 i0 (.int .i64 0) 1 8 Try.underlying41 hi hz0 hz1' hz2' rfl (by decide) (V s.row) _ _ (by rfl) (World.ownsRow.kept (m7.out s.row) hg23.out (Classical.em _)) ⟨wr.heap.size + 2, 0, none⟩ 1 1 [.int .i64 (opos : Nat)] (by rfl) rfl hnew.out (ints_oneCell .i64 [(opos : Int)]) (by unfold maxLen; omega) (by omega) (by omega) (by omega) ?_
            intro g5 c5 W5 hown5 hgrow5 hg5
            have hz5 := hgrow5.size
            have hgr5 : S2.grownBy W5 (V s.row).ownBlock := grown_after hg23.out hgrow5
            have hlow5 : ∀ b, (V s.row).ownBlock = some b → w3.heap.size + 2 ≤ b := fun b hb => ((m7.out s.row).lt b hb).1
            have h135 : W5.cell? ⟨wr.heap.size, 5, none⟩ = some (.int .i64 s.row) := (cell_grown hgrow5 (p := ⟨wr.heap.size, 5, none⟩) (by show wr.heap.size < _; omega) (fun e => by
              have hl := (m7.out s.row).lt _ e
              exact seat_no_row (s := s.row) hs13.out (m7.out s.row) e)).trans h13
            have h145 : W5.cell? ⟨wr.heap.size + 1, 6, none⟩ = some (.int .i64 (opos : Nat)) := (cell_grown hgrow5 (p := ⟨wr.heap.size + 1, 6, none⟩) (by show wr.heap.size + 1 < _; omega) (fun e => seat_no_row (s := s.row) hs14.out (m7.out s.row) e)).trans h14
            have hm5 : W5.ownsMap Try.prog 3 R (w3.heap.size + 1) n D := hm3.kept hgrow5 (fun e => by have := hlow5 _ e.symm; omega)
            refine hK.out _ _ (fun _ => (⟨h135, h145, hm5⟩ : (fun U : World => U.cell? ⟨wr.heap.size, 5, none⟩ = some (.int .i64 s.row) ∧ U.cell? ⟨wr.heap.size + 1, 6, none⟩ = some (.int .i64 (opos : Nat)) ∧ U.ownsMap Try.prog 3 R (w3.heap.size + 1) n D) W5)) ?_
            clear hK K
            try simp only [Act.put, List.setIfInBounds_toArray, List.set_cons_zero, List.set_cons_succ]
            obtain ⟨w6, hrun6, hown6, hgrow6⟩ := hm5.update law3 Try.underlying43 (show n < maxLen by unfold maxLen; omega) (keyOf_int_mk Try.underlying3 hgr) (show R (.slice (some ⟨g5, 0, none⟩) ((rowsOf A (B.take k) s.row).length + 1) c5) = some (.held (.slice (some ⟨g5, 0, none⟩) ((rowsOf A (B.take k) s.row).length + 1) c5), []) from rfl)
            have hro6 : Hid (RowsAt w6 (w3.heap.size + 2) (w3.heap.size + 1) (n + 1) (fun r => if r = s.row then rowsOf A (B.take k) s.row ++ [(opos : Int)] else rowsOf A (B.take k) r)) := by
              refine RowsAt.step s.row (opos : Int) _ m1 m3 m4.out m5.out m6.out m7.out m8.out m9.out ?_ hgr5 ?_ (by omega) hown6 hgrow6
              · show W5.ownsRow _ _ _ _ _ _
                rw [List.length_append, List.map_append]
                exact hown5
              · rcases hg5 with e | e
                · exact .inl (by rw [e]; rfl)
                · exact .inr ⟨g5, rfl, by rw [e]; omega⟩
            have hz6 := hgrow6.size
            have hco6 : Hid (CostRow w6 w3.heap.size (made A (B.take k) : Nat) 0 (att A (B.take k) : Nat) ((made A (B.take k) : Int) + moved A (B.take k)) 0) :=
              (hgrow6.block _ (by omega) (fun e => by injection e with e; omega)).trans ((hgr5.block _ (by omega) (fun e => by have := hlow5 _ e.symm; omega)).trans hcS.out)
            have hb6 : Hid (Below w3.heap.size w3 w6) := (hbS.out.grown hgr5 (by omega) (fun b hb => by have := hlow5 b hb; omega)).grown hgrow6 (by omega) (fun b hb => by injection hb with hb; omega)
            replace hrun6 := hrun6
            clear hown5 hgrow5 hgr5 h135 h145 hm5 h13 h14 hm3 m1 hg5
            refine AnyBut.one 11 rfl (by kernel_rfl) (fun K hK => ?_)
            go_simp
            refine hK.out _ _ (fun h => absurd rfl h) ?_
            clear hK K
            refine AnyBut.done (by kernel_rfl) ?_
            clear hrun6
            go_wp2_with fail
            go_roundw
            case rel => exact ⟨k + 1, by omega, by go_num, hb6.out, by omega, by rw [htk.out, made_snoc, moved_snoc, att_snoc, hsk.out]; simpa [htag, hrow.out] using hco6.out, by rw [htk.out]; exact (rows_more hsk.out hrow.out hro6.out).mono (by omega)⟩
            case measure => simp [intOf]; omega
          · obtain ⟨wo, hwo⟩ : ∃ wo : World, wo = wr := ⟨_, rfl⟩
            subst hwo
            obtain ⟨S2, hS2⟩ : ∃ S2, S2 = (wo.alloc (.cells #[.int .i64 s.id, .string s.tag, .string s.text, .slice s.aa s.an s.ac, .slice s.ka s.kn s.kc, .int .i64 s.row, .int .i64 (s.pos : Nat)] 45)).alloc (.cells #[.int .i64 oid, .string s.tag, .string s.text, .slice s.aa s.an s.ac, .slice oka okn okc, .int .i64 orow, .int .i64 (opos : Nat)] 45) := ⟨_, rfl⟩
            have hb2' : Below wo.heap.size wo S2 := by rw [hS2]; exact ((Below.refl _ wo).alloc (Nat.le_refl _) _).alloc (by simp) _
            have hzS : S2.heap.size = wo.heap.size + 2 := by rw [hS2]; simp
            have hs13 : S2.heap[wo.heap.size]? = some (.cells #[.int .i64 s.id, .string s.tag, .string s.text, .slice s.aa s.an s.ac, .slice s.ka s.kn s.kc, .int .i64 s.row, .int .i64 (s.pos : Nat)] 45 (0, 0)) := by rw [hS2]; exact (Below.heap_alloc _ _ _ (by simp)).trans (heap_alloc_new wo _)
            have hs14 : S2.heap[wo.heap.size + 1]? = some (.cells #[.int .i64 oid, .string s.tag, .string s.text, .slice s.aa s.an s.ac, .slice oka okn okc, .int .i64 orow, .int .i64 (opos : Nat)] 45 (0, 0)) := by
              rw [hS2]
              have := heap_alloc_new (wo.alloc (.cells #[.int .i64 s.id, .string s.tag, .string s.text, .slice s.aa s.an s.ac, .slice s.ka s.kn s.kc, .int .i64 s.row, .int .i64 (s.pos : Nat)] 45)) (.cells #[.int .i64 oid, .string s.tag, .string s.text, .slice s.aa s.an s.ac, .slice oka okn okc, .int .i64 orow, .int .i64 (opos : Nat)] 45)
              rw [show (wo.alloc (.cells #[.int .i64 s.id, .string s.tag, .string s.text, .slice s.aa s.an s.ac, .slice s.ka s.kn s.kc, .int .i64 s.row, .int .i64 (s.pos : Nat)] 45)).heap.size = wo.heap.size + 1 by simp] at this
              exact this
            have hcS : CostRow S2 w3.heap.size (made A (B.take k) : Nat) 0 (att A (B.take k) : Nat) ((made A (B.take k) : Int) + moved A (B.take k)) 0 := (hb2'.block _ (by omega)).trans hco
            have hrS : RowsAt S2 (w3.heap.size + 2) (w3.heap.size + 1) k (rowsOf A (B.take k)) := hro.below hb2'
            have hbS : Below w3.heap.size w3 S2 := hb.trans (hb2'.mono (by omega))
            obtain ⟨p1, p2, p3, p5, p6⟩ := seat_cells hs13
            obtain ⟨q1, q2, q3, q5, q6⟩ := seat_cells hs14
            obtain ⟨d0, d1, d2, d3, d4⟩ := hcS.cells
            have e0 := hcS.fr 0
            have e3 := hcS.fr 3
            replace hS2 := Lib.hid hS2
            replace hs13 := Lib.hid hs13
            replace hs14 := Lib.hid hs14
            replace hcS := Lib.hid hcS
            replace hrS := Lib.hid hrS
            replace hbS := Lib.hid hbS
            clear hb hb2' hco hro
            have htg : s.tag.toList.isEmpty = false := by simpa using htag
            go_wp2_with (first | (at_lookup; refine wpList_look _ rfl _ _ rfl (w.heap.size + 2) _ _ rfl hmB.out s.id rfl hgs (.agg #[.int .i64 s.id, .string s.tag, .string s.text, .slice s.aa s.an s.ac, .slice s.ka s.kn s.kc, .int .i64 s.row, .int .i64 (s.pos : Nat)]) hatB.out ?_) | (at_lookup; refine wpList_look_ok _ rfl _ _ rfl (w.heap.size + 1) _ _ rfl (hmA.out.alloc _) s.id rfl hgs (.agg #[.int .i64 oid, .string s.tag, .string s.text, .slice s.aa s.an s.ac, .slice oka okn okc, .int .i64 orow, .int .i64 (opos : Nat)]) hoA.out true hok.out ?_) | (rw [← hS2.out]))
            have hL1 := hbS
            have hL2 : wo.heap.size + 2 ≤ S2.heap.size := by omega
            have hL3 := hcS
            have hL4 := hrS
            have hL5 := hs13
            have hL6 := hs14
            go_loopw [96] (fun i wy => ∃ m : Nat, m ≤ s.an ∧ i = .int .i64 (m : Nat) ∧ Below w3.heap.size w3 wy ∧ wo.heap.size + 2 ≤ wy.heap.size ∧ CostRow wy w3.heap.size (made A (B.take k) : Nat) 0 (att A (B.take k) : Nat) ((made A (B.take k) : Int) + moved A (B.take k)) 0 ∧ RowsAt wy (w3.heap.size + 2) (w3.heap.size + 1) k (rowsOf A (B.take k)) ∧ wy.heap[wo.heap.size]? = some (.cells #[.int .i64 s.id, .string s.tag, .string s.text, .slice s.aa s.an s.ac, .slice s.ka s.kn s.kc, .int .i64 s.row, .int .i64 (s.pos : Nat)] 45 (0, 0)) ∧ wy.heap[wo.heap.size + 1]? = some (.cells #[.int .i64 oid, .string s.tag, .string s.text, .slice s.aa s.an s.ac, .slice oka okn okc, .int .i64 orow, .int .i64 (opos : Nat)] 45 (0, 0))) (fun i _ => s.an - (intOf i).toNat)
            case atStart => exact ⟨0, Nat.zero_le _, rfl, hL1.out, hL2, by simpa using hL3.out, hL4.out, hL5.out, hL6.out⟩
            case round =>
              obtain ⟨m, hm, rfl, by1, hy2, hy3, hy4, hy5, hy6⟩ := hrel
              obtain ⟨p1, p2, p3, p5, p6⟩ := seat_cells hy5
              obtain ⟨q1, q2, q3, q5, q6⟩ := seat_cells hy6
              obtain ⟨d0, d1, d2, d3, d4⟩ := hy3.cells
              have e0 := hy3.fr 0
              have e2 := hy3.fr 2
              have e3 := hy3.fr 3
              by_cases hmlt : m < s.an
              · have hbw : Below w.heap.size w wr := hb3.out.trans (by1.mono (by omega))
                have hmlt9 : Hid (m + 1 ≤ s.an) := hmlt
                have hle9 := (hfB.out s hsB).le
                have hFw := (hfB.out s hsB).kept hbw
                obtain ⟨b, o, haa, hbB, hcF⟩ := hFw.at_ (by omega)
                obtain ⟨q, hq⟩ : ∃ q, q = AL s m := ⟨_, rfl⟩
                have gc : ∀ j, j < 9 → wr.cell? ⟨b, o + (m * 9 + j), none⟩ = (fieldCells (AN s m) q)[j]? := fun j hj => by rw [hq]; exact hcF m hmlt j hj
                have x0 : wr.cell? ⟨b, o + m * 9, none⟩ = some (.string (AN s m)) := gc 0 (by omega)
                have x1 : wr.cell? ⟨b, o + m * 9 + 1, none⟩ = some (.int .u8 q.kind) := by rw [Nat.add_assoc]; exact gc 1 (by omega)
                have x2 : wr.cell? ⟨b, o + m * 9 + 2, none⟩ = some (.int .i64 q.n) := by rw [Nat.add_assoc]; exact gc 2 (by omega)
                have x3 : wr.cell? ⟨b, o + m * 9 + 3, none⟩ = some (.string q.s) := by rw [Nat.add_assoc]; exact gc 3 (by omega)
                have x4 : wr.cell? ⟨b, o + m * 9 + 4, none⟩ = some (.slice q.la q.ln q.lc) := by rw [Nat.add_assoc]; exact gc 4 (by omega)
                have x5 : wr.cell? ⟨b, o + m * 9 + 5, none⟩ = some (.slice q.fa q.fn q.fc) := by rw [Nat.add_assoc]; exact gc 5 (by omega)
                have x6 : wr.cell? ⟨b, o + m * 9 + 6, none⟩ = some (.int .u8 q.elem) := by rw [Nat.add_assoc]; exact gc 6 (by omega)
                have x7 : wr.cell? ⟨b, o + m * 9 + 7, none⟩ = some (.string q.key) := by rw [Nat.add_assoc]; exact gc 7 (by omega)
                have x8 : wr.cell? ⟨b, o + m * 9 + 8, none⟩ = some (.bool q.hk) := by rw [Nat.add_assoc]; exact gc 8 (by omega)
                obtain ⟨S3, hS3⟩ : ∃ S3, S3 = wr.alloc (.cells #[.string (AN s m), .int .u8 q.kind, .int .i64 q.n, .string q.s, .slice q.la q.ln q.lc, .slice q.fa q.fn q.fc, .int .u8 q.elem, .string q.key, .bool q.hk] 39) := ⟨_, rfl⟩
                have hb3' : Below wr.heap.size wr S3 := by rw [hS3]; exact (Below.refl _ _).alloc (Nat.le_refl _) _
                have hz3' : S3.heap.size = wr.heap.size + 1 := by rw [hS3]; simp
                have hrow3 : S3.heap[wr.heap.size]? = some (.cells #[.string (AN s m), .int .u8 q.kind, .int .i64 q.n, .string q.s, .slice q.la q.ln q.lc, .slice q.fa q.fn q.fc, .int .u8 q.elem, .string q.key, .bool q.hk] 39 (0, 0)) := by rw [hS3]; exact heap_alloc_new wr _
                have hbw3 : Below w.heap.size w S3 := hbw.trans (hb3'.mono (by have := hbw.size; omega))
                have hbw3z := hbw3.size
                have n0 : S3.cell? ⟨wr.heap.size, 0, none⟩ = some (.string (AN s m)) := by simp [World.cell?, hrow3]
                have p33 := (hb3'.cell (p := ⟨wo.heap.size, 3, none⟩) (by show wo.heap.size < _; omega)).trans p3
                have q33 := (hb3'.cell (p := ⟨wo.heap.size + 1, 3, none⟩) (by show wo.heap.size + 1 < _; omega)).trans q3
                have cA := attr_any w w.heap.size s.aa s.an s.ac (AN s) (AL s) (AN s m) (hfB.out s hsB) S3 hbw3 hbw3z
                rw [haa] at cA
                replace cA := Lib.hid cA
                replace hS3 := Lib.hid hS3
                replace hq := Lib.hid hq
                replace by1 := Lib.hid by1
                replace hy3 := Lib.hid hy3
                replace hy4 := Lib.hid hy4
                replace hy5 := Lib.hid hy5
                replace hy6 := Lib.hid hy6
                replace hbw := Lib.hid hbw
                replace hb3' := Lib.hid hb3'
                replace hrow3 := Lib.hid hrow3
                replace hFw := Lib.hid hFw
                replace hcF := Lib.hid hcF
                clear gc hbw3
                go_wp2_with (first | (rw [← hS3.out]) | (go_at_call 9; refine cA.out.mono ?_))
                first | rintro e W4 hres hb4 | rintro e W4 ⟨hres, hb4⟩
                have hz4 := hb4.size
                have he : e = .returned (.tuple #[q.val, .bool true]) := by
                  rcases hres with ⟨j, hj, hj1, hj2, h⟩ | ⟨hno, _⟩
                  · have hjm : j = m := by
                      rcases Nat.lt_trichotomy j m with h1 | h1 | h1
                      · exact absurd hj1 (hdB.out s hsB j m h1 hmlt)
                      · exact h1
                      · exact absurd rfl (hj2 m h1)
                    rw [h, hjm, hq.out]
                  · exact absurd rfl (hno m hmlt)
                subst he
                obtain ⟨S5, hS5⟩ : ∃ S5, S5 = W4.alloc (.cells #[.int .u8 q.kind, .int .i64 q.n, .string q.s, .slice q.la q.ln q.lc, .slice q.fa q.fn q.fc, .int .u8 q.elem, .string q.key, .bool q.hk] 37) := ⟨_, rfl⟩
                have hb5 : Below W4.heap.size W4 S5 := by rw [hS5]; exact (Below.refl _ _).alloc (Nat.le_refl _) _
                have hz5 : S5.heap.size = W4.heap.size + 1 := by rw [hS5]; simp
                have hb35 : Below S3.heap.size S3 S5 := hb4.trans (hb5.mono hz4)
                have hbr5 : Below wr.heap.size wr S5 := hb3'.out.trans (hb35.mono (by omega))
                have hc5 : CostRow S5 w3.heap.size (made A (B.take k) : Nat) 0 (att A (B.take k) : Nat) ((made A (B.take k) : Int) + moved A (B.take k)) 0 := (hbr5.block _ (by omega)).trans hy3.out
                have hr5 := hy4.out.below hbr5
                have hs5 := (hbr5.block wo.heap.size (by omega)).trans hy5.out
                have ht5 := (hbr5.block (wo.heap.size + 1) (by omega)).trans hy6.out
                have hbE5 := by1.out.trans (hbr5.mono (by omega))
                obtain ⟨c0, c1, c2, c3, c4⟩ := hc5.cells
                have f2 := hc5.fr 2
                have hrow5 : S5.heap[W4.heap.size]? = some (.cells #[.int .u8 q.kind, .int .i64 q.n, .string q.s, .slice q.la q.ln q.lc, .slice q.fa q.fn q.fc, .int .u8 q.elem, .string q.key, .bool q.hk] 37 (0, 0)) := by rw [hS5]; exact heap_alloc_new W4 _
                have hrow35 : S5.heap[wr.heap.size]? = some (.cells #[.string (AN s m), .int .u8 q.kind, .int .i64 q.n, .string q.s, .slice q.la q.ln q.lc, .slice q.fa q.fn q.fc, .int .u8 q.elem, .string q.key, .bool q.hk] 39 (0, 0)) := (hb35.block _ (by omega)).trans hrow3.out
                have u0 : S5.cell? ⟨W4.heap.size, 0, none⟩ = some (.int .u8 q.kind) := by simp [World.cell?, hrow5]
                have t0 : S5.cell? ⟨wr.heap.size, 1, none⟩ = some (.int .u8 q.kind) := by simp [World.cell?, hrow35]
                have u1 : S5.cell? ⟨W4.heap.size, 1, none⟩ = some (.int .i64 q.n) := by simp [World.cell?, hrow5]
                have t1 : S5.cell? ⟨wr.heap.size, 2, none⟩ = some (.int .i64 q.n) := by simp [World.cell?, hrow35]
                have u2 : S5.cell? ⟨W4.heap.size, 2, none⟩ = some (.string q.s) := by simp [World.cell?, hrow5]
                have t2 : S5.cell? ⟨wr.heap.size, 3, none⟩ = some (.string q.s) := by simp [World.cell?, hrow35]
                have u3 : S5.cell? ⟨W4.heap.size, 3, none⟩ = some (.slice q.la q.ln q.lc) := by simp [World.cell?, hrow5]
                have t3 : S5.cell? ⟨wr.heap.size, 4, none⟩ = some (.slice q.la q.ln q.lc) := by simp [World.cell?, hrow35]
                have u4 : S5.cell? ⟨W4.heap.size, 4, none⟩ = some (.slice q.fa q.fn q.fc) := by simp [World.cell?, hrow5]
                have t4 : S5.cell? ⟨wr.heap.size, 5, none⟩ = some (.slice q.fa q.fn q.fc) := by simp [World.cell?, hrow35]
                have u5 : S5.cell? ⟨W4.heap.size, 5, none⟩ = some (.int .u8 q.elem) := by simp [World.cell?, hrow5]
                have t5 : S5.cell? ⟨wr.heap.size, 6, none⟩ = some (.int .u8 q.elem) := by simp [World.cell?, hrow35]
                have u6 : S5.cell? ⟨W4.heap.size, 6, none⟩ = some (.string q.key) := by simp [World.cell?, hrow5]
                have t6 : S5.cell? ⟨wr.heap.size, 7, none⟩ = some (.string q.key) := by simp [World.cell?, hrow35]
                have u7 : S5.cell? ⟨W4.heap.size, 7, none⟩ = some (.bool q.hk) := by simp [World.cell?, hrow5]
                have t7 : S5.cell? ⟨wr.heap.size, 8, none⟩ = some (.bool q.hk) := by simp [World.cell?, hrow35]
                have cSame : Calls Try.prog 10 #[q.val, q.val] S5 fun e w' => e = .returned (.bool true) ∧ Below S5.heap.size S5 w' := by
                  rw [hq.out]; exact hvB.out s hsB m hmlt S5 (hbw.out.trans (hbr5.mono (by have := hbw.out.size; omega))) (by have := hbw.out.size; omega)
                unfold Val.val at cSame
                replace cSame := Lib.hid cSame
                replace hrow5 := Lib.hid hrow5
                replace hrow35 := Lib.hid hrow35
                replace hS5 := Lib.hid hS5
                replace hc5 := Lib.hid hc5
                replace hr5 := Lib.hid hr5
                replace hs5 := Lib.hid hs5
                replace ht5 := Lib.hid ht5
                replace hbE5 := Lib.hid hbE5
                clear hres hb4 hb5 hb35 hbr5 cA
                unfold Val.val
                go_wp2_with (first | (rw [← hS5.out]) | (go_at_call 10; refine cSame.out.mono ?_))
                first | rintro e W6 rfl hb6 | rintro e W6 ⟨rfl, hb6⟩
                have hz6 := hb6.size
                have hc9 := Lib.hid ((hb6.block _ (by omega)).trans hc5.out)
                have hb9 := Lib.hid (hbE5.out.trans (hb6.mono (by omega)))
                have hr9 := Lib.hid (hr5.out.below hb6)
                have hs9 := Lib.hid ((hb6.block _ (by omega)).trans hs5.out)
                have ht9 := Lib.hid ((hb6.block _ (by omega)).trans ht5.out)
                clear hb6 cSame
                go_wp2_with fail
                (try rw [← haa])
                replace haa := Lib.hid haa
                go_roundw
                case rel => exact ⟨m + 1, hmlt9.out, by go_num, hb9.out, by omega, hc9.out, hr9.out, hs9.out, ht9.out⟩
                case measure => simp [intOf]; have := hmlt9.out; omega
              · obtain rfl : m = s.an := by omega
                have hL1 := Lib.hid by1
                have hL2 := hy2
                have hL3 := Lib.hid hy3
                have hL4 := Lib.hid hy4
                have hL5 := Lib.hid hy5
                have hL6 := Lib.hid hy6
                clear by1 hy3 hy4 hy5 hy6
                go_wp2_with fail
                go_loopw [127] (fun i wy => ∃ m : Nat, m ≤ s.an ∧ i = .int .i64 (m : Nat) ∧ Below w3.heap.size w3 wy ∧ wo.heap.size + 2 ≤ wy.heap.size ∧ CostRow wy w3.heap.size (made A (B.take k) : Nat) 0 (att A (B.take k) : Nat) ((made A (B.take k) : Int) + moved A (B.take k)) 0 ∧ RowsAt wy (w3.heap.size + 2) (w3.heap.size + 1) k (rowsOf A (B.take k)) ∧ wy.heap[wo.heap.size]? = some (.cells #[.int .i64 s.id, .string s.tag, .string s.text, .slice s.aa s.an s.ac, .slice s.ka s.kn s.kc, .int .i64 s.row, .int .i64 (s.pos : Nat)] 45 (0, 0)) ∧ wy.heap[wo.heap.size + 1]? = some (.cells #[.int .i64 oid, .string s.tag, .string s.text, .slice s.aa s.an s.ac, .slice oka okn okc, .int .i64 orow, .int .i64 (opos : Nat)] 45 (0, 0))) (fun i _ => s.an - (intOf i).toNat)
                case atStart => exact ⟨0, Nat.zero_le _, rfl, hL1.out, hL2, by simpa using hL3.out, hL4.out, hL5.out, hL6.out⟩
                case round =>
                  obtain ⟨m, hm, rfl, by1, hy2, hy3, hy4, hy5, hy6⟩ := hrel
                  obtain ⟨p1, p2, p3, p5, p6⟩ := seat_cells hy5
                  obtain ⟨q1, q2, q3, q5, q6⟩ := seat_cells hy6
                  obtain ⟨d0, d1, d2, d3, d4⟩ := hy3.cells
                  have e0 := hy3.fr 0
                  have e2 := hy3.fr 2
                  have e3 := hy3.fr 3
                  by_cases hmlt : m < s.an
                  · have hbw : Below w.heap.size w wr := hb3.out.trans (by1.mono (by omega))
                    have hmlt9 : Hid (m + 1 ≤ s.an) := hmlt
                    have hle9 := (hfB.out s hsB).le
                    have hFw := (hfB.out s hsB).kept hbw
                    obtain ⟨b, o, haa, hbB, hcF⟩ := hFw.at_ (by omega)
                    obtain ⟨q, hq⟩ : ∃ q, q = AL s m := ⟨_, rfl⟩
                    have gc : ∀ j, j < 9 → wr.cell? ⟨b, o + (m * 9 + j), none⟩ = (fieldCells (AN s m) q)[j]? := fun j hj => by rw [hq]; exact hcF m hmlt j hj
                    have x0 : wr.cell? ⟨b, o + m * 9, none⟩ = some (.string (AN s m)) := gc 0 (by omega)
                    have x1 : wr.cell? ⟨b, o + m * 9 + 1, none⟩ = some (.int .u8 q.kind) := by rw [Nat.add_assoc]; exact gc 1 (by omega)
                    have x2 : wr.cell? ⟨b, o + m * 9 + 2, none⟩ = some (.int .i64 q.n) := by rw [Nat.add_assoc]; exact gc 2 (by omega)
                    have x3 : wr.cell? ⟨b, o + m * 9 + 3, none⟩ = some (.string q.s) := by rw [Nat.add_assoc]; exact gc 3 (by omega)
                    have x4 : wr.cell? ⟨b, o + m * 9 + 4, none⟩ = some (.slice q.la q.ln q.lc) := by rw [Nat.add_assoc]; exact gc 4 (by omega)
                    have x5 : wr.cell? ⟨b, o + m * 9 + 5, none⟩ = some (.slice q.fa q.fn q.fc) := by rw [Nat.add_assoc]; exact gc 5 (by omega)
                    have x6 : wr.cell? ⟨b, o + m * 9 + 6, none⟩ = some (.int .u8 q.elem) := by rw [Nat.add_assoc]; exact gc 6 (by omega)
                    have x7 : wr.cell? ⟨b, o + m * 9 + 7, none⟩ = some (.string q.key) := by rw [Nat.add_assoc]; exact gc 7 (by omega)
                    have x8 : wr.cell? ⟨b, o + m * 9 + 8, none⟩ = some (.bool q.hk) := by rw [Nat.add_assoc]; exact gc 8 (by omega)
                    obtain ⟨S3, hS3⟩ : ∃ S3, S3 = wr.alloc (.cells #[.string (AN s m), .int .u8 q.kind, .int .i64 q.n, .string q.s, .slice q.la q.ln q.lc, .slice q.fa q.fn q.fc, .int .u8 q.elem, .string q.key, .bool q.hk] 39) := ⟨_, rfl⟩
                    have hb3' : Below wr.heap.size wr S3 := by rw [hS3]; exact (Below.refl _ _).alloc (Nat.le_refl _) _
                    have hz3' : S3.heap.size = wr.heap.size + 1 := by rw [hS3]; simp
                    have hrow3 : S3.heap[wr.heap.size]? = some (.cells #[.string (AN s m), .int .u8 q.kind, .int .i64 q.n, .string q.s, .slice q.la q.ln q.lc, .slice q.fa q.fn q.fc, .int .u8 q.elem, .string q.key, .bool q.hk] 39 (0, 0)) := by rw [hS3]; exact heap_alloc_new wr _
                    have hbw3 : Below w.heap.size w S3 := hbw.trans (hb3'.mono (by have := hbw.size; omega))
                    have hbw3z := hbw3.size
                    have n0 : S3.cell? ⟨wr.heap.size, 0, none⟩ = some (.string (AN s m)) := by simp [World.cell?, hrow3]
                    have p33 := (hb3'.cell (p := ⟨wo.heap.size, 3, none⟩) (by show wo.heap.size < _; omega)).trans p3
                    have q33 := (hb3'.cell (p := ⟨wo.heap.size + 1, 3, none⟩) (by show wo.heap.size + 1 < _; omega)).trans q3
                    have cA := attr_any w w.heap.size s.aa s.an s.ac (AN s) (AL s) (AN s m) (hfB.out s hsB) S3 hbw3 hbw3z
                    rw [haa] at cA
                    replace cA := Lib.hid cA
                    replace hS3 := Lib.hid hS3
                    replace hq := Lib.hid hq
                    replace by1 := Lib.hid by1
                    replace hy3 := Lib.hid hy3
                    replace hy4 := Lib.hid hy4
                    replace hy5 := Lib.hid hy5
                    replace hy6 := Lib.hid hy6
                    replace hbw := Lib.hid hbw
                    replace hb3' := Lib.hid hb3'
                    replace hrow3 := Lib.hid hrow3
                    replace hFw := Lib.hid hFw
                    replace hcF := Lib.hid hcF
                    clear gc hbw3
                    go_wp2_with (first | (rw [← hS3.out]) | (go_at_call 9; refine cA.out.mono ?_))
                    first | rintro e W4 hres hb4 | rintro e W4 ⟨hres, hb4⟩
                    have hz4 := hb4.size
                    have he : e = .returned (.tuple #[q.val, .bool true]) := by
                      rcases hres with ⟨j, hj, hj1, hj2, h⟩ | ⟨hno, _⟩
                      · have hjm : j = m := by
                          rcases Nat.lt_trichotomy j m with h1 | h1 | h1
                          · exact absurd hj1 (hdB.out s hsB j m h1 hmlt)
                          · exact h1
                          · exact absurd rfl (hj2 m h1)
                        rw [h, hjm, hq.out]
                      · exact absurd rfl (hno m hmlt)
                    subst he
                    obtain ⟨S5, hS5⟩ : ∃ S5, S5 = W4.alloc (.cells #[.int .u8 q.kind, .int .i64 q.n, .string q.s, .slice q.la q.ln q.lc, .slice q.fa q.fn q.fc, .int .u8 q.elem, .string q.key, .bool q.hk] 37) := ⟨_, rfl⟩
                    have hb5 : Below W4.heap.size W4 S5 := by rw [hS5]; exact (Below.refl _ _).alloc (Nat.le_refl _) _
                    have hz5 : S5.heap.size = W4.heap.size + 1 := by rw [hS5]; simp
                    have hb35 : Below S3.heap.size S3 S5 := hb4.trans (hb5.mono hz4)
                    have hbr5 : Below wr.heap.size wr S5 := hb3'.out.trans (hb35.mono (by omega))
                    have hc5 : CostRow S5 w3.heap.size (made A (B.take k) : Nat) 0 (att A (B.take k) : Nat) ((made A (B.take k) : Int) + moved A (B.take k)) 0 := (hbr5.block _ (by omega)).trans hy3.out
                    have hr5 := hy4.out.below hbr5
                    have hs5 := (hbr5.block wo.heap.size (by omega)).trans hy5.out
                    have ht5 := (hbr5.block (wo.heap.size + 1) (by omega)).trans hy6.out
                    have hbE5 := by1.out.trans (hbr5.mono (by omega))
                    obtain ⟨c0, c1, c2, c3, c4⟩ := hc5.cells
                    have f2 := hc5.fr 2
                    replace hS5 := Lib.hid hS5
                    replace hc5 := Lib.hid hc5
                    replace hr5 := Lib.hid hr5
                    replace hs5 := Lib.hid hs5
                    replace ht5 := Lib.hid ht5
                    replace hbE5 := Lib.hid hbE5
                    clear hres hb4 hb5 hb35 hbr5 cA
                    unfold Val.val
                    go_wp2_with (first | (rw [← hS5.out]) | fail)
                    (try rw [← haa])
                    replace haa := Lib.hid haa
                    go_roundw
                    case rel => exact ⟨m + 1, hmlt9.out, by go_num, hbE5.out, by omega, hc5.out, hr5.out, hs5.out, ht5.out⟩
                    case measure => simp [intOf]; have := hmlt9.out; omega
                  · obtain rfl : m = s.an := by omega
                    obtain ⟨S2, hS2w⟩ : ∃ S2 : World, S2 = wr := ⟨_, rfl⟩
                    subst hS2w
                    have hbS := Lib.hid by1
                    have hcS := Lib.hid hy3
                    have hrS := Lib.hid hy4
                    have hs13 := Lib.hid hy5
                    have hs14 := Lib.hid hy6
                    clear by1 hy3 hy4 hy5 hy6 hL1 hL3 hL4 hL5 hL6
                    go_wp2_with fail
                    obtain ⟨D, n, V, m1, m2, m3, m4, m5, m6, m7, m8, m9⟩ := hrS.out.ex
                    have hq0 : (fun U : World => U.cell? ⟨wo.heap.size, 5, none⟩ = some (.int .i64 s.row) ∧ U.cell? ⟨wo.heap.size + 1, 6, none⟩ = some (.int .i64 (opos : Nat)) ∧ U.ownsMap Try.prog 3 R (w3.heap.size + 1) n D) S2.drew := ⟨p5, q6, m1⟩
                    have hVr := m6 s.row
                    have hlenr := rowsOf_len A (B.take k) s.row
                    rw [List.length_take, Nat.min_eq_left (by omega)] at hlenr
                    replace m4 := Lib.hid m4
                    replace m5 := Lib.hid m5
                    replace m6 := Lib.hid m6
                    replace m7 := Lib.hid m7
                    replace m8 := Lib.hid m8
                    replace m9 := Lib.hid m9
                    replace hVr := Lib.hid hVr
                    refine region_but (fun U : World => U.cell? ⟨wo.heap.size, 5, none⟩ = some (.int .i64 s.row) ∧ U.cell? ⟨wo.heap.size + 1, 6, none⟩ = some (.int .i64 (opos : Nat)) ∧ U.ownsMap Try.prog 3 R (w3.heap.size + 1) n D) 11 (by kernel_rfl) ?_
                    refine AnyBut.take 0 (d := some 160) (v := ?_) rfl rfl (by kernel_rfl) (by decide) (by kernel_rfl) (by kernel_rfl) (by kernel_rfl) (fun _ _ _ h => h) (by rfl) (by assumption) ?_ ?_
                    rotate_left
                    · intro U hU; obtain ⟨y0, y1, y2⟩ := hU; go_simp <;> with_reducible rfl
                    try simp only [Act.put, List.setIfInBounds_toArray, List.set_cons_zero, List.set_cons_succ]
                    refine AnyBut.take 1 (d := some 161) (v := ?_) rfl rfl (by kernel_rfl) (by decide) (by kernel_rfl) (by kernel_rfl) (by kernel_rfl) (fun _ _ _ h => h) (by rfl) (by assumption) ?_ ?_
                    rotate_left
                    · intro U hU; obtain ⟨y0, y1, y2⟩ := hU; go_simp <;> with_reducible rfl
                    try simp only [Act.put, List.setIfInBounds_toArray, List.set_cons_zero, List.set_cons_succ]
                    refine AnyBut.take 2 (d := some 162) (v := ?_) rfl rfl (by kernel_rfl) (by decide) (by kernel_rfl) (by kernel_rfl) (by kernel_rfl) (fun _ _ _ h => h) (by rfl) (by assumption) ?_ ?_
                    rotate_left
                    · intro U hU; obtain ⟨y0, y1, y2⟩ := hU; go_simp <;> with_reducible rfl
                    try simp only [Act.put, List.setIfInBounds_toArray, List.set_cons_zero, List.set_cons_succ]
                    refine AnyBut.take 3 (d := some 163) (v := ?_) rfl rfl (by kernel_rfl) (by decide) (by kernel_rfl) (by kernel_rfl) (by kernel_rfl) (fun _ _ _ h => h) (by rfl) (by assumption) ?_ ?_
                    rotate_left
                    · intro U hU; obtain ⟨y0, y1, y2⟩ := hU; go_simp <;> with_reducible rfl
                    try simp only [Act.put, List.setIfInBounds_toArray, List.set_cons_zero, List.set_cons_succ]
                    refine AnyBut.take 4 (d := some 164) (v := ?_) rfl rfl (by kernel_rfl) (by decide) (by kernel_rfl) (by kernel_rfl) (by kernel_rfl) (fun _ _ _ h => h) (by rfl) (by assumption) ?_ ?_
                    rotate_left
                    · intro U hU; obtain ⟨y0, y1, y2⟩ := hU; go_simp <;> with_reducible rfl
                    try simp only [Act.put, List.setIfInBounds_toArray, List.set_cons_zero, List.set_cons_succ]
                    refine AnyBut.take 5 (d := some 165) (v := ?_) rfl rfl (by kernel_rfl) (by decide) (by kernel_rfl) (by kernel_rfl) (by kernel_rfl) (fun _ _ _ h => h) (by rfl) (by assumption) ?_ ?_
                    rotate_left
                    · intro U hU; obtain ⟨y0, y1, y2⟩ := hU; go_simp <;> with_reducible rfl
                    try simp only [Act.put, List.setIfInBounds_toArray, List.set_cons_zero, List.set_cons_succ]
                    refine AnyBut.take 6 (d := some 166) (v := V s.row) rfl rfl (by kernel_rfl) (by decide) (by kernel_rfl) (by kernel_rfl) (by kernel_rfl) (fun _ _ _ h => h) (by rfl) (by assumption) ?_ ?_
                    · intro U hU
                      have hrun := rows_look hU.2.2 s.row hgr (V s.row) hVr.out
                      clear hU
                      go_simp
                    try simp only [Act.put, List.setIfInBounds_toArray, List.set_cons_zero, List.set_cons_succ]
                    refine AnyBut.take 7 (d := some 167) (v := ?_) rfl rfl (by kernel_rfl) (by decide) (by kernel_rfl) (by kernel_rfl) (by kernel_rfl) (fun _ _ _ h => h) (by rfl) (by assumption) ?_ ?_
                    rotate_left
                    · intro U hU; obtain ⟨y0, y1, y2⟩ := hU; go_simp <;> with_reducible rfl
                    try simp only [Act.put, List.setIfInBounds_toArray, List.set_cons_zero, List.set_cons_succ]
                    refine AnyBut.take 8 (d := some 168) (v := ?_) rfl rfl (by kernel_rfl) (by decide) (by kernel_rfl) (by kernel_rfl) (by kernel_rfl) (fun _ _ _ h => h) (by rfl) (by assumption) ?_ ?_
                    rotate_left
                    · intro U hU; obtain ⟨y0, y1, y2⟩ := hU; go_simp <;> with_reducible rfl
                    try simp only [Act.put, List.setIfInBounds_toArray, List.set_cons_zero, List.set_cons_succ]
                    obtain ⟨W3, hW3⟩ : ∃ W3, W3 = (S2.alloc (.cells #[.int .i64 (opos : Nat)] 3)).drew := ⟨_, rfl⟩
                    have hb23 : Below S2.heap.size S2 W3 := by rw [hW3]; exact ((Below.refl _ S2).alloc (Nat.le_refl _) _).drew
                    have hzW3 : W3.heap.size = S2.heap.size + 1 := by rw [hW3]; simp
                    have hnew : ∀ j u, ([Value.int .i64 (opos : Nat)] : List Value)[j]? = some u → W3.cell? ((⟨S2.heap.size, 0, none⟩ : Addr).add j) = some u := by
                      rw [hW3]; exact cell_one_new S2 _ 3
                    have h13 : W3.cell? ⟨wo.heap.size, 5, none⟩ = some (.int .i64 s.row) := (hb23.cell (p := ⟨wo.heap.size, 5, none⟩) (by show wo.heap.size < _; omega)).trans p5
                    have h14 : W3.cell? ⟨wo.heap.size + 1, 6, none⟩ = some (.int .i64 (opos : Nat)) := (hb23.cell (p := ⟨wo.heap.size + 1, 6, none⟩) (by show wo.heap.size + 1 < _; omega)).trans q6
                    have hm3 : W3.ownsMap Try.prog 3 R (w3.heap.size + 1) n D := m1.kept (below_none hb23) (by simp)
                    have hg23 := below_none hb23
                    replace hW3 := Lib.hid hW3
                    replace hnew := Lib.hid hnew
                    replace hb23 := Lib.hid hb23
                    replace hg23 := Lib.hid hg23
                    refine AnyBut.one 9 rfl (by kernel_rfl) (fun K hK => ?_)
                    go_simp
                    rw [← hW3.out]
                    refine hK.out _ _ (fun _ => (⟨h13, h14, hm3⟩ : (fun U : World => U.cell? ⟨wo.heap.size, 5, none⟩ = some (.int .i64 s.row) ∧ U.cell? ⟨wo.heap.size + 1, 6, none⟩ = some (.int .i64 (opos : Nat)) ∧ U.ownsMap Try.prog 3 R (w3.heap.size + 1) n D) W3)) ?_
                    clear hK K hq0
                    try simp only [Act.put, List.setIfInBounds_toArray, List.set_cons_zero, List.set_cons_succ]
                    refine AnyBut.one 10 rfl (by kernel_rfl) (fun K hK => ?_)
                    refine step_append_row (by rfl) _ _ 41 (by rfl) (w3.heap.size + 2) 3 i0 (.int .i64 0) 1 8 Try.underlying41 hi hz0 hz1' hz2' rfl (by decide) (V s.row) _ _ (by rfl) (World.ownsRow.kept (m7.out s.row) hg23.out (Classical.em _)) ⟨S2.heap.size, 0, none⟩ 1 1 [.int .i64 (opos : Nat)] (by rfl) rfl hnew.out (ints_oneCell .i64 [(opos : Int)]) (by unfold maxLen; omega) (by omega) (by omega) (by omega) ?_
                    intro g5 c5 W5 hown5 hgrow5 hg5
                    have hz5 := hgrow5.size
                    have hgr5 : S2.grownBy W5 (V s.row).ownBlock := grown_after hg23.out hgrow5
                    have hlow5 : ∀ b, (V s.row).ownBlock = some b → w3.heap.size + 2 ≤ b := fun b hb => ((m7.out s.row).lt b hb).1
                    have h135 : W5.cell? ⟨wo.heap.size, 5, none⟩ = some (.int .i64 s.row) := (cell_grown hgrow5 (p := ⟨wo.heap.size, 5, none⟩) (by show wo.heap.size < _; omega) (fun e => by
                      have hl := (m7.out s.row).lt _ e
                      exact seat_no_row (s := s.row) hs13.out (m7.out s.row) e)).trans h13
                    have h145 : W5.cell? ⟨wo.heap.size + 1, 6, none⟩ = some (.int .i64 (opos : Nat)) := (cell_grown hgrow5 (p := ⟨wo.heap.size + 1, 6, none⟩) (by show wo.heap.size + 1 < _; omega) (fun e => seat_no_row (s := s.row) hs14.out (m7.out s.row) e)).trans h14
                    have hm5 : W5.ownsMap Try.prog 3 R (w3.heap.size + 1) n D := hm3.kept hgrow5 (fun e => by have := hlow5 _ e.symm; omega)
                    refine hK.out _ _ (fun _ => (⟨h135, h145, hm5⟩ : (fun U : World => U.cell? ⟨wo.heap.size, 5, none⟩ = some (.int .i64 s.row) ∧ U.cell? ⟨wo.heap.size + 1, 6, none⟩ = some (.int .i64 (opos : Nat)) ∧ U.ownsMap Try.prog 3 R (w3.heap.size + 1) n D) W5)) ?_
                    clear hK K
                    try simp only [Act.put, List.setIfInBounds_toArray, List.set_cons_zero, List.set_cons_succ]
                    obtain ⟨w6, hrun6, hown6, hgrow6⟩ := hm5.update law3 Try.underlying43 (show n < maxLen by unfold maxLen; omega) (keyOf_int_mk Try.underlying3 hgr) (show R (.slice (some ⟨g5, 0, none⟩) ((rowsOf A (B.take k) s.row).length + 1) c5) = some (.held (.slice (some ⟨g5, 0, none⟩) ((rowsOf A (B.take k) s.row).length + 1) c5), []) from rfl)
                    have hro6 : Hid (RowsAt w6 (w3.heap.size + 2) (w3.heap.size + 1) (n + 1) (fun r => if r = s.row then rowsOf A (B.take k) s.row ++ [(opos : Int)] else rowsOf A (B.take k) r)) := by
                      refine RowsAt.step s.row (opos : Int) _ m1 m3 m4.out m5.out m6.out m7.out m8.out m9.out ?_ hgr5 ?_ (by omega) hown6 hgrow6
                      · show W5.ownsRow _ _ _ _ _ _
                        rw [List.length_append, List.map_append]
                        exact hown5
                      · rcases hg5 with e | e
                        · exact .inl (by rw [e]; rfl)
                        · exact .inr ⟨g5, rfl, by rw [e]; omega⟩
                    have hz6 := hgrow6.size
                    have hco6 : Hid (CostRow w6 w3.heap.size (made A (B.take k) : Nat) 0 (att A (B.take k) : Nat) ((made A (B.take k) : Int) + moved A (B.take k)) 0) :=
                      (hgrow6.block _ (by omega) (fun e => by injection e with e; omega)).trans ((hgr5.block _ (by omega) (fun e => by have := hlow5 _ e.symm; omega)).trans hcS.out)
                    have hb6 : Hid (Below w3.heap.size w3 w6) := (hbS.out.grown hgr5 (by omega) (fun b hb => by have := hlow5 b hb; omega)).grown hgrow6 (by omega) (fun b hb => by injection hb with hb; omega)
                    replace hrun6 := hrun6
                    clear hown5 hgrow5 hgr5 h135 h145 hm5 h13 h14 hm3 m1 hg5
                    refine AnyBut.one 11 rfl (by kernel_rfl) (fun K hK => ?_)
                    go_simp
                    refine hK.out _ _ (fun h => absurd rfl h) ?_
                    clear hK K
                    refine AnyBut.done (by kernel_rfl) ?_
                    clear hrun6
                    go_wp2_with fail
                    go_roundw
                    case rel => exact ⟨k + 1, by omega, by go_num, hb6.out, by omega, by rw [htk.out, made_snoc, moved_snoc, att_snoc, hsk.out]; simpa [htag, hrow.out] using hco6.out, by rw [htk.out]; exact (rows_more hsk.out hrow.out hro6.out).mono (by omega)⟩
                    case measure => simp [intOf]; omega
        · have hrd : (orow != s.row) = true := by simpa using hrow
          by_cases htag : s.tag.toList = []
          · obtain ⟨S2, hS2⟩ : ∃ S2, S2 = (wr.alloc (.cells #[.int .i64 s.id, .string s.tag, .string s.text, .slice s.aa s.an s.ac, .slice s.ka s.kn s.kc, .int .i64 s.row, .int .i64 (s.pos : Nat)] 45)).alloc (.cells #[.int .i64 oid, .string s.tag, .string s.text, .slice s.aa s.an s.ac, .slice oka okn okc, .int .i64 orow, .int .i64 (opos : Nat)] 45) := ⟨_, rfl⟩
            have hb2' : Below wr.heap.size wr S2 := by rw [hS2]; exact ((Below.refl _ wr).alloc (Nat.le_refl _) _).alloc (by simp) _
            have hzS : S2.heap.size = wr.heap.size + 2 := by rw [hS2]; simp
            have hs13 : S2.heap[wr.heap.size]? = some (.cells #[.int .i64 s.id, .string s.tag, .string s.text, .slice s.aa s.an s.ac, .slice s.ka s.kn s.kc, .int .i64 s.row, .int .i64 (s.pos : Nat)] 45 (0, 0)) := by rw [hS2]; exact (Below.heap_alloc _ _ _ (by simp)).trans (heap_alloc_new wr _)
            have hs14 : S2.heap[wr.heap.size + 1]? = some (.cells #[.int .i64 oid, .string s.tag, .string s.text, .slice s.aa s.an s.ac, .slice oka okn okc, .int .i64 orow, .int .i64 (opos : Nat)] 45 (0, 0)) := by
              rw [hS2]
              have := heap_alloc_new (wr.alloc (.cells #[.int .i64 s.id, .string s.tag, .string s.text, .slice s.aa s.an s.ac, .slice s.ka s.kn s.kc, .int .i64 s.row, .int .i64 (s.pos : Nat)] 45)) (.cells #[.int .i64 oid, .string s.tag, .string s.text, .slice s.aa s.an s.ac, .slice oka okn okc, .int .i64 orow, .int .i64 (opos : Nat)] 45)
              rw [show (wr.alloc (.cells #[.int .i64 s.id, .string s.tag, .string s.text, .slice s.aa s.an s.ac, .slice s.ka s.kn s.kc, .int .i64 s.row, .int .i64 (s.pos : Nat)] 45)).heap.size = wr.heap.size + 1 by simp] at this
              exact this
            have hcS : CostRow S2 w3.heap.size (made A (B.take k) : Nat) 0 (att A (B.take k) : Nat) ((made A (B.take k) : Int) + moved A (B.take k)) 0 := (hb2'.block _ (by omega)).trans hco
            have hrS : RowsAt S2 (w3.heap.size + 2) (w3.heap.size + 1) k (rowsOf A (B.take k)) := hro.below hb2'
            have hbS : Below w3.heap.size w3 S2 := hb.trans (hb2'.mono (by omega))
            obtain ⟨p1, p2, p3, p5, p6⟩ := seat_cells hs13
            obtain ⟨q1, q2, q3, q5, q6⟩ := seat_cells hs14
            obtain ⟨d0, d1, d2, d3, d4⟩ := hcS.cells
            have e0 := hcS.fr 0
            have e3 := hcS.fr 3
            replace hS2 := Lib.hid hS2
            replace hs13 := Lib.hid hs13
            replace hs14 := Lib.hid hs14
            replace hcS := Lib.hid hcS
            replace hrS := Lib.hid hrS
            replace hbS := Lib.hid hbS
            clear hb hb2' hco hro
            go_wp2_with (first | (at_lookup; refine wpList_look _ rfl _ _ rfl (w.heap.size + 2) _ _ rfl hmB.out s.id rfl hgs (.agg #[.int .i64 s.id, .string s.tag, .string s.text, .slice s.aa s.an s.ac, .slice s.ka s.kn s.kc, .int .i64 s.row, .int .i64 (s.pos : Nat)]) hatB.out ?_) | (at_lookup; refine wpList_look_ok _ rfl _ _ rfl (w.heap.size + 1) _ _ rfl (hmA.out.alloc _) s.id rfl hgs (.agg #[.int .i64 oid, .string s.tag, .string s.text, .slice s.aa s.an s.ac, .slice oka okn okc, .int .i64 orow, .int .i64 (opos : Nat)]) hoA.out true hok.out ?_) | (rw [← hS2.out]))
            have hc9 : Hid (CostRow _ w3.heap.size (made A (B.take k) : Nat) 0 (att A (B.take k) : Nat) ((made A (B.take k) : Int) + moved A (B.take k) + 1) 0) := hcS.out.s3 ((made A (B.take k) : Int) + moved A (B.take k) + 1)
            have hb9 := Lib.hid (hbS.out.setCell (p := ⟨w3.heap.size, 3, none⟩) (Nat.le_refl _) (.int .i64 ((made A (B.take k) : Int) + moved A (B.take k) + 1)))
            have hr9 : Hid (RowsAt (S2.setCell ⟨w3.heap.size, 3, none⟩ (.int .i64 ((made A (B.take k) : Int) + moved A (B.take k) + 1))) (w3.heap.size + 2) (w3.heap.size + 1) k (rowsOf A (B.take k))) :=
              hrS.out.kept (fun j _ hj => by rw [Below.heap_setCell _ _ _ _ (by show j ≠ w3.heap.size; omega)]) (by simp)
            go_roundw
            case rel => exact ⟨k + 1, by omega, by go_num, hb9.out, by simp; omega, by rw [htk.out, made_snoc, moved_snoc, att_snoc, hsk.out]; simpa [htag, Hid, hrow, Int.add_assoc] using hc9.out, by rw [htk.out]; exact (rows_other hsk.out hrow hr9.out).mono (Nat.le_succ k)⟩
            case measure => simp [intOf]; omega
          · obtain ⟨wo, hwo⟩ : ∃ wo : World, wo = wr := ⟨_, rfl⟩
            subst hwo
            obtain ⟨S2, hS2⟩ : ∃ S2, S2 = (wo.alloc (.cells #[.int .i64 s.id, .string s.tag, .string s.text, .slice s.aa s.an s.ac, .slice s.ka s.kn s.kc, .int .i64 s.row, .int .i64 (s.pos : Nat)] 45)).alloc (.cells #[.int .i64 oid, .string s.tag, .string s.text, .slice s.aa s.an s.ac, .slice oka okn okc, .int .i64 orow, .int .i64 (opos : Nat)] 45) := ⟨_, rfl⟩
            have hb2' : Below wo.heap.size wo S2 := by rw [hS2]; exact ((Below.refl _ wo).alloc (Nat.le_refl _) _).alloc (by simp) _
            have hzS : S2.heap.size = wo.heap.size + 2 := by rw [hS2]; simp
            have hs13 : S2.heap[wo.heap.size]? = some (.cells #[.int .i64 s.id, .string s.tag, .string s.text, .slice s.aa s.an s.ac, .slice s.ka s.kn s.kc, .int .i64 s.row, .int .i64 (s.pos : Nat)] 45 (0, 0)) := by rw [hS2]; exact (Below.heap_alloc _ _ _ (by simp)).trans (heap_alloc_new wo _)
            have hs14 : S2.heap[wo.heap.size + 1]? = some (.cells #[.int .i64 oid, .string s.tag, .string s.text, .slice s.aa s.an s.ac, .slice oka okn okc, .int .i64 orow, .int .i64 (opos : Nat)] 45 (0, 0)) := by
              rw [hS2]
              have := heap_alloc_new (wo.alloc (.cells #[.int .i64 s.id, .string s.tag, .string s.text, .slice s.aa s.an s.ac, .slice s.ka s.kn s.kc, .int .i64 s.row, .int .i64 (s.pos : Nat)] 45)) (.cells #[.int .i64 oid, .string s.tag, .string s.text, .slice s.aa s.an s.ac, .slice oka okn okc, .int .i64 orow, .int .i64 (opos : Nat)] 45)
              rw [show (wo.alloc (.cells #[.int .i64 s.id, .string s.tag, .string s.text, .slice s.aa s.an s.ac, .slice s.ka s.kn s.kc, .int .i64 s.row, .int .i64 (s.pos : Nat)] 45)).heap.size = wo.heap.size + 1 by simp] at this
              exact this
            have hcS : CostRow S2 w3.heap.size (made A (B.take k) : Nat) 0 (att A (B.take k) : Nat) ((made A (B.take k) : Int) + moved A (B.take k)) 0 := (hb2'.block _ (by omega)).trans hco
            have hrS : RowsAt S2 (w3.heap.size + 2) (w3.heap.size + 1) k (rowsOf A (B.take k)) := hro.below hb2'
            have hbS : Below w3.heap.size w3 S2 := hb.trans (hb2'.mono (by omega))
            obtain ⟨p1, p2, p3, p5, p6⟩ := seat_cells hs13
            obtain ⟨q1, q2, q3, q5, q6⟩ := seat_cells hs14
            obtain ⟨d0, d1, d2, d3, d4⟩ := hcS.cells
            have e0 := hcS.fr 0
            have e3 := hcS.fr 3
            replace hS2 := Lib.hid hS2
            replace hs13 := Lib.hid hs13
            replace hs14 := Lib.hid hs14
            replace hcS := Lib.hid hcS
            replace hrS := Lib.hid hrS
            replace hbS := Lib.hid hbS
            clear hb hb2' hco hro
            have htg : s.tag.toList.isEmpty = false := by simpa using htag
            go_wp2_with (first | (at_lookup; refine wpList_look _ rfl _ _ rfl (w.heap.size + 2) _ _ rfl hmB.out s.id rfl hgs (.agg #[.int .i64 s.id, .string s.tag, .string s.text, .slice s.aa s.an s.ac, .slice s.ka s.kn s.kc, .int .i64 s.row, .int .i64 (s.pos : Nat)]) hatB.out ?_) | (at_lookup; refine wpList_look_ok _ rfl _ _ rfl (w.heap.size + 1) _ _ rfl (hmA.out.alloc _) s.id rfl hgs (.agg #[.int .i64 oid, .string s.tag, .string s.text, .slice s.aa s.an s.ac, .slice oka okn okc, .int .i64 orow, .int .i64 (opos : Nat)]) hoA.out true hok.out ?_) | (rw [← hS2.out]))
            have hL1 := hbS
            have hL2 : wo.heap.size + 2 ≤ S2.heap.size := by omega
            have hL3 := hcS
            have hL4 := hrS
            have hL5 := hs13
            have hL6 := hs14
            go_loopw [96] (fun i wy => ∃ m : Nat, m ≤ s.an ∧ i = .int .i64 (m : Nat) ∧ Below w3.heap.size w3 wy ∧ wo.heap.size + 2 ≤ wy.heap.size ∧ CostRow wy w3.heap.size (made A (B.take k) : Nat) 0 (att A (B.take k) : Nat) ((made A (B.take k) : Int) + moved A (B.take k)) 0 ∧ RowsAt wy (w3.heap.size + 2) (w3.heap.size + 1) k (rowsOf A (B.take k)) ∧ wy.heap[wo.heap.size]? = some (.cells #[.int .i64 s.id, .string s.tag, .string s.text, .slice s.aa s.an s.ac, .slice s.ka s.kn s.kc, .int .i64 s.row, .int .i64 (s.pos : Nat)] 45 (0, 0)) ∧ wy.heap[wo.heap.size + 1]? = some (.cells #[.int .i64 oid, .string s.tag, .string s.text, .slice s.aa s.an s.ac, .slice oka okn okc, .int .i64 orow, .int .i64 (opos : Nat)] 45 (0, 0))) (fun i _ => s.an - (intOf i).toNat)
            case atStart => exact ⟨0, Nat.zero_le _, rfl, hL1.out, hL2, by simpa using hL3.out, hL4.out, hL5.out, hL6.out⟩
            case round =>
              obtain ⟨m, hm, rfl, by1, hy2, hy3, hy4, hy5, hy6⟩ := hrel
              obtain ⟨p1, p2, p3, p5, p6⟩ := seat_cells hy5
              obtain ⟨q1, q2, q3, q5, q6⟩ := seat_cells hy6
              obtain ⟨d0, d1, d2, d3, d4⟩ := hy3.cells
              have e0 := hy3.fr 0
              have e2 := hy3.fr 2
              have e3 := hy3.fr 3
              by_cases hmlt : m < s.an
              · have hbw : Below w.heap.size w wr := hb3.out.trans (by1.mono (by omega))
                have hmlt9 : Hid (m + 1 ≤ s.an) := hmlt
                have hle9 := (hfB.out s hsB).le
                have hFw := (hfB.out s hsB).kept hbw
                obtain ⟨b, o, haa, hbB, hcF⟩ := hFw.at_ (by omega)
                obtain ⟨q, hq⟩ : ∃ q, q = AL s m := ⟨_, rfl⟩
                have gc : ∀ j, j < 9 → wr.cell? ⟨b, o + (m * 9 + j), none⟩ = (fieldCells (AN s m) q)[j]? := fun j hj => by rw [hq]; exact hcF m hmlt j hj
                have x0 : wr.cell? ⟨b, o + m * 9, none⟩ = some (.string (AN s m)) := gc 0 (by omega)
                have x1 : wr.cell? ⟨b, o + m * 9 + 1, none⟩ = some (.int .u8 q.kind) := by rw [Nat.add_assoc]; exact gc 1 (by omega)
                have x2 : wr.cell? ⟨b, o + m * 9 + 2, none⟩ = some (.int .i64 q.n) := by rw [Nat.add_assoc]; exact gc 2 (by omega)
                have x3 : wr.cell? ⟨b, o + m * 9 + 3, none⟩ = some (.string q.s) := by rw [Nat.add_assoc]; exact gc 3 (by omega)
                have x4 : wr.cell? ⟨b, o + m * 9 + 4, none⟩ = some (.slice q.la q.ln q.lc) := by rw [Nat.add_assoc]; exact gc 4 (by omega)
                have x5 : wr.cell? ⟨b, o + m * 9 + 5, none⟩ = some (.slice q.fa q.fn q.fc) := by rw [Nat.add_assoc]; exact gc 5 (by omega)
                have x6 : wr.cell? ⟨b, o + m * 9 + 6, none⟩ = some (.int .u8 q.elem) := by rw [Nat.add_assoc]; exact gc 6 (by omega)
                have x7 : wr.cell? ⟨b, o + m * 9 + 7, none⟩ = some (.string q.key) := by rw [Nat.add_assoc]; exact gc 7 (by omega)
                have x8 : wr.cell? ⟨b, o + m * 9 + 8, none⟩ = some (.bool q.hk) := by rw [Nat.add_assoc]; exact gc 8 (by omega)
                obtain ⟨S3, hS3⟩ : ∃ S3, S3 = wr.alloc (.cells #[.string (AN s m), .int .u8 q.kind, .int .i64 q.n, .string q.s, .slice q.la q.ln q.lc, .slice q.fa q.fn q.fc, .int .u8 q.elem, .string q.key, .bool q.hk] 39) := ⟨_, rfl⟩
                have hb3' : Below wr.heap.size wr S3 := by rw [hS3]; exact (Below.refl _ _).alloc (Nat.le_refl _) _
                have hz3' : S3.heap.size = wr.heap.size + 1 := by rw [hS3]; simp
                have hrow3 : S3.heap[wr.heap.size]? = some (.cells #[.string (AN s m), .int .u8 q.kind, .int .i64 q.n, .string q.s, .slice q.la q.ln q.lc, .slice q.fa q.fn q.fc, .int .u8 q.elem, .string q.key, .bool q.hk] 39 (0, 0)) := by rw [hS3]; exact heap_alloc_new wr _
                have hbw3 : Below w.heap.size w S3 := hbw.trans (hb3'.mono (by have := hbw.size; omega))
                have hbw3z := hbw3.size
                have n0 : S3.cell? ⟨wr.heap.size, 0, none⟩ = some (.string (AN s m)) := by simp [World.cell?, hrow3]
                have p33 := (hb3'.cell (p := ⟨wo.heap.size, 3, none⟩) (by show wo.heap.size < _; omega)).trans p3
                have q33 := (hb3'.cell (p := ⟨wo.heap.size + 1, 3, none⟩) (by show wo.heap.size + 1 < _; omega)).trans q3
                have cA := attr_any w w.heap.size s.aa s.an s.ac (AN s) (AL s) (AN s m) (hfB.out s hsB) S3 hbw3 hbw3z
                rw [haa] at cA
                replace cA := Lib.hid cA
                replace hS3 := Lib.hid hS3
                replace hq := Lib.hid hq
                replace by1 := Lib.hid by1
                replace hy3 := Lib.hid hy3
                replace hy4 := Lib.hid hy4
                replace hy5 := Lib.hid hy5
                replace hy6 := Lib.hid hy6
                replace hbw := Lib.hid hbw
                replace hb3' := Lib.hid hb3'
                replace hrow3 := Lib.hid hrow3
                replace hFw := Lib.hid hFw
                replace hcF := Lib.hid hcF
                clear gc hbw3
                go_wp2_with (first | (rw [← hS3.out]) | (go_at_call 9; refine cA.out.mono ?_))
                first | rintro e W4 hres hb4 | rintro e W4 ⟨hres, hb4⟩
                have hz4 := hb4.size
                have he : e = .returned (.tuple #[q.val, .bool true]) := by
                  rcases hres with ⟨j, hj, hj1, hj2, h⟩ | ⟨hno, _⟩
                  · have hjm : j = m := by
                      rcases Nat.lt_trichotomy j m with h1 | h1 | h1
                      · exact absurd hj1 (hdB.out s hsB j m h1 hmlt)
                      · exact h1
                      · exact absurd rfl (hj2 m h1)
                    rw [h, hjm, hq.out]
                  · exact absurd rfl (hno m hmlt)
                subst he
                obtain ⟨S5, hS5⟩ : ∃ S5, S5 = W4.alloc (.cells #[.int .u8 q.kind, .int .i64 q.n, .string q.s, .slice q.la q.ln q.lc, .slice q.fa q.fn q.fc, .int .u8 q.elem, .string q.key, .bool q.hk] 37) := ⟨_, rfl⟩
                have hb5 : Below W4.heap.size W4 S5 := by rw [hS5]; exact (Below.refl _ _).alloc (Nat.le_refl _) _
                have hz5 : S5.heap.size = W4.heap.size + 1 := by rw [hS5]; simp
                have hb35 : Below S3.heap.size S3 S5 := hb4.trans (hb5.mono hz4)
                have hbr5 : Below wr.heap.size wr S5 := hb3'.out.trans (hb35.mono (by omega))
                have hc5 : CostRow S5 w3.heap.size (made A (B.take k) : Nat) 0 (att A (B.take k) : Nat) ((made A (B.take k) : Int) + moved A (B.take k)) 0 := (hbr5.block _ (by omega)).trans hy3.out
                have hr5 := hy4.out.below hbr5
                have hs5 := (hbr5.block wo.heap.size (by omega)).trans hy5.out
                have ht5 := (hbr5.block (wo.heap.size + 1) (by omega)).trans hy6.out
                have hbE5 := by1.out.trans (hbr5.mono (by omega))
                obtain ⟨c0, c1, c2, c3, c4⟩ := hc5.cells
                have f2 := hc5.fr 2
                have hrow5 : S5.heap[W4.heap.size]? = some (.cells #[.int .u8 q.kind, .int .i64 q.n, .string q.s, .slice q.la q.ln q.lc, .slice q.fa q.fn q.fc, .int .u8 q.elem, .string q.key, .bool q.hk] 37 (0, 0)) := by rw [hS5]; exact heap_alloc_new W4 _
                have hrow35 : S5.heap[wr.heap.size]? = some (.cells #[.string (AN s m), .int .u8 q.kind, .int .i64 q.n, .string q.s, .slice q.la q.ln q.lc, .slice q.fa q.fn q.fc, .int .u8 q.elem, .string q.key, .bool q.hk] 39 (0, 0)) := (hb35.block _ (by omega)).trans hrow3.out
                have u0 : S5.cell? ⟨W4.heap.size, 0, none⟩ = some (.int .u8 q.kind) := by simp [World.cell?, hrow5]
                have t0 : S5.cell? ⟨wr.heap.size, 1, none⟩ = some (.int .u8 q.kind) := by simp [World.cell?, hrow35]
                have u1 : S5.cell? ⟨W4.heap.size, 1, none⟩ = some (.int .i64 q.n) := by simp [World.cell?, hrow5]
                have t1 : S5.cell? ⟨wr.heap.size, 2, none⟩ = some (.int .i64 q.n) := by simp [World.cell?, hrow35]
                have u2 : S5.cell? ⟨W4.heap.size, 2, none⟩ = some (.string q.s) := by simp [World.cell?, hrow5]
                have t2 : S5.cell? ⟨wr.heap.size, 3, none⟩ = some (.string q.s) := by simp [World.cell?, hrow35]
                have u3 : S5.cell? ⟨W4.heap.size, 3, none⟩ = some (.slice q.la q.ln q.lc) := by simp [World.cell?, hrow5]
                have t3 : S5.cell? ⟨wr.heap.size, 4, none⟩ = some (.slice q.la q.ln q.lc) := by simp [World.cell?, hrow35]
                have u4 : S5.cell? ⟨W4.heap.size, 4, none⟩ = some (.slice q.fa q.fn q.fc) := by simp [World.cell?, hrow5]
                have t4 : S5.cell? ⟨wr.heap.size, 5, none⟩ = some (.slice q.fa q.fn q.fc) := by simp [World.cell?, hrow35]
                have u5 : S5.cell? ⟨W4.heap.size, 5, none⟩ = some (.int .u8 q.elem) := by simp [World.cell?, hrow5]
                have t5 : S5.cell? ⟨wr.heap.size, 6, none⟩ = some (.int .u8 q.elem) := by simp [World.cell?, hrow35]
                have u6 : S5.cell? ⟨W4.heap.size, 6, none⟩ = some (.string q.key) := by simp [World.cell?, hrow5]
                have t6 : S5.cell? ⟨wr.heap.size, 7, none⟩ = some (.string q.key) := by simp [World.cell?, hrow35]
                have u7 : S5.cell? ⟨W4.heap.size, 7, none⟩ = some (.bool q.hk) := by simp [World.cell?, hrow5]
                have t7 : S5.cell? ⟨wr.heap.size, 8, none⟩ = some (.bool q.hk) := by simp [World.cell?, hrow35]
                have cSame : Calls Try.prog 10 #[q.val, q.val] S5 fun e w' => e = .returned (.bool true) ∧ Below S5.heap.size S5 w' := by
                  rw [hq.out]; exact hvB.out s hsB m hmlt S5 (hbw.out.trans (hbr5.mono (by have := hbw.out.size; omega))) (by have := hbw.out.size; omega)
                unfold Val.val at cSame
                replace cSame := Lib.hid cSame
                replace hrow5 := Lib.hid hrow5
                replace hrow35 := Lib.hid hrow35
                replace hS5 := Lib.hid hS5
                replace hc5 := Lib.hid hc5
                replace hr5 := Lib.hid hr5
                replace hs5 := Lib.hid hs5
                replace ht5 := Lib.hid ht5
                replace hbE5 := Lib.hid hbE5
                clear hres hb4 hb5 hb35 hbr5 cA
                unfold Val.val
                go_wp2_with (first | (rw [← hS5.out]) | (go_at_call 10; refine cSame.out.mono ?_))
                first | rintro e W6 rfl hb6 | rintro e W6 ⟨rfl, hb6⟩
                have hz6 := hb6.size
                have hc9 := Lib.hid ((hb6.block _ (by omega)).trans hc5.out)
                have hb9 := Lib.hid (hbE5.out.trans (hb6.mono (by omega)))
                have hr9 := Lib.hid (hr5.out.below hb6)
                have hs9 := Lib.hid ((hb6.block _ (by omega)).trans hs5.out)
                have ht9 := Lib.hid ((hb6.block _ (by omega)).trans ht5.out)
                clear hb6 cSame
                go_wp2_with fail
                (try rw [← haa])
                replace haa := Lib.hid haa
                go_roundw
                case rel => exact ⟨m + 1, hmlt9.out, by go_num, hb9.out, by omega, hc9.out, hr9.out, hs9.out, ht9.out⟩
                case measure => simp [intOf]; have := hmlt9.out; omega
              · obtain rfl : m = s.an := by omega
                have hL1 := Lib.hid by1
                have hL2 := hy2
                have hL3 := Lib.hid hy3
                have hL4 := Lib.hid hy4
                have hL5 := Lib.hid hy5
                have hL6 := Lib.hid hy6
                clear by1 hy3 hy4 hy5 hy6
                go_wp2_with fail
                go_loopw [127] (fun i wy => ∃ m : Nat, m ≤ s.an ∧ i = .int .i64 (m : Nat) ∧ Below w3.heap.size w3 wy ∧ wo.heap.size + 2 ≤ wy.heap.size ∧ CostRow wy w3.heap.size (made A (B.take k) : Nat) 0 (att A (B.take k) : Nat) ((made A (B.take k) : Int) + moved A (B.take k)) 0 ∧ RowsAt wy (w3.heap.size + 2) (w3.heap.size + 1) k (rowsOf A (B.take k)) ∧ wy.heap[wo.heap.size]? = some (.cells #[.int .i64 s.id, .string s.tag, .string s.text, .slice s.aa s.an s.ac, .slice s.ka s.kn s.kc, .int .i64 s.row, .int .i64 (s.pos : Nat)] 45 (0, 0)) ∧ wy.heap[wo.heap.size + 1]? = some (.cells #[.int .i64 oid, .string s.tag, .string s.text, .slice s.aa s.an s.ac, .slice oka okn okc, .int .i64 orow, .int .i64 (opos : Nat)] 45 (0, 0))) (fun i _ => s.an - (intOf i).toNat)
                case atStart => exact ⟨0, Nat.zero_le _, rfl, hL1.out, hL2, by simpa using hL3.out, hL4.out, hL5.out, hL6.out⟩
                case round =>
                  obtain ⟨m, hm, rfl, by1, hy2, hy3, hy4, hy5, hy6⟩ := hrel
                  obtain ⟨p1, p2, p3, p5, p6⟩ := seat_cells hy5
                  obtain ⟨q1, q2, q3, q5, q6⟩ := seat_cells hy6
                  obtain ⟨d0, d1, d2, d3, d4⟩ := hy3.cells
                  have e0 := hy3.fr 0
                  have e2 := hy3.fr 2
                  have e3 := hy3.fr 3
                  by_cases hmlt : m < s.an
                  · have hbw : Below w.heap.size w wr := hb3.out.trans (by1.mono (by omega))
                    have hmlt9 : Hid (m + 1 ≤ s.an) := hmlt
                    have hle9 := (hfB.out s hsB).le
                    have hFw := (hfB.out s hsB).kept hbw
                    obtain ⟨b, o, haa, hbB, hcF⟩ := hFw.at_ (by omega)
                    obtain ⟨q, hq⟩ : ∃ q, q = AL s m := ⟨_, rfl⟩
                    have gc : ∀ j, j < 9 → wr.cell? ⟨b, o + (m * 9 + j), none⟩ = (fieldCells (AN s m) q)[j]? := fun j hj => by rw [hq]; exact hcF m hmlt j hj
                    have x0 : wr.cell? ⟨b, o + m * 9, none⟩ = some (.string (AN s m)) := gc 0 (by omega)
                    have x1 : wr.cell? ⟨b, o + m * 9 + 1, none⟩ = some (.int .u8 q.kind) := by rw [Nat.add_assoc]; exact gc 1 (by omega)
                    have x2 : wr.cell? ⟨b, o + m * 9 + 2, none⟩ = some (.int .i64 q.n) := by rw [Nat.add_assoc]; exact gc 2 (by omega)
                    have x3 : wr.cell? ⟨b, o + m * 9 + 3, none⟩ = some (.string q.s) := by rw [Nat.add_assoc]; exact gc 3 (by omega)
                    have x4 : wr.cell? ⟨b, o + m * 9 + 4, none⟩ = some (.slice q.la q.ln q.lc) := by rw [Nat.add_assoc]; exact gc 4 (by omega)
                    have x5 : wr.cell? ⟨b, o + m * 9 + 5, none⟩ = some (.slice q.fa q.fn q.fc) := by rw [Nat.add_assoc]; exact gc 5 (by omega)
                    have x6 : wr.cell? ⟨b, o + m * 9 + 6, none⟩ = some (.int .u8 q.elem) := by rw [Nat.add_assoc]; exact gc 6 (by omega)
                    have x7 : wr.cell? ⟨b, o + m * 9 + 7, none⟩ = some (.string q.key) := by rw [Nat.add_assoc]; exact gc 7 (by omega)
                    have x8 : wr.cell? ⟨b, o + m * 9 + 8, none⟩ = some (.bool q.hk) := by rw [Nat.add_assoc]; exact gc 8 (by omega)
                    obtain ⟨S3, hS3⟩ : ∃ S3, S3 = wr.alloc (.cells #[.string (AN s m), .int .u8 q.kind, .int .i64 q.n, .string q.s, .slice q.la q.ln q.lc, .slice q.fa q.fn q.fc, .int .u8 q.elem, .string q.key, .bool q.hk] 39) := ⟨_, rfl⟩
                    have hb3' : Below wr.heap.size wr S3 := by rw [hS3]; exact (Below.refl _ _).alloc (Nat.le_refl _) _
                    have hz3' : S3.heap.size = wr.heap.size + 1 := by rw [hS3]; simp
                    have hrow3 : S3.heap[wr.heap.size]? = some (.cells #[.string (AN s m), .int .u8 q.kind, .int .i64 q.n, .string q.s, .slice q.la q.ln q.lc, .slice q.fa q.fn q.fc, .int .u8 q.elem, .string q.key, .bool q.hk] 39 (0, 0)) := by rw [hS3]; exact heap_alloc_new wr _
                    have hbw3 : Below w.heap.size w S3 := hbw.trans (hb3'.mono (by have := hbw.size; omega))
                    have hbw3z := hbw3.size
                    have n0 : S3.cell? ⟨wr.heap.size, 0, none⟩ = some (.string (AN s m)) := by simp [World.cell?, hrow3]
                    have p33 := (hb3'.cell (p := ⟨wo.heap.size, 3, none⟩) (by show wo.heap.size < _; omega)).trans p3
                    have q33 := (hb3'.cell (p := ⟨wo.heap.size + 1, 3, none⟩) (by show wo.heap.size + 1 < _; omega)).trans q3
                    have cA := attr_any w w.heap.size s.aa s.an s.ac (AN s) (AL s) (AN s m) (hfB.out s hsB) S3 hbw3 hbw3z
                    rw [haa] at cA
                    replace cA := Lib.hid cA
                    replace hS3 := Lib.hid hS3
                    replace hq := Lib.hid hq
                    replace by1 := Lib.hid by1
                    replace hy3 := Lib.hid hy3
                    replace hy4 := Lib.hid hy4
                    replace hy5 := Lib.hid hy5
                    replace hy6 := Lib.hid hy6
                    replace hbw := Lib.hid hbw
                    replace hb3' := Lib.hid hb3'
                    replace hrow3 := Lib.hid hrow3
                    replace hFw := Lib.hid hFw
                    replace hcF := Lib.hid hcF
                    clear gc hbw3
                    go_wp2_with (first | (rw [← hS3.out]) | (go_at_call 9; refine cA.out.mono ?_))
                    first | rintro e W4 hres hb4 | rintro e W4 ⟨hres, hb4⟩
                    have hz4 := hb4.size
                    have he : e = .returned (.tuple #[q.val, .bool true]) := by
                      rcases hres with ⟨j, hj, hj1, hj2, h⟩ | ⟨hno, _⟩
                      · have hjm : j = m := by
                          rcases Nat.lt_trichotomy j m with h1 | h1 | h1
                          · exact absurd hj1 (hdB.out s hsB j m h1 hmlt)
                          · exact h1
                          · exact absurd rfl (hj2 m h1)
                        rw [h, hjm, hq.out]
                      · exact absurd rfl (hno m hmlt)
                    subst he
                    obtain ⟨S5, hS5⟩ : ∃ S5, S5 = W4.alloc (.cells #[.int .u8 q.kind, .int .i64 q.n, .string q.s, .slice q.la q.ln q.lc, .slice q.fa q.fn q.fc, .int .u8 q.elem, .string q.key, .bool q.hk] 37) := ⟨_, rfl⟩
                    have hb5 : Below W4.heap.size W4 S5 := by rw [hS5]; exact (Below.refl _ _).alloc (Nat.le_refl _) _
                    have hz5 : S5.heap.size = W4.heap.size + 1 := by rw [hS5]; simp
                    have hb35 : Below S3.heap.size S3 S5 := hb4.trans (hb5.mono hz4)
                    have hbr5 : Below wr.heap.size wr S5 := hb3'.out.trans (hb35.mono (by omega))
                    have hc5 : CostRow S5 w3.heap.size (made A (B.take k) : Nat) 0 (att A (B.take k) : Nat) ((made A (B.take k) : Int) + moved A (B.take k)) 0 := (hbr5.block _ (by omega)).trans hy3.out
                    have hr5 := hy4.out.below hbr5
                    have hs5 := (hbr5.block wo.heap.size (by omega)).trans hy5.out
                    have ht5 := (hbr5.block (wo.heap.size + 1) (by omega)).trans hy6.out
                    have hbE5 := by1.out.trans (hbr5.mono (by omega))
                    obtain ⟨c0, c1, c2, c3, c4⟩ := hc5.cells
                    have f2 := hc5.fr 2
                    replace hS5 := Lib.hid hS5
                    replace hc5 := Lib.hid hc5
                    replace hr5 := Lib.hid hr5
                    replace hs5 := Lib.hid hs5
                    replace ht5 := Lib.hid ht5
                    replace hbE5 := Lib.hid hbE5
                    clear hres hb4 hb5 hb35 hbr5 cA
                    unfold Val.val
                    go_wp2_with (first | (rw [← hS5.out]) | fail)
                    (try rw [← haa])
                    replace haa := Lib.hid haa
                    go_roundw
                    case rel => exact ⟨m + 1, hmlt9.out, by go_num, hbE5.out, by omega, hc5.out, hr5.out, hs5.out, ht5.out⟩
                    case measure => simp [intOf]; have := hmlt9.out; omega
                  · obtain rfl : m = s.an := by omega
                    obtain ⟨S2, hS2w⟩ : ∃ S2 : World, S2 = wr := ⟨_, rfl⟩
                    subst hS2w
                    have hbS := Lib.hid by1
                    have hcS := Lib.hid hy3
                    have hrS := Lib.hid hy4
                    have hs13 := Lib.hid hy5
                    have hs14 := Lib.hid hy6
                    clear by1 hy3 hy4 hy5 hy6 hL1 hL3 hL4 hL5 hL6
                    go_wp2_with fail
                    have hc9 : Hid (CostRow _ w3.heap.size (made A (B.take k) : Nat) 0 (att A (B.take k) : Nat) ((made A (B.take k) : Int) + moved A (B.take k) + 1) 0) := hcS.out.s3 ((made A (B.take k) : Int) + moved A (B.take k) + 1)
                    have hb9 := Lib.hid (hbS.out.setCell (p := ⟨w3.heap.size, 3, none⟩) (Nat.le_refl _) (.int .i64 ((made A (B.take k) : Int) + moved A (B.take k) + 1)))
                    have hr9 : Hid (RowsAt (S2.setCell ⟨w3.heap.size, 3, none⟩ (.int .i64 ((made A (B.take k) : Int) + moved A (B.take k) + 1))) (w3.heap.size + 2) (w3.heap.size + 1) k (rowsOf A (B.take k))) :=
                      hrS.out.kept (fun j _ hj => by rw [Below.heap_setCell _ _ _ _ (by show j ≠ w3.heap.size; omega)]) (by simp)
                    go_roundw
                    case rel => exact ⟨k + 1, by omega, by go_num, hb9.out, by simp; omega, by rw [htk.out, made_snoc, moved_snoc, att_snoc, hsk.out]; simpa [htag, Hid, hrow, Int.add_assoc] using hc9.out, by rw [htk.out]; exact (rows_other hsk.out hrow hr9.out).mono (Nat.le_succ k)⟩
                    case measure => simp [intOf]; omega
    · obtain rfl : k = B.length := by omega
      rw [List.take_length] at hco hro
      have hml := made_le A B
      have hvl := moved_le A B
      obtain ⟨D, n, V, m1, m2, m3, m4, m5, m6, m7, m8, m9⟩ := hro.ex
      replace m4 := Lib.hid m4
      replace m5 := Lib.hid m5
      replace m6 := Lib.hid m6
      replace m7 := Lib.hid m7
      have hsz0 := size_own m1
      have hmo : Hid (wr.ownsMap Try.prog 3 R (w3.heap.size + 1) n D) := m1
      obtain ⟨RI, hRI⟩ : ∃ RI, RI = wr.heap.size := ⟨_, rfl⟩
      replace hb := Lib.hid hb
      replace hco := Lib.hid hco
      clear hro m3 m8 m9 m1 hba
      go_wp2_with (at_range; refine wpList_range_own _ rfl _ 43 rfl 3 41 law3 Try.underlying43 R (w3.heap.size + 1) n D rfl hmo.out ?_)
      intro w5 hrg5 hg5 hs5
      rw [← hRI] at hrg5
      have hb5 : Below w3.heap.size w3 w5 := hb.out.grown hg5 (by omega) (fun k hk => by simp at hk)
      have hc5 : CostRow w5 w3.heap.size (made A B : Nat) 0 (att A B : Nat) ((made A B : Int) + moved A B) 0 := (hg5.block _ (by omega) (by simp)).trans hco.out
      have hV5 : ∀ k, OwnIds w5 (w3.heap.size + 2) (V k) (rowsOf A B k) := fun k => World.ownsRow.kept (m7.out k) hg5 (Classical.em _)
      have hRl : ∀ k b, (V k).ownBlock = some b → b ≠ RI := fun k b hk => by have := ((m7.out k).lt b hk).2; omega
      replace hrg5 := Lib.hid hrg5
      replace hb5 := Lib.hid hb5
      replace hc5 := Lib.hid hc5
      replace hV5 := Lib.hid hV5
      replace hRl := Lib.hid hRl
      clear hg5
      rw [← hRI]
      rw [← hRI] at hzr hs5
      replace hRI := Lib.hid hRI
      go_wp2_with fail
      try go_frame
      go_loopw [25] (fun _ wx => ∃ (left : Lit → Bool) (cnt : Nat) (vis : List Int), wx.ranges Try.prog 3 R (w3.heap.size + 1) RI n D left cnt ∧ Below w3.heap.size w3 wx ∧ CostRow wx w3.heap.size (made A B : Nat) 0 (att A B : Nat) ((made A B : Int) + moved A B + (vis.map fun r => delta (rowsOf A B r)).sum) 0 ∧
          vis.Nodup ∧ (∀ r, r ∈ vis → rowsOf A B r ≠ [] ∧ left (keyL r) = false) ∧ (∀ r, rowsOf A B r ≠ [] → r ∈ vis ∨ left (keyL r) = true) ∧ vis.length + cnt ≤ Maps.size D ∧ (∀ k, OwnIds wx (w3.heap.size + 2) (V k) (rowsOf A B k)) ∧ RI < wx.heap.size) (fun _ wx => wx.rangeLeft (w3.heap.size + 1) RI)
      case atStart => exact ⟨Maps.has D, Maps.size D, [], hrg5.out, hb5.out, by simpa using hc5.out, List.nodup_nil, fun r hr => by simp at hr, fun r hr => .inr (by rw [m5.out r]; simpa using hr), by simp, hV5.out, by omega⟩
      case round =>
        obtain ⟨left, cnt, vis, hrg, hbx, hcx, hvn, hv1, hv2, hvc, hVx, hRx⟩ := hrel
        replace hv1 := Lib.hid hv1
        replace hv2 := Lib.hid hv2
        replace hVx := Lib.hid hVx
        replace hbx := Lib.hid hbx
        replace hvn := Lib.hid hvn
        clear hrg5 hb5 hc5 hV5
        have hrgL : Hid (wr.rangeLeft (w3.heap.size + 1) RI = cnt) := hrg.left_eq
        go_wp2_with (at_next; refine next_rows _ rfl _ rfl (w3.heap.size + 1) RI n D left cnt rfl hrg V m6.out ?_ ?_)
        · intro _ hl0
          have hvis : Hid (∀ r, r ∈ vis ↔ rowsOf A B r ≠ []) := fun r => ⟨fun h => (hv1.out r h).1, fun h => by
            rcases hv2.out r h with h2 | h2
            · exact h2
            · rw [hl0] at h2; cases h2⟩
          obtain ⟨ins, hins⟩ : ∃ ins : Int, ins = (made A B : Int) + moved A B + (vis.map fun r => delta (rowsOf A B r)).sum := ⟨_, rfl⟩
          rw [← hins] at hcx
          replace hins := Lib.hid hins
          obtain ⟨wz, hwz⟩ : ∃ wz : World, wz = wr := ⟨_, rfl⟩
          have hbz : Hid (Below w3.heap.size w3 wz) := by rw [hwz]; exact hbx.out
          have hcz : Hid (CostRow wz w3.heap.size (made A B : Nat) 0 (att A B : Nat) ins 0) := by rw [hwz]; exact hcx
          rw [← hwz]
          clear hv1 hv2 hVx hvc hrg hrgL hcx hbx hl0 hRx m4 m5 m6 m7 hRl hmo hwz
          go_wp2_with fail
          go_loopw [189] (fun i wy => ∃ k : Nat, k ≤ A.length ∧ i = .int .i64 (k : Nat) ∧ Below w3.heap.size w3 wy ∧ CostRow wy w3.heap.size (made A B : Nat) 0 (att A B : Nat) ins (gone B (A.take k) : Nat)) (fun i _ => A.length - (intOf i).toNat)
          case atStart => exact ⟨0, Nat.zero_le _, rfl, hbz.out, by simpa [gone] using hcz.out⟩
          case round =>
            obtain ⟨k, hk, rfl, hb, hco⟩ := hrel
            have hba := hBase.out.below hb
            have hCl := hco.lt
            clear hbz hcz
            by_cases hlt : k < A.length
            · obtain ⟨g1, rfl, x0⟩ := ids_cell hba.was k (by rw [List.length_map]; exact hlt)
              rw [List.getElem_map] at x0
              obtain ⟨s, hs⟩ : ∃ s, s = A[k] := ⟨_, rfl⟩
              have hsA : s ∈ A := by rw [hs]; exact List.getElem_mem hlt
              rw [← hs] at x0
              have hgs := hwA.out s hsA
              have hgr := hrA.out s hsA
              have hatA : Hid ((mapOf A).atKey (keyL s.id) (.held zeroSeat) = .held (.agg #[.int .i64 s.id, .string s.tag, .string s.text, .slice s.aa s.an s.ac, .slice s.ka s.kn s.kc, .int .i64 s.row, .int .i64 (s.pos : Nat)])) := at_mapOf A hnA.out s hsA _
              have htk : Hid (A.take (k + 1) = A.take k ++ [s]) := by show A.take (k + 1) = _; rw [List.take_succ_eq_append_getElem hlt, hs]
              obtain ⟨o1, ho1⟩ := seek_case B hnB.out s.id
              obtain ⟨o2, ho2⟩ := seek_case B hnB.out s.row
              obtain ⟨b1, hb1⟩ : ∃ b, b = (seek B s.id).isSome := ⟨_, rfl⟩
              obtain ⟨b2, hb2⟩ : ∃ b, b = (seek B s.row).isSome := ⟨_, rfl⟩
              have hh1 : Hid (Maps.has (mapOf B) (keyL s.id) = b1) := by rw [hb1]; exact has_seek B s.id
              have hh2 : Hid (Maps.has (mapOf B) (keyL s.row) = b2) := by rw [hb2]; exact has_seek B s.row
              have hgl := gone_le B (A.take k)
              rw [List.length_take, Nat.min_eq_left (by omega)] at hgl
              have hst : gone B (A.take (k + 1)) = gone B (A.take k) + (if !b1 && (s.row == 0 || b2) then 1 else 0) := by
                rw [htk.out, gone_snoc, hb1, hb2]; simp
              have hmA := Lib.hid hba.mA
              have hmB := Lib.hid hba.mB
              obtain ⟨S2, hS2⟩ : ∃ S2, S2 = (wr.alloc (.cells #[.int .i64 o1.id, .string o1.tag, .string o1.text, .slice o1.aa o1.an o1.ac, .slice o1.ka o1.kn o1.kc, .int .i64 o1.row, .int .i64 (o1.pos : Nat)] 45)).alloc (.cells #[.int .i64 o2.id, .string o2.tag, .string o2.text, .slice o2.aa o2.an o2.ac, .slice o2.ka o2.kn o2.kc, .int .i64 o2.row, .int .i64 (o2.pos : Nat)] 45) := ⟨_, rfl⟩
              have hbS : Below wr.heap.size wr S2 := by rw [hS2]; exact ((Below.refl _ wr).alloc (Nat.le_refl _) _).alloc (by simp) _
              have hcS : CostRow S2 w3.heap.size (made A B : Nat) 0 (att A B : Nat) ins (gone B (A.take k) : Nat) := (hbS.block _ hCl).trans hco
              have hbS3 : Below w3.heap.size w3 S2 := hb.trans (hbS.mono (by omega))
              have hlk : (Instr.lookup 40 (.map (some (w.heap.size + 1))) (.int .i64 s.id) false).run Try.prog S2 = .ok (.agg #[.int .i64 s.id, .string s.tag, .string s.text, .slice s.aa s.an s.ac, .slice s.ka s.kn s.kc, .int .i64 s.row, .int .i64 (s.pos : Nat)]) S2 := by
                rw [hS2]; exact seat_look ((hmA.out.alloc _).alloc _) s.id hgs _ hatA.out
              obtain ⟨d0, d1, d2, d3, d4⟩ := hcS.cells
              have e4 := hcS.fr 4
              replace ho1 := Lib.hid ho1
              replace ho2 := Lib.hid ho2
              replace hb1 := Lib.hid hb1
              replace hb2 := Lib.hid hb2
              replace hS2 := Lib.hid hS2
              replace hcS := Lib.hid hcS
              replace hbS3 := Lib.hid hbS3
              replace hst := Lib.hid hst
              replace hs := Lib.hid hs
              have hfld := seat_field (.int .i64 s.id) (.string s.tag) (.string s.text) (.slice s.aa s.an s.ac) (.slice s.ka s.kn s.kc) (.int .i64 s.row) (.int .i64 (s.pos : Nat))
              clear hb hco hba hbS
              rcases b1 with _ | _
              · by_cases hz : s.row = 0
                · have hz' : (s.row == 0) = true := by simpa using hz
                  replace hz := Lib.hid hz
                  go_wp2_with (first | (at_lookup; refine wpList_look_ok _ rfl _ _ rfl (w.heap.size + 2) _ _ rfl hmB.out s.id rfl hgs _ ho1.out false hh1.out ?_) | (at_lookup; refine wpList_look _ rfl _ _ rfl (w.heap.size + 1) _ _ rfl (hmA.out.alloc _) s.id rfl hgs _ hatA.out ?_) | (at_lookup; refine wpList_look_ok _ rfl _ _ rfl (w.heap.size + 2) _ _ rfl (hmB.out.alloc _) s.row rfl hgr _ ho2.out b2 hh2.out ?_) | (rw [← hS2.out]))
                  have hc9 : Hid (CostRow _ w3.heap.size (made A B : Nat) 0 (att A B : Nat) ins ((gone B (A.take k) : Int) + 1)) := hcS.out.s4 ((gone B (A.take k) : Int) + 1)
                  have hb9 := Lib.hid (hbS3.out.setCell (p := ⟨w3.heap.size, 4, none⟩) (Nat.le_refl _) (.int .i64 ((gone B (A.take k) : Int) + 1)))
                  go_roundw
                  case rel => exact ⟨k + 1, by omega, by go_num, hb9.out, by rw [hst.out]; rw [hz']; simpa using hc9.out⟩
                  case measure => simp [intOf]; omega
                · have hz' : (s.row == 0) = false := by simpa using hz
                  replace hz := Lib.hid hz
                  rcases b2 with _ | _
                  · go_wp2_with (first | (at_lookup; refine wpList_look_ok _ rfl _ _ rfl (w.heap.size + 2) _ _ rfl hmB.out s.id rfl hgs _ ho1.out false hh1.out ?_) | (at_lookup; refine wpList_look _ rfl _ _ rfl (w.heap.size + 1) _ _ rfl (hmA.out.alloc _) s.id rfl hgs _ hatA.out ?_) | (at_lookup; refine wpList_look_ok _ rfl _ _ rfl (w.heap.size + 2) _ _ rfl (hmB.out.alloc _) s.row rfl hgr _ ho2.out false hh2.out ?_) | (rw [← hS2.out]))
                    go_roundw
                    case rel => exact ⟨k + 1, by omega, by go_num, hbS3.out, by rw [hst.out]; rw [hz']; simpa using hcS.out⟩
                    case measure => simp [intOf]; omega
                  · go_wp2_with (first | (at_lookup; refine wpList_look_ok _ rfl _ _ rfl (w.heap.size + 2) _ _ rfl hmB.out s.id rfl hgs _ ho1.out false hh1.out ?_) | (at_lookup; refine wpList_look _ rfl _ _ rfl (w.heap.size + 1) _ _ rfl (hmA.out.alloc _) s.id rfl hgs _ hatA.out ?_) | (at_lookup; refine wpList_look_ok _ rfl _ _ rfl (w.heap.size + 2) _ _ rfl (hmB.out.alloc _) s.row rfl hgr _ ho2.out true hh2.out ?_) | (rw [← hS2.out]))
                    have hc9 : Hid (CostRow _ w3.heap.size (made A B : Nat) 0 (att A B : Nat) ins ((gone B (A.take k) : Int) + 1)) := hcS.out.s4 ((gone B (A.take k) : Int) + 1)
                    have hb9 := Lib.hid (hbS3.out.setCell (p := ⟨w3.heap.size, 4, none⟩) (Nat.le_refl _) (.int .i64 ((gone B (A.take k) : Int) + 1)))
                    go_roundw
                    case rel => exact ⟨k + 1, by omega, by go_num, hb9.out, by rw [hst.out]; rw [hz']; simpa using hc9.out⟩
                    case measure => simp [intOf]; omega
              · go_wp2_with (first | (at_lookup; refine wpList_look_ok _ rfl _ _ rfl (w.heap.size + 2) _ _ rfl hmB.out s.id rfl hgs _ ho1.out true hh1.out ?_) | (at_lookup; refine wpList_look _ rfl _ _ rfl (w.heap.size + 1) _ _ rfl (hmA.out.alloc _) s.id rfl hgs _ hatA.out ?_) | (at_lookup; refine wpList_look_ok _ rfl _ _ rfl (w.heap.size + 2) _ _ rfl (hmB.out.alloc _) s.row rfl hgr _ ho2.out b2 hh2.out ?_) | (rw [← hS2.out]))
                go_roundw
                case rel => exact ⟨k + 1, by omega, by go_num, hbS3.out, by rw [hst.out]; simpa using hcS.out⟩
                case measure => simp [intOf]; omega
            · obtain rfl : k = A.length := by omega
              rw [List.take_length] at hco
              have hres := hba.res
              obtain ⟨d0, d1, d2, d3, d4⟩ := hco.cells
              obtain ⟨r0, r1, r2, r3, r4⟩ := CostRow.cells (C := w.heap.size) hres
              have fz := fun j => CostRow.fr (C := w.heap.size) hres j
              have z0 := fz 0
              have z1 := fz 1
              have z2 := fz 2
              have z3 := fz 3
              have z4 := fz 4
              have hg5 : Hid ((((((wr.setCell ⟨w.heap.size, 0, none⟩ (.int .i64 (made A B : Nat))).setCell ⟨w.heap.size, 1, none⟩ (.int .i64 0)).setCell ⟨w.heap.size, 2, none⟩ (.int .i64 (att A B : Nat))).setCell ⟨w.heap.size, 3, none⟩ (.int .i64 ins)).setCell ⟨w.heap.size, 4, none⟩ (.int .i64 (gone B A : Nat))).heap[w.heap.size]? = some (.cells #[.int .i64 (made A B : Nat), .int .i64 0, .int .i64 (att A B : Nat), .int .i64 ins, .int .i64 (gone B A : Nat)] 27 (0, 0))) :=
                blk_set (blk_set (blk_set (blk_set (blk_set hres 0 _) 1 _) 2 _) 3 _) 4 _
              have hbE : Hid (Below w.heap.size w (((((wr.setCell ⟨w.heap.size, 0, none⟩ (.int .i64 (made A B : Nat))).setCell ⟨w.heap.size, 1, none⟩ (.int .i64 0)).setCell ⟨w.heap.size, 2, none⟩ (.int .i64 (att A B : Nat))).setCell ⟨w.heap.size, 3, none⟩ (.int .i64 ins)).setCell ⟨w.heap.size, 4, none⟩ (.int .i64 (gone B A : Nat)))) :=
                (((((hb3.out.trans (hb.mono (by omega))).setCell (p := ⟨w.heap.size, 0, none⟩) (Nat.le_refl _) _).setCell (p := ⟨w.heap.size, 1, none⟩) (Nat.le_refl _) _).setCell (p := ⟨w.heap.size, 2, none⟩) (Nat.le_refl _) _).setCell (p := ⟨w.heap.size, 3, none⟩) (Nat.le_refl _) _).setCell (p := ⟨w.heap.size, 4, none⟩) (Nat.le_refl _) _
              clear fz hba
              replace hres := Lib.hid hres
              replace hb := Lib.hid hb
              replace hco := Lib.hid hco
              go_wp2_with fail
              refine bodyPost_ret (results_cell1 (fn := Try.f6) (p := 4) (ty := 27) (by kernel_rfl) _ _ _ _ _ _ _ rfl hg5.out Try.underlying27 rfl cost_info) rfl ⟨vis, hvn.out, hvis.out, ?_, hbE.out⟩
              rw [hins.out]
        · intro x w6 cnt6 hwx hlx hhx hrg6 hlt6 hg6 hs6 hen
          have hnx : rowsOf A B x ≠ [] := by have := m5.out x; rw [hhx] at this; intro e; rw [e] at this; simp at this
          obtain ⟨gx, cx, hVe, hgx1, hgx2⟩ := World.ownsRow.form (hVx.out x) (List.length_pos_iff.2 hnx)
          rw [hVe] at hen ⊢
          have hxl := rowsOf_len A B x
          have hxv : x ∉ vis := fun h => by have := (hv1.out x h).2; rw [hlx] at this; cases this
          obtain ⟨ins, hins⟩ : ∃ ins : Int, ins = (made A B : Int) + moved A B + (vis.map fun r => delta (rowsOf A B r)).sum := ⟨_, rfl⟩
          have hsb := sum_bound (fun r => delta (rowsOf A B r)) 1048576 vis (fun r _ => ⟨delta_nonneg _, by have := delta_le (rowsOf A B r); have := rowsOf_len A B r; omega⟩)
          have hins2 : 0 ≤ ins ∧ ins ≤ 1099513724928 + 2097152 := by
            have : (vis.length : Int) ≤ 1048576 := by omega
            have : (vis.length : Int) * (1048576 : Nat) ≤ 1048576 * (1048576 : Nat) := Int.mul_le_mul_of_nonneg_right this (by omega)
            omega
          have hd1 := delta_nonneg (rowsOf A B x)
          have hd2 := delta_le (rowsOf A B x)
          have hc6 : CostRow w6 w3.heap.size (made A B : Nat) 0 (att A B : Nat) ins 0 := by rw [hins]; exact (hg6.block _ hcx.lt (fun e => by injection e with e; omega)).trans hcx
          have hV6 : ∀ k, OwnIds w6 (w3.heap.size + 2) (V k) (rowsOf A B k) := fun k => World.ownsRow.kept (hVx.out k) hg6 (by
            cases hq : (V k).ownBlock with
            | none => exact .inl rfl
            | some b => exact .inr (fun e => hRl.out k b hq (Option.some.inj e)))
          have hb6 : Below w3.heap.size w3 w6 := hbx.out.grown hg6 (by omega) (fun k hk => by injection hk with hk; omega)
          have cR : Hid (∀ W, Below w6.heap.size w6 W → Calls Try.prog 11 #[.slice (some ⟨gx, 0, none⟩) (rowsOf A B x).length cx] W fun e w' => e = .returned (.int .i64 ((patL (rowsOf A B x)).length : Nat)) ∧ Below W.heap.size W w') := fun W hW =>
            rises_any _ (rowsOf A B x) W ⟨_, _, rfl, fun _ => ⟨gx, rfl, by have := hW.size; omega, fun j hj => by
              have h0 := World.ownsRow.cellAt (hVe ▸ hV6 x) j (by omega)
              rw [(hW.cell (p := ⟨gx, j, none⟩) (by show gx < _; omega)), h0]
              simp [hj, List.getD]⟩⟩ (by omega)
          have hdl : ((rowsOf A B x).length : Int) - ((patL (rowsOf A B x)).length : Int) = delta (rowsOf A B x) := rfl
          obtain ⟨d0, d1, d2, d3, d4⟩ := hc6.cells
          have e3 := hc6.fr 3
          replace hc6 := Lib.hid hc6
          replace hV6 := Lib.hid hV6
          replace hb6 := Lib.hid hb6
          replace hrg6 := Lib.hid hrg6
          replace hins := Lib.hid hins
          clear hcx hrg hg6 d0 d1 d2 d4
          go_wp2_with fail
          have hq0 : (fun U : World => U.cell? ⟨w3.heap.size, 3, none⟩ = some (.int .i64 ins)) w6.drew := d3
          have hw1 : IntKind.i64.wrap (((rowsOf A B x).length : Int) - ((patL (rowsOf A B x)).length : Int)) = delta (rowsOf A B x) := IntWalk.i64_in _ (by rw [hdl]; omega)
          have hw2 : IntKind.i64.wrap (ins + delta (rowsOf A B x)) = ins + delta (rowsOf A B x) := IntWalk.i64_in _ (by omega)
          clear hdl
          refine region_but (fun U : World => U.cell? ⟨w3.heap.size, 3, none⟩ = some (.int .i64 ins)) 9 (by kernel_rfl) ?_
          refine AnyBut.take 0 (d := some 178) (v := ?_) rfl rfl (by kernel_rfl) (by decide) (by kernel_rfl) (by kernel_rfl) (by kernel_rfl) (fun _ _ _ h => h) (by rfl) (by assumption) ?_ ?_
          rotate_left
          · intro U hU; have y0 : U.cell? ⟨w3.heap.size, 3, none⟩ = some (.int .i64 ins) := hU; go_simp <;> with_reducible rfl
          try simp only [Act.put, List.setIfInBounds_toArray, List.set_cons_zero, List.set_cons_succ]
          refine AnyBut.take 1 (d := some 179) (v := ?_) rfl rfl (by kernel_rfl) (by decide) (by kernel_rfl) (by kernel_rfl) (by kernel_rfl) (fun _ _ _ h => h) (by rfl) (by assumption) ?_ ?_
          rotate_left
          · intro U hU; have y0 : U.cell? ⟨w3.heap.size, 3, none⟩ = some (.int .i64 ins) := hU; go_simp <;> with_reducible rfl
          try simp only [Act.put, List.setIfInBounds_toArray, List.set_cons_zero, List.set_cons_succ]
          refine AnyBut.take 2 (d := some 180) (v := ?_) rfl rfl (by kernel_rfl) (by decide) (by kernel_rfl) (by kernel_rfl) (by kernel_rfl) (fun _ _ _ h => h) (by rfl) (by assumption) ?_ ?_
          rotate_left
          · intro U hU; have y0 : U.cell? ⟨w3.heap.size, 3, none⟩ = some (.int .i64 ins) := hU; go_simp <;> with_reducible rfl
          try simp only [Act.put, List.setIfInBounds_toArray, List.set_cons_zero, List.set_cons_succ]
          refine AnyBut.take 3 (d := some 181) (v := ?_) rfl rfl (by kernel_rfl) (by decide) (by kernel_rfl) (by kernel_rfl) (by kernel_rfl) (fun _ _ _ h => h) (by rfl) (by assumption) ?_ ?_
          rotate_left
          · intro U hU; have y0 : U.cell? ⟨w3.heap.size, 3, none⟩ = some (.int .i64 ins) := hU; go_simp <;> with_reducible rfl
          try simp only [Act.put, List.setIfInBounds_toArray, List.set_cons_zero, List.set_cons_succ]
          refine AnyBut.take 4 (d := some 182) (v := ?_) rfl rfl (by kernel_rfl) (by decide) (by kernel_rfl) (by kernel_rfl) (by kernel_rfl) (fun _ _ _ h => h) (by rfl) (by assumption) ?_ ?_
          rotate_left
          · intro U hU; have y0 : U.cell? ⟨w3.heap.size, 3, none⟩ = some (.int .i64 ins) := hU; go_simp <;> with_reducible rfl
          try simp only [Act.put, List.setIfInBounds_toArray, List.set_cons_zero, List.set_cons_succ]
          refine AnyBut.one 5 rfl (by kernel_rfl) (fun K hK => ?_)
          go_simp
          go_at_call 11
          refine (cR.out _ (Below.refl _ w6).drew).mono ?_
          first | rintro e w7 ⟨rfl, hb7⟩ | rintro e w7 rfl hb7
          have hz7 : w6.heap.size ≤ w7.heap.size := hb7.size
          have hb67 : Below w6.heap.size w6 w7 := ⟨hb7.os, hb7.tape, hb7.output, hb7.size, hb7.block⟩
          have d37 : w7.cell? ⟨w3.heap.size, 3, none⟩ = some (.int .i64 ins) := (hb67.cell (p := ⟨w3.heap.size, 3, none⟩) (by show w3.heap.size < _; omega)).trans d3
          have e37 : w7.frozen? ⟨w3.heap.size, 3, none⟩ = false := (hb67.frozen (p := ⟨w3.heap.size, 3, none⟩) (by show w3.heap.size < _; omega)).trans e3
          go_wp2_with fail
          refine hK.out _ _ (fun _ => (d37 : (fun U : World => U.cell? ⟨w3.heap.size, 3, none⟩ = some (.int .i64 ins)) w7)) ?_
          clear hK K hq0
          have hq0 : (fun U : World => U.cell? ⟨w3.heap.size, 3, none⟩ = some (.int .i64 ins)) w7 := d37
          try simp only [Act.put, List.setIfInBounds_toArray, List.set_cons_zero, List.set_cons_succ]
          refine AnyBut.take 6 (d := some 184) (v := ?_) rfl rfl (by kernel_rfl) (by decide) (by kernel_rfl) (by kernel_rfl) (by kernel_rfl) (fun _ _ _ h => h) (by rfl) (by assumption) ?_ ?_
          rotate_left
          · intro U hU; have y0 : U.cell? ⟨w3.heap.size, 3, none⟩ = some (.int .i64 ins) := hU; go_simp <;> with_reducible rfl
          try simp only [Act.put, List.setIfInBounds_toArray, List.set_cons_zero, List.set_cons_succ]
          refine AnyBut.take 7 (d := some 185) (v := ?_) rfl rfl (by kernel_rfl) (by decide) (by kernel_rfl) (by kernel_rfl) (by kernel_rfl) (fun _ _ _ h => h) (by rfl) (by assumption) ?_ ?_
          rotate_left
          · intro U hU; have y0 : U.cell? ⟨w3.heap.size, 3, none⟩ = some (.int .i64 ins) := hU; go_simp <;> with_reducible rfl
          try simp only [Act.put, List.setIfInBounds_toArray, List.set_cons_zero, List.set_cons_succ]
          refine AnyBut.take 8 (d := some 186) (v := ?_) rfl rfl (by kernel_rfl) (by decide) (by kernel_rfl) (by kernel_rfl) (by kernel_rfl) (fun _ _ _ h => h) (by rfl) (by assumption) ?_ ?_
          rotate_left
          · intro U hU; have y0 : U.cell? ⟨w3.heap.size, 3, none⟩ = some (.int .i64 ins) := hU; go_simp <;> with_reducible rfl
          try simp only [Act.put, List.setIfInBounds_toArray, List.set_cons_zero, List.set_cons_succ]
          refine AnyBut.one 9 rfl (by kernel_rfl) (fun K hK => ?_)
          go_simp
          refine hK.out _ _ (fun h => absurd rfl h) ?_
          clear hK K
          refine AnyBut.done (by kernel_rfl) ?_
          have hb7 : Hid (Below w3.heap.size w3 (w7.setCell ⟨w3.heap.size, 3, none⟩ (.int .i64 (ins + delta (rowsOf A B x))))) := (hb6.out.trans (hb67.mono (by omega))).setCell (p := ⟨w3.heap.size, 3, none⟩) (Nat.le_refl _) _
          have hc7 : Hid (CostRow (w7.setCell ⟨w3.heap.size, 3, none⟩ (.int .i64 (ins + delta (rowsOf A B x)))) w3.heap.size (made A B : Nat) 0 (att A B : Nat) (ins + delta (rowsOf A B x)) 0) := CostRow.s3 ((hb67.block _ (by omega)).trans hc6.out) _
          have hst : w7.grownBy (w7.setCell ⟨w3.heap.size, 3, none⟩ (.int .i64 (ins + delta (rowsOf A B x)))) (some w3.heap.size) := ⟨rfl, rfl, rfl, by simp, fun j _ hj => Below.heap_setCell _ _ _ _ (fun e => hj (by rw [e]))⟩
          have hrg7 : Hid ((w7.setCell ⟨w3.heap.size, 3, none⟩ (.int .i64 (ins + delta (rowsOf A B x)))).ranges Try.prog 3 R (w3.heap.size + 1) RI n D (fun z => left z && !z.sameKey (keyL x)) cnt6) :=
            (hrg6.out.kept (below_none hb67) (by simp) (by simp)).kept hst (fun e => by injection e with e; omega) (fun e => by injection e with e; omega)
          have hV7 : Hid (∀ k, OwnIds (w7.setCell ⟨w3.heap.size, 3, none⟩ (.int .i64 (ins + delta (rowsOf A B x)))) (w3.heap.size + 2) (V k) (rowsOf A B k)) := fun k =>
            ownsRow_setCell_below (World.ownsRow.kept (hV6.out k) (below_none hb67) (Classical.em _)) (by show w3.heap.size < _; omega) _
          have hvis : Hid ((∀ r, r ∈ x :: vis → rowsOf A B r ≠ [] ∧ (left (keyL r) && !(keyL r).sameKey (keyL x)) = false) ∧ (∀ r, rowsOf A B r ≠ [] → r ∈ x :: vis ∨ (left (keyL r) && !(keyL r).sameKey (keyL x)) = true)) := by
            refine ⟨fun r hr => ?_, fun r hr => ?_⟩
            · rcases List.mem_cons.1 hr with rfl | hr
              · exact ⟨hnx, by simp [same_self]⟩
              · exact ⟨(hv1.out r hr).1, by rw [(hv1.out r hr).2]; rfl⟩
            · by_cases e : r = x
              · exact .inl (by rw [e]; exact List.mem_cons_self ..)
              · rcases hv2.out r hr with h | h
                · exact .inl (List.mem_cons_of_mem _ h)
                · exact .inr (by rw [h, sameKey_ne (keyL_ne e)]; rfl)
          have hsum : ins + delta (rowsOf A B x) = (made A B : Int) + moved A B + (delta (rowsOf A B x) + (vis.map fun r => delta (rowsOf A B r)).sum) := by
            rw [hins.out]; omega
          rw [hsum] at hb7 hc7 hrg7 hV7
          rw [hsum]
          have hvn7 : Hid (x :: vis).Nodup := List.nodup_cons.2 ⟨hxv, hvn.out⟩
          clear hst hw1 hw2 d37 e37 hb67 cR
          go_wp2_with fail
          go_roundw
          case rel => exact ⟨_, cnt6, x :: vis, hrg7.out, hb7.out, hc7.out, hvn7.out, hvis.out.1, hvis.out.2, by rw [List.length_cons]; omega, hV7.out, by simp; omega⟩
          case measure => rw [hrg7.out.left_eq, hrgL.out]; omega
end Go.Proofs.Ytehcbicngbibgaa
