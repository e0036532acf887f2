/- The walk of seats. -/
import Derived.Test.YtehcbicngbibgaaBgA
namespace Go.Proofs.Ytehcbicngbibgaa
open Go Go.RowKit Go.Maps

def mapNodeT : TypeId := 40
/-- A look-up in a map of seats. -/
theorem wpList_look_ok (w : World) {ops : Array Oper} {rest : List Oper} {o : Oper} {a : Act} {Q : Exit → Act → World → Prop}
    (hg : o.guard = none) (m x : Operand) (hop : o.op = Op.lookup 40 m x true) (b n : Nat) (D : DataW Value)
    (hm : a.eval m = .map (some b)) (hown : w.ownsMap Try.prog 3 R b n D) (k : Int) (hx : a.eval x = .int .i64 k) (hwf : (Lit.int .i64 k).wf = true)
    (v : Value) (hat : D.atKey (keyL k) (.held zeroSeat) = .held v) (okb : Bool) (hok : Maps.has D (keyL k) = okb)
    (hK : wpList Try.prog ops Q rest (a.put o.dst (.tuple #[v, .bool okb])) w) : wpList Try.prog ops Q (o :: rest) a w :=
  wpList_lookup_own_ok w hg m x 40 hop 3 45 law3 Try.underlying40 R (zeroE51 w) (.held zeroSeat) [] rfl b n D hm hown (.int .i64 k) (keyL k) hx (keyOf_int_mk Try.underlying3 hwf) (fun v' ps hv => by
    have e : v' = v := by
      unfold R at hv
      rw [hat] at hv
      simp at hv
      exact hv.1
    rw [e, hok]
    exact hK)

/-- A node's own block. -/
def NodeRow (W : World) (T : Nat) (s : Seat) : Prop := W.heap[T]? = some (.cells #[.int .i64 s.id, .string s.tag, .string s.text, .slice s.aa s.an s.ac, .slice s.ka s.kn s.kc] 32 (0, 0))
theorem NodeRow.cells {W : World} {T : Nat} {s : Seat} (h : NodeRow W T s) : W.cell? ⟨T, 0, none⟩ = some (.int .i64 s.id) ∧ W.cell? ⟨T, 1, none⟩ = some (.string s.tag) ∧ W.cell? ⟨T, 2, none⟩ = some (.string s.text) ∧ W.cell? ⟨T, 3, none⟩ = some (.slice s.aa s.an s.ac) ∧ W.cell? ⟨T, 4, none⟩ = some (.slice s.ka s.kn s.kc) := by
  simp [World.cell?, show W.heap[T]? = _ from h]
theorem NodeRow.lt {W : World} {T : Nat} {s : Seat} (h : NodeRow W T s) : T < W.heap.size := (Array.getElem?_eq_some_iff.1 (show W.heap[T]? = _ from h)).1
def OwnIds (w : World) (B : Nat) (v : Value) (ids : List Int) : Prop := w.ownsRow B 3 1 v ids.length (ids.map (Value.int .i64))
theorem infoInt : (Try.prog.info? 3).map (fun i => (i.zero, i.size, i.bytes)) = some (some (.int .i64 0), 1, 8) := by kernel_rfl
def pre (N : Nat → Seat) (F : Nat → List Seat) (k : Nat) : List Seat := (List.range k).flatMap fun i => N i :: F i
theorem pre_succ (N : Nat → Seat) (F : Nat → List Seat) (k : Nat) : pre N F (k + 1) = pre N F k ++ N k :: F k := by simp [pre, List.range_succ]
theorem pre_le (N : Nat → Seat) (F : Nat → List Seat) {k n : Nat} (h : k ≤ n) : ∃ r, pre N F n = pre N F k ++ r := by
  induction h with
  | refl => exact ⟨[], by simp⟩
  | step _ ih => obtain ⟨r, hr⟩ := ih; exact ⟨r ++ N _ :: F _, by rw [pre_succ, hr, List.append_assoc]⟩
theorem map_ne_row {w : World} {bm n : Nat} {D : DataW Value} {B : Nat} {v : Value} {ids : List Int} (h : w.ownsMap Try.prog 3 R bm n D) (ho : OwnIds w B v ids) : v.ownBlock ≠ some bm := by
  intro e
  obtain ⟨es, clock, hb, _⟩ := h
  rcases ho.2 with ⟨rfl, _⟩ | ⟨g, cap, cur, rfl, _, hg, _⟩
  · simp [Value.ownBlock] at e
  · simp [Value.ownBlock] at e
    subst e
    rw [hb] at hg
    simp at hg

set_option maxHeartbeats 4000000 in
set_option maxRecDepth 100000 in
theorem seats_any (B : Nat) (v : Value) (row : Int) (S : List Seat) (w0 : World) (hF : Flat w0 B v row S) : ∀ (bm : Nat) (done : List Seat) (ov : Value) (ids : List Int) (w : World), Below B w0 w → B ≤ bm → B ≤ w.heap.size →
    w.ownsMap Try.prog 3 R bm done.length (mapOf done) → OwnIds w B ov ids → ((done ++ S).map (·.id)).Nodup → ids.length + S.length ≤ 1048576 → done.length + S.length ≤ 1048576 →
    Calls Try.prog 8 #[v, .int .i64 row, .map (some bm), ov] w fun e w' => ∃ ov', e = .returned ov' ∧ w'.ownsMap Try.prog 3 R bm (done ++ S).length (mapOf (done ++ S)) ∧ OwnIds w' B ov' (ids ++ S.map (·.id)) ∧ Turn w w' bm ov ov' := by
  induction hF with
  | mk ao b o n cap row N F hn hao hc hrow hk ih =>
    intro bm done ov ids w hb0 hBm hBw hown hids hnd hL1 hL2
    obtain ⟨i0, hi, hz0, hz1, hz2⟩ := info_parts infoInt
    change ((done ++ pre N F n).map (·.id)).Nodup at hnd
    change ids.length + (pre N F n).length ≤ 1048576 at hL1
    change done.length + (pre N F n).length ≤ 1048576 at hL2
    change Calls _ _ _ _ fun e w' => ∃ ov', e = .returned ov' ∧ w'.ownsMap Try.prog 3 R bm (done ++ pre N F n).length (mapOf (done ++ pre N F n)) ∧ OwnIds w' B ov' (ids ++ (pre N F n).map (·.id)) ∧ Turn w w' bm ov ov'
    have hov0 : Hid (∀ k, ov.ownBlock = some k → B ≤ k) := fun k hk => (hids.lt k hk).1
    replace hnd := Lib.hid hnd
    replace hc := Lib.hid hc
    replace hrow := Lib.hid hrow
    replace ih := Lib.hid ih
    replace hown := Lib.hid hown
    replace hids := Lib.hid hids
    replace hb0 := Lib.hid hb0
    replace hk := Lib.hid hk
    go_enter Try.func8, Try.ntmps8
    go_wp2_with fail
    go_loopw [3, 15] (fun u i wr => ∃ k : Nat, k ≤ n ∧ i = .int .i64 (k : Nat) ∧ wr.ownsMap Try.prog 3 R bm (done ++ pre N F k).length (mapOf (done ++ pre N F k)) ∧ OwnIds wr B u (ids ++ (pre N F k).map (·.id)) ∧ Turn w wr bm ov u) (fun _ i _ => n - (intOf i).toNat)
    case atStart => exact ⟨0, Nat.zero_le _, rfl, by simpa [pre] using hown.out, by simpa [pre] using hids.out, Turn.refl _ _ _⟩
    case round =>
      obtain ⟨k, hk, rfl, ho, hi1, ht⟩ := hrel
      have hbr : Below B w0 wr := hb0.out.trans (ht.toBelow hBm hov0.out hBw)
      have hBr : B ≤ wr.heap.size := Nat.le_trans hBw ht.size
      have htz := ht.size
      by_cases hlt : k < n
      · obtain ⟨rfl, hbB⟩ := hao (by omega)
        obtain ⟨s, hs⟩ : ∃ s, s = N k := ⟨_, rfl⟩
        obtain ⟨e1, e2, hg1⟩ := hrow.out k hlt
        have ihk := Lib.hid (ih.out k hlt)
        have hck := hc.out k hlt
        rw [← hs] at e1 e2 hg1 ihk hck
        have gc : ∀ j, j < 5 → wr.cell? ⟨b, o + (k * 5 + j), none⟩ = s.cells[j]? := fun j hj => (hbr.cell (p := ⟨b, o + (k * 5 + j), none⟩) hbB).trans (hck j hj)
        have x0 : wr.cell? ⟨b, o + k * 5, none⟩ = some (.int .i64 s.id) := gc 0 (by omega)
        have x1 : wr.cell? ⟨b, o + k * 5 + 1, none⟩ = some (.string s.tag) := by rw [Nat.add_assoc]; exact gc 1 (by omega)
        have x2 : wr.cell? ⟨b, o + k * 5 + 2, none⟩ = some (.string s.text) := by rw [Nat.add_assoc]; exact gc 2 (by omega)
        have x3 : wr.cell? ⟨b, o + k * 5 + 3, none⟩ = some (.slice s.aa s.an s.ac) := by rw [Nat.add_assoc]; exact gc 3 (by omega)
        have x4 : wr.cell? ⟨b, o + k * 5 + 4, none⟩ = some (.slice s.ka s.kn s.kc) := by rw [Nat.add_assoc]; exact gc 4 (by omega)
        obtain ⟨r, hr⟩ := pre_le N F (show k + 1 ≤ n by omega)
        have hnd1 : ((done ++ pre N F (k + 1)).map (·.id)).Nodup := by
          have := hnd.out
          rw [hr, ← List.append_assoc, List.map_append] at this
          exact (List.nodup_append.1 this).1
        have hln : (pre N F n).length = (pre N F (k + 1)).length + r.length := by rw [hr, List.length_append]
        have hlk : (pre N F (k + 1)).length = (pre N F k).length + ((F k).length + 1) := by rw [pre_succ, List.length_append, List.length_cons]
        rw [pre_succ, ← hs] at hnd1
        have hout : ∀ x ∈ done ++ pre N F k, x.id ≠ s.id := by
          intro x hx e
          rw [← List.append_assoc, List.map_append, List.nodup_append] at hnd1
          exact hnd1.2.2 x.id (List.mem_map_of_mem hx) s.id (by simp) e
        have hat0 : Hid ((mapOf (done ++ pre N F k)).atKey (keyL s.id) (.held zeroSeat) = .held zeroSeat) := at_mapOf_out _ _ hout _
        have hhas : Hid (Maps.has (mapOf (done ++ pre N F k)) (keyL s.id) = false) := by
          show Maps.has _ _ = false
          rw [has_mapOf, List.any_eq_false]
          intro x hx
          simpa using hout x hx
        replace hnd1 := Lib.hid hnd1
        replace ho := Lib.hid ho
        replace hi1 := Lib.hid hi1
        replace ht := Lib.hid ht
        replace hbr := Lib.hid hbr
        replace hr := Lib.hid hr
        replace hs := Lib.hid hs
        clear gc hck
        obtain ⟨S2, hS2⟩ : ∃ S2, S2 = (wr.alloc (.cells #[.int .i64 s.id, .string s.tag, .string s.text, .slice s.aa s.an s.ac, .slice s.ka s.kn s.kc] 32)).alloc (.cells #[.int .i64 0, .string ByteArray.empty, .string ByteArray.empty, .slice none 0 0, .slice none 0 0, .int .i64 0, .int .i64 0] 45) := ⟨_, rfl⟩
        have hb2 : Hid (Below wr.heap.size wr S2) := by rw [hS2]; exact ((Below.refl _ wr).alloc (Nat.le_refl _) _).alloc (by simp) _
        have hN2 : Hid (NodeRow S2 wr.heap.size s) := by
          rw [hS2]
          exact (Below.heap_alloc _ _ _ (by simp)).trans (heap_alloc_new wr _)
        have hzS2 : S2.heap.size = wr.heap.size + 2 := by rw [hS2]; simp
        obtain ⟨y0, y1, y2, y3, y4⟩ := hN2.out.cells
        have ho2 : Hid (S2.ownsMap Try.prog 3 R bm (done ++ pre N F k).length (mapOf (done ++ pre N F k))) := by rw [hS2]; exact (ho.out.alloc _).alloc _
        replace hS2 := Lib.hid hS2
        go_wp2_with (first | (at_lookup; refine wpList_look_ok _ rfl _ _ rfl bm _ _ rfl (ho.out.alloc _) s.id rfl hg1 (.agg #[.int .i64 0, .string ByteArray.empty, .string ByteArray.empty, .slice none 0 0, .slice none 0 0, .int .i64 0, .int .i64 0]) hat0.out false hhas.out ?_) | (rw [← hS2.out]) | (at_mapUpdate; refine wpList_mapUpdate_own _ rfl _ _ _ 40 rfl 3 45 law3 Try.underlying40 R bm _ _ rfl ho2.out (by unfold maxLen; rw [List.length_append]; omega) _ _ (keyL s.id) rfl rfl (keyOf_int_mk Try.underlying3 hg1) (.held (.agg #[.int .i64 s.id, .string s.tag, .string s.text, .slice s.aa s.an s.ac, .slice s.ka s.kn s.kc, .int .i64 row, .int .i64 (k : Nat)])) [] rfl ?_) | fail)
        intro w3 hown3 hgrow3
        have hv : s.val = .agg #[.int .i64 s.id, .string s.tag, .string s.text, .slice s.aa s.an s.ac, .slice s.ka s.kn s.kc, .int .i64 row, .int .i64 (k : Nat)] := by rw [Seat.val, e1, e2]
        rw [← hv, ← mapOf_snoc] at hown3
        have hz3 := hgrow3.size
        have hne := map_ne_row ho.out hi1.out
        have hbmlt := ho.out.lt
        have hN3 : Hid (NodeRow w3 wr.heap.size s) := (hgrow3.block wr.heap.size (by omega) (fun e => by injection e with e; omega)).trans hN2.out
        obtain ⟨y0, y1, y2, y3, y4⟩ := hN3.out.cells
        have hi3 : Hid (OwnIds w3 B u3 (ids ++ (pre N F k).map (·.id))) := by
          refine World.ownsRow.kept (World.ownsRow.kept hi1.out (World.grownBy.mk hb2.out.os hb2.out.tape hb2.out.output hb2.out.size fun k hk _ => hb2.out.block k hk : wr.grownBy S2 none) (Classical.em _)) hgrow3 (.inr hne)
        have ht3 : Hid (Turn w w3 bm ov u3) := (ht.out.trans (Turn.below hb2.out)).trans (Turn.map hgrow3)
        have hq : (ids ++ (pre N F k).map (·.id)).length ≤ 1048575 := by rw [List.length_append, List.length_map]; omega
        replace hown3 := Lib.hid hown3
        clear hgrow3 hi1 hN2 hb2 hS2 ho ht
        go_wp2_with (at_builtin; refine wpList_append_own_at _ rfl _ _ 41 rfl B 3 i0 (.int .i64 0) 1 8 Try.underlying41 hi hz0 hz1 hz2 rfl (by decide) _ _ _ rfl (World.ownsRow.alloc hi3.out _) ⟨w3.heap.size, 0, none⟩ 1 1 [.int .i64 s.id] rfl rfl (cell_one_new _ _ _) (ints_oneCell .i64 [s.id]) (by unfold maxLen; omega) (by omega) (by simp; omega) ?_)
        intro v4 w4 hown4 hgrow4 _ hloc4
        have hal : Below w3.heap.size w3 (w3.alloc (.cells #[.int .i64 s.id] 3)) := (Below.refl _ _).alloc (Nat.le_refl _) _
        have hz4 := hgrow4.size
        have hza : (w3.alloc (.cells #[.int .i64 s.id] 3)).heap.size = w3.heap.size + 1 := by simp
        have ht4 : Hid (Turn w w4 bm ov v4) := by
          refine (ht3.out.trans (Turn.below hal)).trans (Turn.grown hgrow4 ?_)
          rcases hloc4 with e | e
          · exact .inl e
          · exact .inr ⟨_, e, by omega⟩
        have hne4 : u3.ownBlock ≠ some wr.heap.size := fun e => by
          have := (hi3.out.lt _ e).2
          have h9 : NodeRow w3 wr.heap.size s := hN3.out
          rcases hi3.out.2 with ⟨hv0, _⟩ | ⟨g, cp, cur, hv0, _, hg, _⟩
          · rw [hv0] at e; simp [Value.ownBlock] at e
          · rw [hv0] at e; simp [Value.ownBlock] at e
            subst e
            rw [show w3.heap[wr.heap.size]? = _ from h9] at hg
            simp at hg
        have hN4 : Hid (NodeRow w4 wr.heap.size s) := (hgrow4.block wr.heap.size (by omega) (fun e => hne4 e.symm)).trans ((Below.heap_alloc _ _ _ (by omega)).trans hN3.out)
        have hmap4 : Hid (w4.ownsMap Try.prog 3 R bm (done ++ pre N F k ++ [s]).length (mapOf (done ++ pre N F k ++ [s]))) := by
          have h8 := (hown3.out.alloc (.cells #[.int .i64 s.id] 3)).kept hgrow4 (fun e => hne e.symm)
          simpa [Hid, Nat.add_assoc] using h8
        have hids4 : Hid (OwnIds w4 B v4 (ids ++ (pre N F k).map (·.id) ++ [s.id])) := by
          show w4.ownsRow B 3 1 v4 _ _
          simpa [Nat.add_assoc] using hown4
        obtain ⟨y0, y1, y2, y3, y4⟩ := hN4.out.cells
        have hnd4 : ((done ++ pre N F k ++ [s] ++ F k).map (·.id)).Nodup := by
          have := hnd1.out
          simpa [List.append_assoc] using this
        have hb4 : Below B w0 w4 := hb0.out.trans (ht4.out.toBelow hBm hov0.out hBw)
        have cI := ihk.out bm (done ++ pre N F k ++ [s]) v4 (ids ++ (pre N F k).map (·.id) ++ [s.id]) w4 hb4 hBm (by omega) hmap4.out hids4.out hnd4 (by simp; omega) (by simp; omega)
        clear hown4 hgrow4 hloc4 hal hN4 hN3 hown3 hi3 ht3 hmap4 hids4 hnd4 hb4 ihk hat0 hhas
        go_wp2_with (go_at_call 8; refine cI.mono ?_)
        rintro e w5 v5 rfl hmap5 hids5 ht5
        have ht05 := Lib.hid (ht4.out.trans ht5)
        have hps : pre N F (k + 1) = pre N F k ++ s :: F k := by rw [pre_succ, hs.out]
        replace hmap5 : Hid (w5.ownsMap Try.prog 3 R bm (done ++ pre N F (k + 1)).length (mapOf (done ++ pre N F (k + 1)))) := by
          simpa [Hid, hps, Nat.add_assoc] using hmap5
        replace hids5 : Hid (OwnIds w5 B v5 (ids ++ (pre N F (k + 1)).map (·.id))) := by
          simpa [Hid, hps, Nat.add_assoc] using hids5
        clear cI ht5 ht4
        go_wp2_with fail
        go_roundw
        case rel => exact ⟨k + 1, by omega, by go_num, hmap5.out, hids5.out, ht05.out⟩
        case measure => simp [intOf]; omega
      · obtain rfl : k = n := by omega
        go_wp2_with fail
        go_ret
        exact ⟨_, rfl, ho, hi1, ht⟩
end Go.Proofs.Ytehcbicngbibgaa
