/- strings.Builder, alone or at the head of a struct (T: the block's type): its writers, its text. -/
import Derived.Test.YtehcbicngbibgaaGreatDoorZBr
import Derived.Lib.Builder
import Derived.Lib.AppendStr
import Derived.Lib.UnsafeStr
import Derived.Laws.Externs
namespace Go.Proofs.YtehcbicngbibgaaGreatDoor
open Go Go.RowKit

/-- What a writer turns: the builder's block b, its buffer's block; the buffer is where it was, or new. -/
structure Turn (w w' : World) (b : Nat) (v v' : Value) : Prop where
  os : w'.os = w.os
  tape : w'.tape = w.tape
  output : w'.output = w.output
  size : w.heap.size ≤ w'.heap.size
  block : ∀ j, j < w.heap.size → j ≠ b → some j ≠ v.ownBlock → w'.heap[j]? = w.heap[j]?
  loc : v'.ownBlock = v.ownBlock ∨ ∃ g, v'.ownBlock = some g ∧ w.heap.size ≤ g
theorem Turn.refl (w : World) (b : Nat) (v : Value) : Turn w w b v v := ⟨rfl, rfl, rfl, Nat.le_refl _, fun _ _ _ _ => rfl, .inl rfl⟩
theorem Turn.trans {w w1 w2 : World} {b : Nat} {v o1 o2 : Value} (h : Turn w w1 b v o1) (k : Turn w1 w2 b o1 o2) : Turn w w2 b v o2 := by
  refine ⟨k.os.trans h.os, k.tape.trans h.tape, k.output.trans h.output, Nat.le_trans h.size k.size, fun j hj hb ho => ?_, ?_⟩
  · refine (k.block j (Nat.lt_of_lt_of_le hj h.size) hb ?_).trans (h.block j hj hb ho)
    rcases h.loc with e | ⟨g, e, hg⟩
    · rw [e]; exact ho
    · rw [e]; intro e2; injection e2 with e2; omega
  · rcases k.loc with e | ⟨g, e, hg⟩
    · rcases h.loc with e2 | ⟨g2, e2, hg2⟩
      · exact .inl (e.trans e2)
      · exact .inr ⟨g2, e.trans e2, hg2⟩
    · exact .inr ⟨g, e, Nat.le_trans h.size hg⟩
theorem Turn.below {w w1 : World} {b : Nat} {v : Value} (h : Below w.heap.size w w1) : Turn w w1 b v v := ⟨h.os, h.tape, h.output, h.size, fun j hj _ _ => h.block j hj, .inl rfl⟩
theorem Turn.low {w w' : World} {b : Nat} {v v' : Value} {B : Nat} (h : Turn w w' b v v') (h1 : B ≤ b) (h2 : ∀ k, v.ownBlock = some k → B ≤ k) (h3 : B ≤ w.heap.size) : Below B w w' :=
  ⟨h.os, h.tape, h.output, h.size, fun j hj => h.block j (by omega) (by omega) (fun e => by have := h2 j e.symm; omega)⟩
theorem Turn.high {w w' : World} {b : Nat} {v v' : Value} {B : Nat} (h : Turn w w' b v v') (h2 : ∀ k, v.ownBlock = some k → B ≤ k) (h3 : B ≤ w.heap.size) : ∀ k, v'.ownBlock = some k → B ≤ k := fun k hk => by
  rcases h.loc with e | ⟨g, e, hg⟩
  · exact h2 k (e.symm.trans hk)
  · have : some g = some k := e.symm.trans hk
    injection this with this; omega

/-- A builder in block b of type T, its buffer v, the cells l written. -/
def Bat (T b : Nat) (v : Value) (l : List Value) (w : World) : Prop :=
  (∃ p, (p = .pointer none ∨ p = .pointer (some ⟨b, 0, none⟩)) ∧ w.heap[b]? = some (.cells #[p, v] T (0, 0))) ∧ w.ownsRow 0 5 1 v l.length l ∧ v.ownBlock ≠ some b ∧ (l = [] → v = .slice none 0 0)
/-- A type at whose head a builder lies. -/
def Heads (T : Nat) : Prop := liesAt Tryz.prog Tryz.prog.depth T (2 / Tryz.prog.cellsOf T) 0 68 1 = true
theorem heads_builder : Heads 68 := by show _ = true; kernel_rfl
theorem heads_teller : Heads 204 := by show _ = true; kernel_rfl
theorem Bat.lt {T b : Nat} {v : Value} {l : List Value} {w : World} (h : Bat T b v l w) : b < w.heap.size := by
  obtain ⟨⟨p, _, h⟩, _⟩ := h
  exact (Array.getElem?_eq_some_iff.1 h).1
theorem Bat.vlt {T b : Nat} {v : Value} {l : List Value} {w : World} (h : Bat T b v l w) : ∀ k, v.ownBlock = some k → k < w.heap.size := fun k hk => (h.2.1.lt k hk).2
theorem Bat.later {T b : Nat} {v : Value} {l : List Value} {w w' : World} (h : Bat T b v l w) (hb : Below w.heap.size w w') : Bat T b v l w' := by
  have hlt := h.lt
  obtain ⟨⟨p, hp, h1⟩, h2, h3, h4⟩ := h
  exact ⟨⟨p, hp, (hb.block b hlt).trans h1⟩, h2.kept (grown_none hb) (Classical.em _), h3, h4⟩
theorem Bat.new {T : Nat} (w : World) : Bat T w.heap.size (.slice none 0 0) [] (w.alloc (.cells #[.pointer none, .slice none 0 0] T)) :=
  ⟨⟨_, .inl rfl, heap_alloc_new w _⟩, World.ownsRow_nil _ _ _ _, by simp [Value.ownBlock], fun _ => rfl⟩

set_option maxHeartbeats 1000000 in
set_option maxRecDepth 100000 in
theorem check_used (b : Nat) (w : World) (h0 : w.cell? ⟨b, 0, none⟩ = some (.pointer (some ⟨b, 0, none⟩))) :
    Calls Tryz.prog 136 #[.pointer (some ⟨b, 0, none⟩)] w fun e w' => e = .returned (.tuple #[]) ∧ w' = w := by
  obtain ⟨j, hj, _⟩ := Option.map_eq_some_iff.1 (show (Tryz.prog.info? 68).map (fun i => i.size) = some 2 from by kernel_rfl)
  go_enter Tryz.func136, Tryz.ntmps136
  go_wp2
  rw [Lib.run_neq_ptr_same w _ Tryz.underlying65 hj]
  go_wp2
  go_end0
  exact ⟨rfl, rfl⟩
set_option maxHeartbeats 1000000 in
set_option maxRecDepth 100000 in
theorem check_fresh (T b : Nat) (hT : Heads T) (w : World) (h0 : w.cell? ⟨b, 0, none⟩ = some (.pointer none)) (hsh : w.shape? b = some (T, 2)) (hfz : w.frozen? ⟨b, 0, none⟩ = false) :
    Calls Tryz.prog 136 #[.pointer (some ⟨b, 0, none⟩)] w fun e w' => e = .returned (.tuple #[]) ∧ w' = w.setCell ⟨b, 0, none⟩ (.pointer (some ⟨b, 0, none⟩)) := by
  obtain ⟨j, hj, hjs⟩ := Option.map_eq_some_iff.1 (show (Tryz.prog.info? 68).map (fun i => i.size) = some 2 from by kernel_rfl)
  have hlies := Lib.hid hT
  replace hjs := Lib.hid hjs
  go_enter Tryz.func136, Tryz.ntmps136
  go_wp2
  rw [Lib.run_to_unsafe w ⟨b, 0, none⟩ Tryz.underlying65 Tryz.underlying212 hj (by rw [hjs.out]; decide) hsh (Nat.zero_lt_succ 1)]
  simp only [Result.andThen]
  rw [Oper.upon_value]
  go_wp2
  rw [run_callFunc_extern Tryz.func154 (by kernel_rfl) (by kernel_rfl) (by kernel_rfl) (e := Extern.AbiNoEscape.same) (by kernel_rfl)]
  rw [Lib.run_noEscape]
  simp only [Result.andThen]
  rw [Oper.upon_value]
  go_wp2
  rw [Lib.run_from_unsafe w ⟨b, 0, none⟩ Tryz.underlying212 Tryz.underlying65 hj hsh hlies.out]
  simp only [Result.andThen]
  rw [Oper.upon_value]
  go_wp2
  go_end0
  exact ⟨rfl, rfl⟩
/-- Behind it the builder holds its own address. -/
def Checked (T b : Nat) (v : Value) (l : List Value) (w w' : World) : Prop := w'.heap[b]? = some (.cells #[.pointer (some ⟨b, 0, none⟩), v] T (0, 0)) ∧ w'.ownsRow 0 5 1 v l.length l ∧ w.grownBy w' (some b) ∧ w'.heap.size = w.heap.size
theorem check_any (T b : Nat) (hT : Heads T) (v : Value) (l : List Value) (w : World) (h : Bat T b v l w) :
    Calls Tryz.prog 136 #[.pointer (some ⟨b, 0, none⟩)] w fun e w' => e = .returned (.tuple #[]) ∧ Checked T b v l w w' := by
  obtain ⟨⟨p, hp, h1⟩, h2, h3, _⟩ := h
  rcases hp with rfl | rfl
  · refine (check_fresh T b hT w (by simp [World.cell?, h1]) (by simp [World.shape?, h1]) (by simp [World.frozen?, h1])).mono ?_
    rintro e w' ⟨rfl, rfl⟩
    have hg := cell_grown w b 0 (.pointer (some ⟨b, 0, none⟩))
    exact ⟨rfl, blk_set h1 0 _, h2.kept hg (.inr h3), hg, by simp⟩
  · refine (check_used b w (by simp [World.cell?, h1])).mono ?_
    rintro e w' ⟨rfl, rfl⟩
    exact ⟨rfl, h1, h2, ⟨rfl, rfl, rfl, Nat.le_refl _, fun _ _ _ => rfl⟩, rfl⟩
theorem infoByte : (Tryz.prog.info? 5).map (fun i => (i.zero, i.size, i.bytes)) = some (some (.int .u8 0), 1, 1) := by kernel_rfl
/-- Behind a writer. -/
def Wrote (T b : Nat) (v : Value) (l : List Value) (w w' : World) : Prop := ∃ v', Bat T b v' l w' ∧ Turn w w' b v v'
theorem wrote_of {T b g c : Nat} {v : Value} {l x : List Value} {w w1 w2 w3 : World} {ao : Option Addr} (hc : Checked T b v l w w1) (hne : v.ownBlock ≠ some b) (hlt : b < w.heap.size) (hg : w1.grownBy w2 v.ownBlock) (ho : w2.ownsRow 0 5 1 (.slice ao g c) (l ++ x).length (l ++ x))
    (hl : (Value.slice ao g c).ownBlock = v.ownBlock ∨ ∃ q, (Value.slice ao g c).ownBlock = some q ∧ w1.heap.size ≤ q) (hnil : l ++ x = [] → Value.slice ao g c = .slice none 0 0) (hw : w3 = w2.setCell ⟨b, 1, none⟩ (.slice ao g c)) : Wrote T b v (l ++ x) w w3 := by
  obtain ⟨h1, _, h3, h4⟩ := hc
  have hz := hg.size
  have hb2 : w2.heap[b]? = some (.cells #[.pointer (some ⟨b, 0, none⟩), v] T (0, 0)) := (hg.block b (by omega) (fun e => hne e.symm)).trans h1
  have hneb : (Value.slice ao g c).ownBlock ≠ some b := by
    rcases hl with e | ⟨q, e, hq⟩
    · rw [e]; exact hne
    · rw [e]; intro e2; injection e2 with e2; omega
  have hs := cell_grown w2 b 1 (.slice ao g c)
  rw [← hw] at hs
  refine ⟨.slice ao g c, ⟨⟨_, .inr rfl, by rw [hw]; exact blk_set hb2 1 _⟩, ho.kept hs (.inr hneb), hneb, hnil⟩, ?_⟩
  refine ⟨hs.os.trans (hg.os.trans h3.os), hs.tape.trans (hg.tape.trans h3.tape), hs.output.trans (hg.output.trans h3.output), by have := hs.size; omega, fun j hj hjb hjv => ?_, ?_⟩
  · exact (hs.block j (by omega) (fun e => by injection e with e; exact hjb e)).trans ((hg.block j (by omega) hjv).trans (h3.block j hj (fun e => by injection e with e; exact hjb e)))
  · rcases hl with e | ⟨q, e, hq⟩
    · exact .inl e
    · exact .inr ⟨q, e, by omega⟩
/-- Where the slice lies that a string was appended to: the library's law has no word of it. -/
theorem run_string_at (P : Program) (w : World) (base : Nat) (t u ty e : TypeId) (i : TypeInfo) (ht : P.underlying t = some (.slice e)) (hu : P.underlying u = some .string) (hi : P.info? e = some i) (hz : i.zero = some (.int .u8 0)) (hsize : i.size = 1) (hby : i.bytes = 1)
    (v : Value) (n : Nat) (xs : List Value) (hown : w.ownsRow base e 1 v n xs) (s : ByteArray) (hb : n + s.size ≤ 1073741824) (hbase : base ≤ w.heap.size) :
    ∃ v' w', (Builtin.append_ #[t, u] ty #[v, .string s]).run P w = .ok v' w' ∧ w'.ownsRow base e 1 v' (n + s.size) (xs ++ Lib.strCells s) ∧ w.grownBy w' v.ownBlock ∧ (v'.ownBlock = v.ownBlock ∨ v'.ownBlock = some w.heap.size) ∧ (v' = .slice none 0 0 ↔ v = .slice none 0 0 ∧ s.size = 0) := by
  obtain ⟨v', w', hr, h2, h3, h4⟩ := Lib.run_append_own_string (P := P) w base t u ty e i ht hu hi hz hsize hby v n xs hown s (by unfold maxLen; omega) (by omega) hbase
  refine ⟨v', w', hr, h2, h3, ?_, h4⟩
  rcases hown.2 with ⟨rfl, rfl⟩ | ⟨g, cap, cur, rfl, _, hg, hnc, _, hcs, _⟩
  · by_cases hm : s.size = 0
    · left; rw [h4.2 ⟨rfl, hm⟩]
    · right
      rw [run_append_nil_string (P := P) w t u ty e i (.int .u8 0) ht hu hi hz s (by omega) (by omega) (by rw [hby]; omega)] at hr
      injection hr with hr _
      rw [← hr]; rfl
  · by_cases hroom : n + s.size ≤ cap
    · left
      rw [Lib.run_append_room_string (P := P) w t u ty e i ht hu hi hsize g n cap cur hg s hroom (by omega)] at hr
      injection hr with hr _
      rw [← hr]; rfl
    · right
      have hxl : xs.length = n := by simpa using hown.1
      have holds : ∀ j u, xs[j]? = some u → w.cell? ((⟨g, 0, none⟩ : Addr).add j) = some u := hown.cells (g := g) rfl
      rw [Lib.run_append_grow_string (P := P) w t u ty e i (.int .u8 0) ht hu hi hz ⟨g, 0, none⟩ n cap xs (by rw [hsize]; omega) holds s (by omega) (by omega) (by rw [hby]; exact growslice_fits (by omega) (by omega))] at hr
      injection hr with hr _
      rw [← hr]; rfl
theorem wpList_string_at {P : Program} (w : World) {ops : Array Oper} {rest : List Oper} {o : Oper} {a : Act} {Q : Exit → Act → World → Prop} (hgd : o.guard = none) (sl x : Operand) (t u : TypeId)
    (ho : o.op = .call { callee := .builtin .append, args := #[sl, x], argTypes := #[t, u] })
    (base : Nat) (e : TypeId) (i : TypeInfo) (ht : P.underlying t = some (.slice e)) (hu : P.underlying u = some .string) (hi : P.info? e = some i) (hz : i.zero = some (.int .u8 0)) (hsize : i.size = 1) (hby : i.bytes = 1)
    (v : Value) (n : Nat) (xs : List Value) (hs : a.eval sl = v) (hown : w.ownsRow base e 1 v n xs) (s : ByteArray) (hx : a.eval x = .string s) (hb : n + s.size ≤ 1073741824) (hbase : base ≤ w.heap.size)
    (h : ∀ v' w', w'.ownsRow base e 1 v' (n + s.size) (xs ++ Lib.strCells s) → w.grownBy w' v.ownBlock → (v'.ownBlock = v.ownBlock ∨ v'.ownBlock = some w.heap.size) → (v' = .slice none 0 0 ↔ v = .slice none 0 0 ∧ s.size = 0) → wpList P ops Q rest (a.put o.dst v') w') : wpList P ops Q (o :: rest) a w := by
  refine wpList_plain hgd fun K hK => ?_
  obtain ⟨v', w', hr, h2, h3, h4, h5⟩ := run_string_at P w base t u o.type e i ht hu hi hz hsize hby v n xs hown s hb hbase
  unfold Oper.wp execOp
  simp only [ho, resolve, invoke, builtin, Sem.run_bind, Sem.run_pure, Result.andThen_ok, List.map_toArray, List.map_cons, List.map_nil, hs, hx, hr]
  exact hK _ _ (h v' w' h2 h3 h4 h5)
set_option maxHeartbeats 2000000 in
set_option maxRecDepth 100000 in
theorem byte_any (T b : Nat) (hT : Heads T) (v : Value) (l : List Value) (c : Int) (w : World) (h : Bat T b v l w) (hlen : l.length + 1 ≤ 1073741824) :
    Calls Tryz.prog 85 #[.pointer (some ⟨b, 0, none⟩), .int .u8 c] w fun e w' => e = .returned .nilIface ∧ Wrote T b v (l ++ [.int .u8 c]) w w' := by
  obtain ⟨i0, hi, hz0, hz1, hz2⟩ := info_parts infoByte
  have cC := check_any T b hT v l w h
  have hlt := h.lt
  have hne := h.2.2.1
  have hnil := h.2.2.2
  replace cC := Lib.hid cC
  replace hT := Lib.hid hT
  replace h := Lib.hid h
  replace hnil := Lib.hid hnil
  go_enter Tryz.func85, Tryz.ntmps85
  go_wp2_with (go_at_call 136; refine cC.out.mono ?_)
  first | rintro e w1 rfl hc | rintro e w1 ⟨rfl, hc⟩
  have hbk := hc.1
  have hown := hc.2.1
  have hz := Lib.hid hc.2.2.2
  have c1 : w1.cell? ⟨b, 1, none⟩ = some v := by rw [Lib.cell_of_heap hbk]; rfl
  replace hbk := Lib.hid hbk
  replace hc := Lib.hid hc
  replace hown := Lib.hid hown
  go_wp2_with (at_builtin; refine wpList_append_own_at _ rfl _ _ 66 rfl 0 5 i0 (.int .u8 0) 1 1 Tryz.underlying66 hi hz0 hz1 hz2 rfl (by decide) _ _ _ rfl (hown.out.alloc _) ⟨w1.heap.size, 0, none⟩ 1 1 [.int .u8 c] rfl rfl (World.news_of_block (cs := #[.int .u8 c]) (t := 5) (fr := (0, 0)) (heap_alloc_new w1 _)) (by simp [Value.oneCell']) (by unfold maxLen; omega) (by omega) (Nat.zero_le _) ?_)
  intro v' w2 hown' hgrow _ hloc
  have hz := hz.out
  have hz2 := hgrow.size
  have hza : (w1.alloc (.cells #[.int .u8 c] 5)).heap.size = w1.heap.size + 1 := by simp
  have hal : w1.grownBy (w1.alloc (.cells #[.int .u8 c] 5)) v.ownBlock := World.grownBy_alloc _ _ _
  have hg2 := grown_again hal hgrow
  have hb2 : w2.heap[b]? = some (.cells #[.pointer (some ⟨b, 0, none⟩), v] T (0, 0)) := (hg2.block b (by omega) (fun e => hne e.symm)).trans hbk.out
  have d1 : w2.cell? ⟨b, 1, none⟩ = some v := by rw [Lib.cell_of_heap hb2]; rfl
  have f1 : w2.frozen? ⟨b, 1, none⟩ = false := Lib.frozen_of_heap hb2 1
  obtain ⟨ao, cap, rfl⟩ := shape_of hown'
  have hfin : ∀ w3, w3 = w2.setCell ⟨b, 1, none⟩ (.slice ao (l.length + 1) cap) → Wrote T b v (l ++ [.int .u8 c]) w w3 := fun w3 e =>
    wrote_of hc.out hne hlt hg2 (by simpa using hown') (hloc.imp id (fun e => ⟨_, e, by omega⟩)) (fun e => by simp at e) e
  replace hfin := Lib.hid hfin
  replace hb2 := Lib.hid hb2
  clear hown' hgrow hloc hal hg2
  go_wp2_with fail
  go_ret
  exact ⟨rfl, hfin.out _ rfl⟩
set_option maxHeartbeats 2000000 in
set_option maxRecDepth 100000 in
theorem str_any (T b : Nat) (hT : Heads T) (v : Value) (l : List Value) (s : ByteArray) (w : World) (h : Bat T b v l w) (hlen : l.length + s.size ≤ 1073741824) :
    Calls Tryz.prog 86 #[.pointer (some ⟨b, 0, none⟩), .string s] w fun e w' => e = .returned (.tuple #[.int .i64 s.size, .nilIface]) ∧ Wrote T b v (l ++ Lib.strCells s) w w' := by
  obtain ⟨i0, hi, hz0, hz1, hz2⟩ := info_parts infoByte
  have cC := check_any T b hT v l w h
  have hlt := h.lt
  have hne := h.2.2.1
  have hnil := h.2.2.2
  replace cC := Lib.hid cC
  replace hT := Lib.hid hT
  replace h := Lib.hid h
  replace hnil := Lib.hid hnil
  go_enter Tryz.func86, Tryz.ntmps86
  go_wp2_with (go_at_call 136; refine cC.out.mono ?_)
  first | rintro e w1 rfl hc | rintro e w1 ⟨rfl, hc⟩
  have hbk := hc.1
  have hown := hc.2.1
  have hz := Lib.hid hc.2.2.2
  have c1 : w1.cell? ⟨b, 1, none⟩ = some v := by rw [Lib.cell_of_heap hbk]; rfl
  replace hbk := Lib.hid hbk
  replace hc := Lib.hid hc
  replace hown := Lib.hid hown
  go_wp2_with (at_builtin; refine wpList_string_at _ rfl _ _ 66 9 rfl 0 5 i0 Tryz.underlying66 Tryz.underlying9 hi hz0 hz1 hz2 _ _ _ rfl hown.out s rfl hlen (Nat.zero_le _) ?_)
  intro v' w2 hown' hgrow hloc hiff
  have hz := hz.out
  have hn' : l ++ Lib.strCells s = [] → v' = .slice none 0 0 := fun e => by
    obtain ⟨e1, e2⟩ := List.append_eq_nil_iff.1 e
    exact hiff.2 ⟨hnil.out e1, by have := Lib.strCells_length s; rw [e2] at this; simpa using this.symm⟩
  clear hiff
  have hz2 := hgrow.size
  have hb2 : w2.heap[b]? = some (.cells #[.pointer (some ⟨b, 0, none⟩), v] T (0, 0)) := (hgrow.block b (by omega) (fun e => hne e.symm)).trans hbk.out
  have d1 : w2.cell? ⟨b, 1, none⟩ = some v := by rw [Lib.cell_of_heap hb2]; rfl
  have f1 : w2.frozen? ⟨b, 1, none⟩ = false := Lib.frozen_of_heap hb2 1
  obtain ⟨ao, cap, rfl⟩ := shape_of hown'
  have hfin : ∀ w3, w3 = w2.setCell ⟨b, 1, none⟩ (.slice ao (l.length + s.size) cap) → Wrote T b v (l ++ Lib.strCells s) w w3 := fun w3 e =>
    wrote_of hc.out hne hlt hgrow (by simpa [Lib.strCells_length] using hown') (hloc.imp id (fun e => ⟨_, e, by omega⟩)) hn' e
  replace hfin := Lib.hid hfin
  replace hb2 := Lib.hid hb2
  clear hown' hgrow hloc
  go_wp2_with fail
  go_ret2
  exact ⟨rfl, hfin.out _ rfl⟩
/-- unsafe.String of no bytes at all: the empty string. -/
theorem ustr_none (w : World) : (Builtin.unsafeString_ #[87, 3] 9 #[.pointer none, .int .i64 0]).run Tryz.prog w = .ok (.string ⟨#[]⟩) w := Lib.run_unsafeString_none w _ _ _ none
theorem cells_byte : Tryz.prog.cellsOf 5 = 1 := by kernel_rfl
set_option maxHeartbeats 2000000 in
set_option maxRecDepth 100000 in
theorem text_any (T b B : Nat) (v : Value) (l : List UInt8) (w : World) (h : Bat T b v (Lib.byteCells l) w) (hB : ∀ k, v.ownBlock = some k → B ≤ k) :
    Calls Tryz.prog 22 #[.pointer (some ⟨b, 0, none⟩)] w fun e w' => e = .returned (.string ⟨l.toArray⟩) ∧ Below B w w' := by
  have hlt := h.lt
  obtain ⟨⟨p, hp, hbk⟩, hown, hne, hnil⟩ := h
  rw [Lib.byteCells_length] at hown
  by_cases h0 : l = []
  · subst h0
    obtain rfl := hnil rfl
    have c1 : w.drew.cell? ⟨b, 1, none⟩ = some (.slice none 0 0) := by
      have : w.drew.heap[b]? = some (.cells #[p, .slice none 0 0] T (0, 0)) := hbk
      rw [Lib.cell_of_heap this]; rfl
    have hSD : (Builtin.unsafeSliceData_ #[66] 87 #[.slice none 0 0]).run Tryz.prog w.drew = .ok (.pointer none) w.drew := rfl
    have hUS := ustr_none w.drew
    replace hB := Lib.hid hB
    go_enter Tryz.func22, Tryz.ntmps22
    go_wp2
    go_region
    all_goals (go_wp2; go_ret; exact ⟨rfl, Below.drew (Below.refl B w)⟩)
  · have hl0 : l.length ≠ 0 := by simpa using h0
    obtain ⟨g, cap, cur, rfl, hbg, hg, hnc, hcm, hcs, htake⟩ : ∃ g cap cur, v = .slice (some ⟨g, 0, none⟩) l.length cap ∧ 0 ≤ g ∧ w.heap[g]? = some (.cells cur 5 (0, 0)) ∧ l.length ≤ cap ∧ cap ≤ maxLen ∧ cur.size = cap * 1 ∧ cur.toList.take (l.length * 1) = Lib.byteCells l := by
      rcases hown.2 with ⟨_, hz⟩ | ⟨g, cap, cur, hv, r⟩
      · exact absurd hz hl0
      · exact ⟨g, cap, cur, hv, r⟩
    have hBg : B ≤ g := hB g rfl
    have c1 : w.drew.cell? ⟨b, 1, none⟩ = some (.slice (some ⟨g, 0, none⟩) l.length cap) := by
      have : w.drew.heap[b]? = some (.cells #[p, .slice (some ⟨g, 0, none⟩) l.length cap] T (0, 0)) := hbk
      rw [Lib.cell_of_heap this]; rfl
    have hSD : (Builtin.unsafeSliceData_ #[66] 87 #[.slice (some ⟨g, 0, none⟩) l.length cap]).run Tryz.prog w.drew = .ok (.pointer (some ⟨g, 0, none⟩)) w.drew :=
      Lib.run_unsafeSliceData_row _ _ _ _ _ _ (by omega)
    have hUS : (Builtin.unsafeString_ #[87, 3] 9 #[.pointer (some ⟨g, 0, none⟩), .int .i64 l.length]).run Tryz.prog w.drew = .ok (.string ⟨l.toArray⟩) (w.drew.freeze ⟨g, 0, none⟩ l.length) := by
      refine Lib.run_unsafeString_row w.drew 87 3 9 5 Tryz.underlying87 cells_byte g cur.size (by have hg' : w.drew.heap[g]? = some (.cells cur 5 (0, 0)) := hg; simp [World.shape?, hg']) l h0 (by omega) (by unfold maxLen at hcm; omega) ?_
      intro j x hx
      have := hown.cells (g := g) rfl j (.int .u8 x.toNat) (by simp [Lib.byteCells, hx])
      exact this
    replace hB := Lib.hid hB
    replace hown := Lib.hid hown
    clear htake hnil
    go_enter Tryz.func22, Tryz.ntmps22
    go_wp2
    go_region
    all_goals (go_wp2; go_ret; exact ⟨rfl, Lib.below_freeze (Below.drew (Below.refl B w)) (p := ⟨g, 0, none⟩) hBg _⟩)
end Go.Proofs.YtehcbicngbibgaaGreatDoor
