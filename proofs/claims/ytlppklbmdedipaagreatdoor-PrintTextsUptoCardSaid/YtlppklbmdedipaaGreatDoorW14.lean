/- PrintTexts, part 14. -/
import Derived.Test.YtlppklbmdedipaaGreatDoorW02
import Derived.Test.YtlppklbmdedipaaGreatDoorW13
import Derived.Test.YtlppklbmdedipaaGreatDoorW12
import Derived.Lib.ItoaLen
import Derived.Test.YtlppklbmdedipaaGreatDoorW10
import Derived.Lib.Builder
import Derived.Lib.AppendStr
import Derived.Lib.UnsafeStr
import Derived.Laws.Externs
import Derived.Test.YtlppklbmdedipaaGreatDoorShelf
import Derived.WalkSmall
import Derived.Lib.AppendIntMem
import Derived.Lib.LaidTab
namespace Go.Proofs.YtlppklbmdedipaaGreatDoor.Vl
open Go Go.RowKit
set_option maxHeartbeats 8000000
set_option maxRecDepth 100000
def nameB (s : ByteArray) : Bool := decide (0 < s.size) && decide (s.size ≤ 4096)
theorem size_zero {s : ByteArray} (h : ¬ 0 < s.size) : s = ⟨#[]⟩ := by
 have : s.size = 0 := by omega
 cases s; simp [ByteArray.size] at this; simp [this]
theorem ne_empty {s : ByteArray} (h : 0 < s.size) : ¬ s.toList = [] := by
 rw [ByteArray.toList_eq]
 intro e
 rw [size_list, e] at h
 exact absurd h (by decide)
theorem valName_any (s : ByteArray) (w : World) (hs : s.size ≤ 140737488355328) :
  Calls Tryz.prog 145 #[.string s] w fun e w' => e = .returned (.bool (nameB s)) ∧ w' = w := by
 unfold nameB
 go_enter Tryz.func145, Tryz.ntmps145
 by_cases h0 : 0 < s.size
 ·have he := ne_empty h0
  by_cases h1 : s.size ≤ 4096
  ·go_wp2
   go_ret
   simp [h0, h1, he] <;> omega
  ·go_wp2
   go_ret
   simp [h0, h1, he] <;> omega
 ·obtain rfl := size_zero h0
  go_wp2
  go_ret
  exact ⟨rfl, rfl⟩
theorem not_isEmpty {s : ByteArray} (h : 0 < s.size) : s.toList.isEmpty = false := by
 have := ne_empty h
 cases e : s.toList with
 | nil => exact absurd e this
 | cons => rfl
def less (x y : ByteArray) : Bool := Op.bytesLess x.toList y.toList
def restB (ln fn : Nat) (el : Int) (key : ByteArray) (hk : Bool) : Bool := decide (ln = 0) && decide (fn = 0) && decide (el = 0) && decide (key.size = 0) && !hk
def plainP (κ n : Int) (s : ByteArray) (ln fn : Nat) (el : Int) (key : ByteArray) (hk : Bool) : Bool := restB ln fn el key hk && (if κ = 1 then decide (s.size = 0) else if κ = 2 then decide (s.size = 0) && (decide (n = 0) || decide (n = 1)) else decide (n = 0) && decide (s.size ≤ 4096))
theorem plain_empty {κ n : Int} {s : ByteArray} {ln fn : Nat} {el : Int} {key : ByteArray} {hk : Bool} (h : plainP κ n s ln fn el key hk = true) : ln = 0 ∧ fn = 0 := by
 unfold plainP restB at h
 simp only [Bool.and_eq_true, decide_eq_true_eq] at h
 exact ⟨h.1.1.1.1.1, h.1.1.1.1.2⟩
def vP (κ n : Int) (s : ByteArray) : List UInt8 := if κ = 1 then Lib.itoa n else if κ = 2 then (if n = 1 then [121, 101, 115] else [110, 111]) else quoteL s.data.toList

structure Turn (w w' : World) (b : Nat) (v v' : Value) : Prop where
 os : w'.os = w.os
 tape : w'.tape = w.tape
 output : w'.output = w.output
 size : w.heap.size ≤ w'.heap.size
 block : ∀ j, j < w.heap.size → j ≠ b → some j ≠ v.ownBlock → w'.heap[j]? = w.heap[j]?
 loc : v'.ownBlock = v.ownBlock ∨ ∃ g, v'.ownBlock = some g ∧ w.heap.size ≤ g
theorem Turn.trans {w w1 w2 : World} {b : Nat} {v o1 o2 : Value} (h : Turn w w1 b v o1) (k : Turn w1 w2 b o1 o2) : Turn w w2 b v o2 := by
 refine ⟨k.os.trans h.os, k.tape.trans h.tape, k.output.trans h.output, Nat.le_trans h.size k.size, fun j hj hb ho => ?_, ?_⟩
 ·refine (k.block j (Nat.lt_of_lt_of_le hj h.size) hb ?_).trans (h.block j hj hb ho)
  rcases h.loc with e | ⟨g, e, hg⟩
  ·rw [e]; exact ho
  ·rw [e]; intro e2; injection e2 with e2; omega
 ·rcases k.loc with e | ⟨g, e, hg⟩
  ·rcases h.loc with e2 | ⟨g2, e2, hg2⟩
   ·exact .inl (e.trans e2)
   ·exact .inr ⟨g2, e.trans e2, hg2⟩
  ·exact .inr ⟨g, e, Nat.le_trans h.size hg⟩
theorem Turn.below {w w1 : World} {b : Nat} {v : Value} (h : Below w.heap.size w w1) : Turn w w1 b v v := ⟨h.os, h.tape, h.output, h.size, fun j hj _ _ => h.block j hj, .inl rfl⟩
theorem Turn.low {w w' : World} {b : Nat} {v v' : Value} {B : Nat} (h : Turn w w' b v v') (h1 : B ≤ b) (h2 : ∀ k, v.ownBlock = some k → B ≤ k) (h3 : B ≤ w.heap.size) : Below B w w' :=
 ⟨h.os, h.tape, h.output, h.size, fun j hj => h.block j (by omega) (by omega) (fun e => by have := h2 j e.symm; omega)⟩
theorem Turn.high {w w' : World} {b : Nat} {v v' : Value} {B : Nat} (h : Turn w w' b v v') (h2 : ∀ k, v.ownBlock = some k → B ≤ k) (h3 : B ≤ w.heap.size) : ∀ k, v'.ownBlock = some k → B ≤ k := fun k hk => by
 rcases h.loc with e | ⟨g, e, hg⟩
 ·exact h2 k (e.symm.trans hk)
 ·have : some g = some k := e.symm.trans hk
  injection this with this; omega

def Bat (T b : Nat) (v : Value) (l : List Value) (w : World) : Prop :=
 (∃ p, (p = .pointer none ∨ p = .pointer (some ⟨b, 0, none⟩)) ∧ w.heap[b]? = some (.cells #[p, v] T (0, 0))) ∧ w.ownsRow 0 5 1 v l.length l ∧ v.ownBlock ≠ some b ∧ (l = [] → v = .slice none 0 0)
def Heads (T : Nat) : Prop := liesAt Tryz.prog Tryz.prog.depth T (2 / Tryz.prog.cellsOf T) 0 39 1 = true
theorem heads_teller : Heads 134 := by show _ = true; kernel_rfl
theorem Bat.lt {T b : Nat} {v : Value} {l : List Value} {w : World} (h : Bat T b v l w) : b < w.heap.size := by
 obtain ⟨⟨p, _, h⟩, _⟩ := h
 exact (Array.getElem?_eq_some_iff.1 h).1
theorem Bat.later {T b : Nat} {v : Value} {l : List Value} {w w' : World} (h : Bat T b v l w) (hb : Below w.heap.size w w') : Bat T b v l w' := by
 have hlt := h.lt
 obtain ⟨⟨p, hp, h1⟩, h2, h3, h4⟩ := h
 exact ⟨⟨p, hp, (hb.block b hlt).trans h1⟩, h2.kept (grown_none hb) (Classical.em _), h3, h4⟩
theorem Bat.new {T : Nat} (w : World) : Bat T w.heap.size (.slice none 0 0) [] (w.alloc (.cells #[.pointer none, .slice none 0 0] T)) :=
 ⟨⟨_, .inl rfl, heap_alloc_new w _⟩, World.ownsRow_nil _ _ _ _, by simp [Value.ownBlock], fun _ => rfl⟩

theorem check_used (b : Nat) (w : World) (h0 : w.cell? ⟨b, 0, none⟩ = some (.pointer (some ⟨b, 0, none⟩))) :
  Calls Tryz.prog 62 #[.pointer (some ⟨b, 0, none⟩)] w fun e w' => e = .returned (.tuple #[]) ∧ w' = w := by
 obtain ⟨j, hj, _⟩ := Option.map_eq_some_iff.1 (show (Tryz.prog.info? 39).map (fun i => i.size) = some 2 from by kernel_rfl)
 go_enter Tryz.func62, Tryz.ntmps62
 go_wp2
 rw [Lib.run_neq_ptr_same w _ Tryz.underlying36 hj]
 go_wp2
 go_end0
 exact ⟨rfl, rfl⟩
theorem check_fresh (T b : Nat) (hT : Heads T) (w : World) (h0 : w.cell? ⟨b, 0, none⟩ = some (.pointer none)) (hsh : w.shape? b = some (T, 2)) (hfz : w.frozen? ⟨b, 0, none⟩ = false) :
  Calls Tryz.prog 62 #[.pointer (some ⟨b, 0, none⟩)] w fun e w' => e = .returned (.tuple #[]) ∧ w' = w.setCell ⟨b, 0, none⟩ (.pointer (some ⟨b, 0, none⟩)) := by
 obtain ⟨j, hj, hjs⟩ := Option.map_eq_some_iff.1 (show (Tryz.prog.info? 39).map (fun i => i.size) = some 2 from by kernel_rfl)
 have hlies := hi_ hT
 replace hjs := hi_ hjs
 go_enter Tryz.func62, Tryz.ntmps62
 go_wp2
 rw [Lib.run_to_unsafe w ⟨b, 0, none⟩ Tryz.underlying36 Tryz.underlying137 hj (by rw [hjs.out]; decide) hsh (Nat.zero_lt_succ 1)]
 simp only [Result.andThen]
 rw [Oper.upon_value]
 go_wp2
 rw [run_callFunc_extern Tryz.func94 (by kernel_rfl) (by kernel_rfl) (by kernel_rfl) (e := Extern.AbiNoEscape.same) (by kernel_rfl)]
 rw [Lib.run_noEscape]
 simp only [Result.andThen]
 rw [Oper.upon_value]
 go_wp2
 rw [Lib.run_from_unsafe w ⟨b, 0, none⟩ Tryz.underlying137 Tryz.underlying36 hj hsh hlies.out]
 simp only [Result.andThen]
 rw [Oper.upon_value]
 go_wp2
 go_end0
 exact ⟨rfl, rfl⟩
def Checked (T b : Nat) (v : Value) (l : List Value) (w w' : World) : Prop := w'.heap[b]? = some (.cells #[.pointer (some ⟨b, 0, none⟩), v] T (0, 0)) ∧ w'.ownsRow 0 5 1 v l.length l ∧ w.grownBy w' (some b) ∧ w'.heap.size = w.heap.size
theorem check_any (T b : Nat) (hT : Heads T) (v : Value) (l : List Value) (w : World) (h : Bat T b v l w) :
  Calls Tryz.prog 62 #[.pointer (some ⟨b, 0, none⟩)] w fun e w' => e = .returned (.tuple #[]) ∧ Checked T b v l w w' := by
 obtain ⟨⟨p, hp, h1⟩, h2, h3, _⟩ := h
 rcases hp with rfl | rfl
 ·refine (check_fresh T b hT w (by simp [World.cell?, h1]) (by simp [World.shape?, h1]) (by simp [World.frozen?, h1])).mono ?_
  rintro e w' ⟨rfl, rfl⟩
  have hg := cell_grown w b 0 (.pointer (some ⟨b, 0, none⟩))
  exact ⟨rfl, blk_set h1 0 _, h2.kept hg (.inr h3), hg, by simp⟩
 ·refine (check_used b w (by simp [World.cell?, h1])).mono ?_
  rintro e w' ⟨rfl, rfl⟩
  exact ⟨rfl, h1, h2, ⟨rfl, rfl, rfl, Nat.le_refl _, fun _ _ _ => rfl⟩, rfl⟩
theorem infoByte : (Tryz.prog.info? 5).map (fun i => (i.zero, i.size, i.bytes)) = some (some (.int .u8 0), 1, 1) := by kernel_rfl
def Wrote (T b : Nat) (v : Value) (l : List Value) (w w' : World) : Prop := ∃ v', Bat T b v' l w' ∧ Turn w w' b v v'
theorem wrote_of {T b g c : Nat} {v : Value} {l x : List Value} {w w1 w2 w3 : World} {ao : Option Addr} (hc : Checked T b v l w w1) (hne : v.ownBlock ≠ some b) (hlt : b < w.heap.size) (hg : w1.grownBy w2 v.ownBlock) (ho : w2.ownsRow 0 5 1 (.slice ao g c) (l ++ x).length (l ++ x))
  (hl : (Value.slice ao g c).ownBlock = v.ownBlock ∨ ∃ q, (Value.slice ao g c).ownBlock = some q ∧ w1.heap.size ≤ q) (hnil : l ++ x = [] → Value.slice ao g c = .slice none 0 0) (hw : w3 = w2.setCell ⟨b, 1, none⟩ (.slice ao g c)) : Wrote T b v (l ++ x) w w3 := by
 obtain ⟨h1, _, h3, h4⟩ := hc
 have hz := hg.size
 have hb2 : w2.heap[b]? = some (.cells #[.pointer (some ⟨b, 0, none⟩), v] T (0, 0)) := (hg.block b (by omega) (fun e => hne e.symm)).trans h1
 have hneb : (Value.slice ao g c).ownBlock ≠ some b := by
  rcases hl with e | ⟨q, e, hq⟩
  ·rw [e]; exact hne
  ·rw [e]; intro e2; injection e2 with e2; omega
 have hs := cell_grown w2 b 1 (.slice ao g c)
 rw [← hw] at hs
 refine ⟨.slice ao g c, ⟨⟨_, .inr rfl, by rw [hw]; exact blk_set hb2 1 _⟩, ho.kept hs (.inr hneb), hneb, hnil⟩, ?_⟩
 refine ⟨hs.os.trans (hg.os.trans h3.os), hs.tape.trans (hg.tape.trans h3.tape), hs.output.trans (hg.output.trans h3.output), by have := hs.size; omega, fun j hj hjb hjv => ?_, ?_⟩
 ·exact (hs.block j (by omega) (fun e => by injection e with e; exact hjb e)).trans ((hg.block j (by omega) hjv).trans (h3.block j hj (fun e => by injection e with e; exact hjb e)))
 ·rcases hl with e | ⟨q, e, hq⟩
  ·exact .inl e
  ·exact .inr ⟨q, e, by omega⟩
theorem run_string_at (P : Program) (w : World) (base : Nat) (t u ty e : TypeId) (i : TypeInfo) (ht : P.underlying t = some (.slice e)) (hu : P.underlying u = some .string) (hi : P.info? e = some i) (hz : i.zero = some (.int .u8 0)) (hsize : i.size = 1) (hby : i.bytes = 1)
  (v : Value) (n : Nat) (xs : List Value) (hown : w.ownsRow base e 1 v n xs) (s : ByteArray) (hb : n + s.size ≤ 1073741824) (hbase : base ≤ w.heap.size) :
  ∃ v' w', (Builtin.append_ #[t, u] ty #[v, .string s]).run P w = .ok v' w' ∧ w'.ownsRow base e 1 v' (n + s.size) (xs ++ Lib.strCells s) ∧ w.grownBy w' v.ownBlock ∧ (v'.ownBlock = v.ownBlock ∨ v'.ownBlock = some w.heap.size) ∧ (v' = .slice none 0 0 ↔ v = .slice none 0 0 ∧ s.size = 0) := by
 obtain ⟨v', w', hr, h2, h3, h4⟩ := Lib.run_append_own_string (P := P) w base t u ty e i ht hu hi hz hsize hby v n xs hown s (by unfold maxLen; omega) (by omega) hbase
 refine ⟨v', w', hr, h2, h3, ?_, h4⟩
 rcases hown.2 with ⟨rfl, rfl⟩ | ⟨g, cap, cur, rfl, _, hg, hnc, _, hcs, _⟩
 ·by_cases hm : s.size = 0
  ·left; rw [h4.2 ⟨rfl, hm⟩]
  ·right
   rw [run_append_nil_string (P := P) w t u ty e i (.int .u8 0) ht hu hi hz s (by omega) (by omega) (by rw [hby]; omega)] at hr
   injection hr with hr _
   rw [← hr]; rfl
 ·by_cases hroom : n + s.size ≤ cap
  ·left
   rw [Lib.run_append_room_string (P := P) w t u ty e i ht hu hi hsize g n cap cur hg s hroom (by omega)] at hr
   injection hr with hr _
   rw [← hr]; rfl
  ·right
   have hxl : xs.length = n := by simpa using hown.1
   have holds : ∀ j u, xs[j]? = some u → w.cell? ((⟨g, 0, none⟩ : Addr).add j) = some u := hown.cells (g := g) rfl
   rw [Lib.run_append_grow_string (P := P) w t u ty e i (.int .u8 0) ht hu hi hz ⟨g, 0, none⟩ n cap xs (by rw [hsize]; omega) holds s (by omega) (by omega) (by rw [hby]; exact growslice_fits (by omega) (by omega))] at hr
   injection hr with hr _
   rw [← hr]; rfl
theorem wpList_string_at {P : Program} (w : World) {ops : Array Oper} {rest : List Oper} {o : Oper} {a : Act} {Q : Exit → Act → World → Prop} (hgd : o.guard = none) (sl x : Operand) (t u : TypeId)
  (ho : o.op = .call { callee := .builtin .append, args := #[sl, x], argTypes := #[t, u] })
  (base : Nat) (e : TypeId) (i : TypeInfo) (ht : P.underlying t = some (.slice e)) (hu : P.underlying u = some .string) (hi : P.info? e = some i) (hz : i.zero = some (.int .u8 0)) (hsize : i.size = 1) (hby : i.bytes = 1)
  (v : Value) (n : Nat) (xs : List Value) (hs : a.eval sl = v) (hown : w.ownsRow base e 1 v n xs) (s : ByteArray) (hx : a.eval x = .string s) (hb : n + s.size ≤ 1073741824) (hbase : base ≤ w.heap.size)
  (h : ∀ v' w', w'.ownsRow base e 1 v' (n + s.size) (xs ++ Lib.strCells s) → w.grownBy w' v.ownBlock → (v'.ownBlock = v.ownBlock ∨ v'.ownBlock = some w.heap.size) → (v' = .slice none 0 0 ↔ v = .slice none 0 0 ∧ s.size = 0) → wpList P ops Q rest (a.put o.dst v') w') : wpList P ops Q (o :: rest) a w := by
 refine wpList_plain hgd fun K hK => ?_
 obtain ⟨v', w', hr, h2, h3, h4, h5⟩ := run_string_at P w base t u o.type e i ht hu hi hz hsize hby v n xs hown s hb hbase
 unfold Oper.wp execOp
 simp only [ho, resolve, invoke, builtin, Sem.run_bind, Sem.run_pure, Result.andThen_ok, List.map_toArray, List.map_cons, List.map_nil, hs, hx, hr]
 exact hK _ _ (h v' w' h2 h3 h4 h5)
theorem byte_any (T b : Nat) (hT : Heads T) (v : Value) (l : List Value) (c : Int) (w : World) (h : Bat T b v l w) (hlen : l.length + 1 ≤ 1073741824) :
  Calls Tryz.prog 33 #[.pointer (some ⟨b, 0, none⟩), .int .u8 c] w fun e w' => e = .returned .nilIface ∧ Wrote T b v (l ++ [.int .u8 c]) w w' := by
 obtain ⟨i0, hi, hz0, hz1, hz2⟩ := info_parts infoByte
 have cC := check_any T b hT v l w h
 have hlt := h.lt
 have hne := h.2.2.1
 have hnil := h.2.2.2
 replace cC := hi_ cC
 replace hT := hi_ hT
 replace h := hi_ h
 replace hnil := hi_ hnil
 go_enter Tryz.func33, Tryz.ntmps33
 go_wp2_with (go_at_call 62; refine cC.out.mono ?_)
 first | rintro e w1 rfl hc | rintro e w1 ⟨rfl, hc⟩
 have hbk := hc.1
 have hown := hc.2.1
 have hz := hi_ hc.2.2.2
 have c1 : w1.cell? ⟨b, 1, none⟩ = some v := by rw [Lib.cell_of_heap hbk]; rfl
 replace hbk := hi_ hbk
 replace hc := hi_ hc
 replace hown := hi_ hown
 go_wp2_with (at_builtin; refine wpList_append_own_at _ rfl _ _ 37 rfl 0 5 i0 (.int .u8 0) 1 1 Tryz.underlying37 hi hz0 hz1 hz2 rfl (by decide) _ _ _ rfl (hown.out.alloc _) ⟨w1.heap.size, 0, none⟩ 1 1 [.int .u8 c] rfl rfl (World.news_of_block (cs := #[.int .u8 c]) (t := 5) (fr := (0, 0)) (heap_alloc_new w1 _)) (by simp [Value.oneCell']) (by unfold maxLen; omega) (by omega) (Nat.zero_le _) ?_)
 intro v' w2 hown' hgrow _ hloc
 have hz := hz.out
 have hz2 := hgrow.size
 have hza : (w1.alloc (.cells #[.int .u8 c] 5)).heap.size = w1.heap.size + 1 := by simp
 have hal : w1.grownBy (w1.alloc (.cells #[.int .u8 c] 5)) v.ownBlock := World.grownBy_alloc _ _ _
 have hg2 := grown_again hal hgrow
 have hb2 : w2.heap[b]? = some (.cells #[.pointer (some ⟨b, 0, none⟩), v] T (0, 0)) := (hg2.block b (by omega) (fun e => hne e.symm)).trans hbk.out
 have d1 : w2.cell? ⟨b, 1, none⟩ = some v := by rw [Lib.cell_of_heap hb2]; rfl
 have f1 : w2.frozen? ⟨b, 1, none⟩ = false := Lib.frozen_of_heap hb2 1
 obtain ⟨ao, cap, rfl⟩ := slice_of hown'
 have hfin : ∀ w3, w3 = w2.setCell ⟨b, 1, none⟩ (.slice ao (l.length + 1) cap) → Wrote T b v (l ++ [.int .u8 c]) w w3 := fun w3 e =>
  wrote_of hc.out hne hlt hg2 (by simpa using hown') (hloc.imp id (fun e => ⟨_, e, by omega⟩)) (fun e => by simp at e) e
 replace hfin := hi_ hfin
 replace hb2 := hi_ hb2
 clear hown' hgrow hloc hal hg2
 go_wp2_with fail
 go_ret
 exact ⟨rfl, hfin.out _ rfl⟩
theorem str_any (T b : Nat) (hT : Heads T) (v : Value) (l : List Value) (s : ByteArray) (w : World) (h : Bat T b v l w) (hlen : l.length + s.size ≤ 1073741824) :
  Calls Tryz.prog 49 #[.pointer (some ⟨b, 0, none⟩), .string s] w fun e w' => e = .returned (.tuple #[.int .i64 s.size, .nilIface]) ∧ Wrote T b v (l ++ Lib.strCells s) w w' := by
 obtain ⟨i0, hi, hz0, hz1, hz2⟩ := info_parts infoByte
 have cC := check_any T b hT v l w h
 have hlt := h.lt
 have hne := h.2.2.1
 have hnil := h.2.2.2
 replace cC := hi_ cC
 replace hT := hi_ hT
 replace h := hi_ h
 replace hnil := hi_ hnil
 go_enter Tryz.func49, Tryz.ntmps49
 go_wp2_with (go_at_call 62; refine cC.out.mono ?_)
 first | rintro e w1 rfl hc | rintro e w1 ⟨rfl, hc⟩
 have hbk := hc.1
 have hown := hc.2.1
 have hz := hi_ hc.2.2.2
 have c1 : w1.cell? ⟨b, 1, none⟩ = some v := by rw [Lib.cell_of_heap hbk]; rfl
 replace hbk := hi_ hbk
 replace hc := hi_ hc
 replace hown := hi_ hown
 go_wp2_with (at_builtin; refine wpList_string_at _ rfl _ _ 37 9 rfl 0 5 i0 Tryz.underlying37 Tryz.underlying9 hi hz0 hz1 hz2 _ _ _ rfl hown.out s rfl hlen (Nat.zero_le _) ?_)
 intro v' w2 hown' hgrow hloc hiff
 have hz := hz.out
 have hn' : l ++ Lib.strCells s = [] → v' = .slice none 0 0 := fun e => by
  obtain ⟨e1, e2⟩ := List.append_eq_nil_iff.1 e
  exact hiff.2 ⟨hnil.out e1, by have := Lib.strCells_length s; rw [e2] at this; simpa using this.symm⟩
 clear hiff
 have hz2 := hgrow.size
 have hb2 : w2.heap[b]? = some (.cells #[.pointer (some ⟨b, 0, none⟩), v] T (0, 0)) := (hgrow.block b (by omega) (fun e => hne e.symm)).trans hbk.out
 have d1 : w2.cell? ⟨b, 1, none⟩ = some v := by rw [Lib.cell_of_heap hb2]; rfl
 have f1 : w2.frozen? ⟨b, 1, none⟩ = false := Lib.frozen_of_heap hb2 1
 obtain ⟨ao, cap, rfl⟩ := slice_of hown'
 have hfin : ∀ w3, w3 = w2.setCell ⟨b, 1, none⟩ (.slice ao (l.length + s.size) cap) → Wrote T b v (l ++ Lib.strCells s) w w3 := fun w3 e =>
  wrote_of hc.out hne hlt hgrow (by simpa [Lib.strCells_length] using hown') (hloc.imp id (fun e => ⟨_, e, by omega⟩)) hn' e
 replace hfin := hi_ hfin
 replace hb2 := hi_ hb2
 clear hown' hgrow hloc
 go_wp2_with fail
 go_ret2
 exact ⟨rfl, hfin.out _ rfl⟩
theorem ustr_none (w : World) : (Builtin.unsafeString_ #[73, 3] 9 #[.pointer none, .int .i64 0]).run Tryz.prog w = .ok (.string ⟨#[]⟩) w := Lib.run_unsafeString_none w _ _ _ none
theorem cells_byte : Tryz.prog.cellsOf 5 = 1 := by kernel_rfl
theorem text_any (T b B : Nat) (v : Value) (l : List UInt8) (w : World) (h : Bat T b v (Lib.byteCells l) w) (hB : ∀ k, v.ownBlock = some k → B ≤ k) :
  Calls Tryz.prog 15 #[.pointer (some ⟨b, 0, none⟩)] w fun e w' => e = .returned (.string ⟨l.toArray⟩) ∧ Below B w w' := by
 have hlt := h.lt
 obtain ⟨⟨p, hp, hbk⟩, hown, hne, hnil⟩ := h
 rw [Lib.byteCells_length] at hown
 by_cases h0 : l = []
 ·subst h0
  obtain rfl := hnil rfl
  have c1 : w.drew.cell? ⟨b, 1, none⟩ = some (.slice none 0 0) := by
   have : w.drew.heap[b]? = some (.cells #[p, .slice none 0 0] T (0, 0)) := hbk
   rw [Lib.cell_of_heap this]; rfl
  have hSD : (Builtin.unsafeSliceData_ #[37] 73 #[.slice none 0 0]).run Tryz.prog w.drew = .ok (.pointer none) w.drew := rfl
  have hUS := ustr_none w.drew
  replace hB := hi_ hB
  go_enter Tryz.func15, Tryz.ntmps15
  go_wp2
  go_region
  all_goals (go_wp2; go_ret; exact ⟨rfl, Below.drew (Below.refl B w)⟩)
 ·have hl0 : l.length ≠ 0 := by simpa using h0
  obtain ⟨g, cap, cur, rfl, hbg, hg, hnc, hcm, hcs, htake⟩ : ∃ g cap cur, v = .slice (some ⟨g, 0, none⟩) l.length cap ∧ 0 ≤ g ∧ w.heap[g]? = some (.cells cur 5 (0, 0)) ∧ l.length ≤ cap ∧ cap ≤ maxLen ∧ cur.size = cap * 1 ∧ cur.toList.take (l.length * 1) = Lib.byteCells l := by
   rcases hown.2 with ⟨_, hz⟩ | ⟨g, cap, cur, hv, r⟩
   ·exact absurd hz hl0
   ·exact ⟨g, cap, cur, hv, r⟩
  have hBg : B ≤ g := hB g rfl
  have c1 : w.drew.cell? ⟨b, 1, none⟩ = some (.slice (some ⟨g, 0, none⟩) l.length cap) := by
   have : w.drew.heap[b]? = some (.cells #[p, .slice (some ⟨g, 0, none⟩) l.length cap] T (0, 0)) := hbk
   rw [Lib.cell_of_heap this]; rfl
  have hSD : (Builtin.unsafeSliceData_ #[37] 73 #[.slice (some ⟨g, 0, none⟩) l.length cap]).run Tryz.prog w.drew = .ok (.pointer (some ⟨g, 0, none⟩)) w.drew :=
   Lib.run_unsafeSliceData_row _ _ _ _ _ _ (by omega)
  have hUS : (Builtin.unsafeString_ #[73, 3] 9 #[.pointer (some ⟨g, 0, none⟩), .int .i64 l.length]).run Tryz.prog w.drew = .ok (.string ⟨l.toArray⟩) (w.drew.freeze ⟨g, 0, none⟩ l.length) := by
   refine Lib.run_unsafeString_row w.drew 73 3 9 5 Tryz.underlying73 cells_byte g cur.size (by have hg' : w.drew.heap[g]? = some (.cells cur 5 (0, 0)) := hg; simp [World.shape?, hg']) l h0 (by omega) (by unfold maxLen at hcm; omega) ?_
   intro j x hx
   have := hown.cells (g := g) rfl j (.int .u8 x.toNat) (by simp [Lib.byteCells, hx])
   exact this
  replace hB := hi_ hB
  replace hown := hi_ hown
  clear htake hnil
  go_enter Tryz.func15, Tryz.ntmps15
  go_wp2
  go_region
  all_goals (go_wp2; go_ret; exact ⟨rfl, Lib.below_freeze (Below.drew (Below.refl B w)) (p := ⟨g, 0, none⟩) hBg _⟩)
theorem byte_append (a b : List UInt8) : Lib.byteCells (a ++ b) = Lib.byteCells a ++ Lib.byteCells b := by simp [Lib.byteCells]
theorem str_cells (l : List UInt8) : Lib.strCells (bs l) = Lib.byteCells l := by simp [Lib.strCells, Lib.byteCells, bs]
theorem quotedL_any (b : Nat) (v : Value) (l s : List UInt8) (w : World) (h : Bat 134 b v (Lib.byteCells l) w) (hlen : l.length + (2 * s.length + 2) ≤ 1073741824) :
  Calls Tryz.prog 122 #[.pointer (some ⟨b, 0, none⟩), .string (bs s)] w fun e w' => e = .returned (.tuple #[]) ∧ Wrote 134 b v (Lib.byteCells (l ++ quoteL s)) w w' := by
 have hsz := bs_size s
 have hgg : Hid (∀ (k : Nat) (hk : k < s.length) (h : k < (bs s).size), (bs s)[k]'h = s[k]'hk) := fun k hk h => bs_get s k h
 generalize bs s = S at *
 have c0 := hi_ (byte_any 134 b heads_teller v (Lib.byteCells l) 34 w h (by rw [Lib.byteCells_length]; omega))
 replace h := hi_ h
 go_enter Tryz.func122, Tryz.ntmps122
 go_wp2_with (go_at_call 33; refine c0.out.mono ?_)
 rintro e w1 ⟨rfl, v1, hB1, hT1⟩
 replace hB1 : Bat 134 b v1 (Lib.byteCells (l ++ 34 :: escL (s.take 0))) w1 := by
  have e2 : l ++ 34 :: escL (s.take 0) = l ++ [34] := by simp [escL]
  rw [e2, byte_append]
  exact hB1
 clear c0
 replace hB1 := hi_ hB1
 replace hT1 := hi_ hT1
 go_wp2_with fail
 go_loopw [12] (fun i wr => ∃ (k : Nat) (v' : Value), k ≤ s.length ∧ i = .int .i64 (k : Nat) ∧ Bat 134 b v' (Lib.byteCells (l ++ 34 :: escL (s.take k))) wr ∧ Turn w wr b v v') (fun i _ => s.length - (intOf i).toNat)
 case atStart => exact ⟨0, v1, Nat.zero_le _, rfl, hB1.out, hT1.out⟩
 case round =>
  obtain ⟨k, v', hk, rfl, hB, hT⟩ := hrel
  have hel := escL_len (s.take k)
  have htl := List.length_take_le k s
  by_cases hlt : k < s.length
  ·have htl' : (s.take k).length ≤ s.length - 1 := by rw [List.length_take]; omega
   have hg : ∀ h, S[k]'h = s[k] := fun h => hgg.out k hlt h
   have hs := hi_ (escL_take s k hlt)
   generalize s[k] = c at *
   have cB : ∀ x : Int, Calls Tryz.prog 33 #[.pointer (some ⟨b, 0, none⟩), .int .u8 x] wr fun e w' => e = .returned .nilIface ∧ Wrote 134 b v' (Lib.byteCells (l ++ 34 :: escL (s.take k)) ++ [.int .u8 x]) wr w' := fun x => byte_any 134 b heads_teller v' _ x wr hB (by rw [Lib.byteCells_length]; simp; omega)
   have cS : ∀ x : List UInt8, x.length = 2 → Calls Tryz.prog 49 #[.pointer (some ⟨b, 0, none⟩), .string (bs x)] wr fun e w' => e = .returned (.tuple #[.int .i64 (bs x).size, .nilIface]) ∧ Wrote 134 b v' (Lib.byteCells (l ++ 34 :: escL (s.take k)) ++ Lib.byteCells x) wr w' := fun x hx => by
    have := str_any 134 b heads_teller v' _ (bs x) wr hB (by rw [Lib.byteCells_length, bs_size]; simp; omega)
    rwa [str_cells] at this
   by_cases c1 : c = 34 ∨ c = 92
   ·rcases c1 with rfl | rfl
    ·skip
     have cW := hi_ (cS [92, 34] rfl)
     clear cS cB
     go_wp2_with (first | (go_at_call 33; refine cW.out.mono ?_) | (go_at_call 49; refine cW.out.mono ?_))
     rintro e w4 ⟨rfl, v4, hB4, hT4⟩
     have hW4 : Bat 134 b v4 (Lib.byteCells (l ++ 34 :: escL (s.take (k + 1)))) w4 := by
      have e := hs.out
      have e2 : l ++ 34 :: escL (s.take (k + 1)) = (l ++ 34 :: escL (s.take k)) ++ [92, 34] := by rw [e]; simp [escL]
      rw [e2, byte_append]
      exact hB4
     have hT4' := hT.trans hT4
     replace hW4 := hi_ hW4
     replace hT4' := hi_ hT4'
     clear hB4 hT4
     go_wp2_with fail
     go_roundw
     case rel => exact ⟨k + 1, v4, by omega, by go_num, hW4.out, hT4'.out⟩
     case measure => simp [intOf]; omega
    ·skip
     have cW := hi_ (cS [92, 92] rfl)
     clear cS cB
     go_wp2_with (first | (go_at_call 33; refine cW.out.mono ?_) | (go_at_call 49; refine cW.out.mono ?_))
     rintro e w4 ⟨rfl, v4, hB4, hT4⟩
     have hW4 : Bat 134 b v4 (Lib.byteCells (l ++ 34 :: escL (s.take (k + 1)))) w4 := by
      have e := hs.out
      have e2 : l ++ 34 :: escL (s.take (k + 1)) = (l ++ 34 :: escL (s.take k)) ++ [92, 92] := by rw [e]; simp [escL]
      rw [e2, byte_append]
      exact hB4
     have hT4' := hT.trans hT4
     replace hW4 := hi_ hW4
     replace hT4' := hi_ hT4'
     clear hB4 hT4
     go_wp2_with fail
     go_roundw
     case rel => exact ⟨k + 1, v4, by omega, by go_num, hW4.out, hT4'.out⟩
     case measure => simp [intOf]; omega
   ·by_cases c2 : c = 10
    ·subst c2
     have cW := hi_ (cS [92, 110] rfl)
     clear cS cB
     go_wp2_with (first | (go_at_call 33; refine cW.out.mono ?_) | (go_at_call 49; refine cW.out.mono ?_))
     rintro e w4 ⟨rfl, v4, hB4, hT4⟩
     have hW4 : Bat 134 b v4 (Lib.byteCells (l ++ 34 :: escL (s.take (k + 1)))) w4 := by
      have e := hs.out
      have e2 : l ++ 34 :: escL (s.take (k + 1)) = (l ++ 34 :: escL (s.take k)) ++ [92, 110] := by rw [e]; simp [escL]
      rw [e2, byte_append]
      exact hB4
     have hT4' := hT.trans hT4
     replace hW4 := hi_ hW4
     replace hT4' := hi_ hT4'
     clear hB4 hT4
     go_wp2_with fail
     go_roundw
     case rel => exact ⟨k + 1, v4, by omega, by go_num, hW4.out, hT4'.out⟩
     case measure => simp [intOf]; omega
    ·have t1 : ((c.toNat : Int) == 34) = false := by
      rw [beq_eq_false_iff_ne]; intro h; apply c1; left; apply UInt8.toNat_inj.1; simp; omega
     have t2 : ((c.toNat : Int) == 92) = false := by
      rw [beq_eq_false_iff_ne]; intro h; apply c1; right; apply UInt8.toNat_inj.1; simp; omega
     have t3 : ((c.toNat : Int) == 10) = false := by
      rw [beq_eq_false_iff_ne]; intro h; apply c2; apply UInt8.toNat_inj.1; simp; omega
     have c1' := hi_ c1
     have c2' := hi_ c2
     clear c1 c2
     have cW := hi_ (cB (c.toNat : Int))
     clear cS cB
     go_wp2_with (first | (go_at_call 33; refine cW.out.mono ?_) | (go_at_call 49; refine cW.out.mono ?_))
     rintro e w4 ⟨rfl, v4, hB4, hT4⟩
     have hW4 : Bat 134 b v4 (Lib.byteCells (l ++ 34 :: escL (s.take (k + 1)))) w4 := by
      have e := hs.out
      have e2 : l ++ 34 :: escL (s.take (k + 1)) = (l ++ 34 :: escL (s.take k)) ++ [c] := by rw [e]; simp [escL, c1'.out, c2'.out]
      rw [e2, byte_append]
      exact hB4
     have hT4' := hT.trans hT4
     replace hW4 := hi_ hW4
     replace hT4' := hi_ hT4'
     clear hB4 hT4
     go_wp2_with fail
     go_roundw
     case rel => exact ⟨k + 1, v4, by omega, by go_num, hW4.out, hT4'.out⟩
     case measure => simp [intOf]; omega
  ·obtain rfl : k = s.length := by omega
   rw [List.take_length] at hB hel
   have cW := hi_ (byte_any 134 b heads_teller v' _ 34 wr hB (by rw [Lib.byteCells_length]; simp; omega))
   replace hB := hi_ hB
   go_wp2_with (go_at_call 33; refine cW.out.mono ?_)
   rintro e w4 ⟨rfl, v4, hB4, hT4⟩
   have hW4 : Wrote 134 b v (Lib.byteCells (l ++ quoteL s)) w w4 := ⟨v4, by
    have e2 : l ++ quoteL s = (l ++ 34 :: escL s) ++ [34] := by simp [quoteL]
    rw [e2, byte_append]
    exact hB4, hT.trans hT4⟩
   clear hB4 hT4
   replace hW4 := hi_ hW4
   go_wp2_with fail
   exact bodyPost_end (v := .tuple #[]) (results_none (by kernel_rfl) _ _ _) rfl ⟨rfl, hW4.out⟩
theorem quoted_any (b : Nat) (v : Value) (l : List UInt8) (s : ByteArray) (w : World) (h : Bat 134 b v (Lib.byteCells l) w) (hlen : l.length + (2 * s.size + 2) ≤ 1073741824) :
  Calls Tryz.prog 122 #[.pointer (some ⟨b, 0, none⟩), .string s] w fun e w' => e = .returned (.tuple #[]) ∧ Wrote 134 b v (Lib.byteCells (l ++ quoteL s.data.toList)) w w' := by
 have := quotedL_any b v l s.data.toList w h (by rw [← size_list]; exact hlen)
 rwa [bs_toList] at this
def Env (w : World) : Prop := Lib.TabIs Tryz.prog w "internal/strconv.uint64pow10" .u64 Lib.pow10Tab
def EnvUnder (B : Nat) : Prop := 0 < B
theorem env_g : Tryz.prog.globalNamed "internal/strconv.uint64pow10" = some 0 := by kernel_rfl
theorem var_lt {P : Program} {w : World} {n : String} {g : Nat} {cs : Array Value} (hg : P.globalNamed n = some g) (h : w.var? P n = some cs) : g < w.heap.size := by
 unfold World.var? at h
 rw [hg] at h
 simp only [Option.bind_some] at h
 by_cases hlt : g < w.heap.size
 ·exact hlt
 ·rw [Array.getElem?_eq_none (Nat.le_of_not_lt hlt)] at h; simp at h
theorem Env.size {w : World} (h : Env w) : EnvUnder w.heap.size := var_lt env_g h
theorem Env.below {w w' : World} (h : Env w) {B : Nat} (hb : Below B w w') (hB : EnvUnder B) : Env w' := var?_below hb env_g hB h
theorem Env.kept {w w' : World} (h : Env w) (hb : Below w.heap.size w w') : Env w' := h.below hb h.size
theorem fmt_any (n : Int) (w : World) (h0 : -9223372036854775808 ≤ n ∧ n ≤ 9223372036854775807) (hE : Env w) :
  Calls Tryz.prog 58 #[.int .i64 n, .int .i64 10] w fun e w' => e = .returned (.string (bs (Lib.itoa n))) ∧ Below w.heap.size w w' :=
 (Tryz.strconv_FormatInt_10 n h0.1 h0.2 w hE).mono fun _e _w' ⟨he, k, os, hw⟩ => ⟨he, hw ▸ Lib.below_grow _ w (Nat.le_refl _) k os⟩
theorem tell_any (b : Nat) (v : Value) (l : List UInt8) (κ n : Int) (s : ByteArray) (la fa : Option Addr) (ln lc fn fc : Nat) (el : Int) (key : ByteArray) (hk : Bool) (w : World) (hB : Bat 134 b v (Lib.byteCells l) w) (hE : Env w) (hκ : κ = 3) (hn : (Lit.int .i64 n).wf = true) (hp : plainP κ n s ln fn el key hk = true) (hlen : l.length + (2 * s.size + 24) ≤ 1073741824) :
  Calls Tryz.prog 90 #[.pointer (some ⟨b, 0, none⟩), .agg (A11_ κ n s la ln lc fa fn fc el key hk)] w fun e w' => e = .returned (.tuple #[]) ∧ Wrote 134 b v (Lib.byteCells (l ++ vP κ n s)) w w' := by
 unfold A11_
 have hn1 := n64 hn
 obtain ⟨S, hS⟩ : ∃ S, S = w.alloc ((O10_ κ n s la ln lc fa fn fc el key hk)) := ⟨_, rfl⟩
 have hbS : Below w.heap.size w S := by rw [hS]; exact (Below.refl _ _).alloc (Nat.le_refl _) _
 have hrS : S.heap[w.heap.size]? = some ((O10_ κ n s la ln lc fa fn fc el key hk)) := by rw [hS]; exact heap_alloc_new w _
 have hzS : S.heap.size = w.heap.size + 1 := by rw [hS]; simp
 obtain ⟨x0, x1, x2, x3, x4, x5, x6, x7⟩ := c8_ hrS
 have hWS : Hid (S = _) := hS
 replace hrS := hi_ hrS
 clear hS
 have hBS := hB.later hbS
 have hTS : Turn w S b v v := Turn.below hbS
 have hES : Env S := hE.kept hbS
 have hfin : Hid (∀ x w', Wrote 134 b v (Lib.byteCells l ++ Lib.byteCells x) S w' → Wrote 134 b v (Lib.byteCells (l ++ x)) w w') := fun x w' ⟨v2, h1, h2⟩ => ⟨v2, by rw [byte_append]; exact h1, hTS.trans h2⟩
 replace hbS := hi_ hbS
 replace hTS := hi_ hTS
 clear hB hE
 subst hκ
 ·have cQ := quoted_any b v l s S hBS (by omega)
  replace cQ := hi_ cQ
  clear hn hp hn1 hlen
  replace hBS := hi_ hBS
  replace hES := hi_ hES
  go_enter Tryz.func90, Tryz.ntmps90
  go_wp2_with (first | (rw [← hWS.out]) | (go_at_call 122; refine cQ.out.mono ?_))
  rintro e w3 ⟨rfl, v2, h1, h2⟩
  have hw3 : Hid (Wrote 134 b v (Lib.byteCells (l ++ vP 3 n s)) w w3) := ⟨v2, h1, hTS.out.trans h2⟩
  clear h1 h2
  go_wp2_with fail
  exact bodyPost_end (v := .tuple #[]) (results_none (by kernel_rfl) _ _ _) rfl ⟨rfl, hw3.out⟩
structure IdxPost (κ : Int) (ks : List Int) (w : World) (e : Ending) (w' : World) : Prop where
 r : ∃ r : Int, e = .returned (.int .i64 r) ∧ (κ ∈ ks → 0 ≤ r) ∧ (κ ∉ ks → r = -1)
 w : w' = w
def Kinds (w : World) (g : Nat) (ks : List Int) : Prop := ks.length ≤ 2 ∧ ∀ i (h : i < ks.length), w.cell? ⟨g, i, none⟩ = some (.int .u8 ks[i])
theorem index_any (κ : Int) (g c : Nat) (ks : List Int) (w : World) (h : Kinds w g ks) :
  Calls Tryz.prog 161 #[.slice (some ⟨g, 0, none⟩) ks.length c, .int .u8 κ] w fun e w' => IdxPost κ ks w e w' := by
 obtain ⟨hn, hc⟩ := h
 obtain ⟨n, hl⟩ : ∃ n, n = ks.length := ⟨_, rfl⟩
 rw [← hl] at hn ⊢
 replace hl := hi_ hl
 replace hc := hi_ hc
 go_enter Tryz.func161, Tryz.ntmps161
 go_wp2
 go_loop [8] (fun i => ∃ k : Nat, k ≤ n ∧ i = .int .i64 (k : Nat) ∧ κ ∉ ks.take k) (fun i => n - (intOf i).toNat)
 case atStart => exact ⟨0, Nat.zero_le _, rfl, by simp⟩
 case round =>
  obtain ⟨k, hk, rfl, hno⟩ := hrel
  by_cases hlt : k < n
  ·have hkl : k < ks.length := by rw [← hl.out]; exact hlt
   have c0 := hc.out k hkl
   have hmem : ks[k] ∈ ks := List.getElem_mem _
   have htk : ks.take (k + 1) = ks.take k ++ [ks[k]] := List.take_succ_eq_append_getElem hkl
   generalize ks[k] = y at *
   by_cases hy : κ = y
   ·subst hy
    replace htk := hi_ htk
    go_wp2
    go_ret
    exact ⟨⟨_, rfl, fun _ => by omega, fun h => absurd hmem h⟩, rfl⟩
   ·have hno2 : κ ∉ ks.take (k + 1) := by rw [htk]; simp [hno, hy]
    replace htk := hi_ htk
    go_wp2
    go_round
    case rel => exact ⟨k + 1, by omega, by go_num, hno2⟩
    case measure => simp [intOf]; omega
  ·have : ks.take k = ks := List.take_of_length_le (by rw [← hl.out]; omega)
   rw [this] at hno
   clear this
   go_wp2
   go_ret
   exact ⟨⟨_, rfl, fun h => absurd h hno, fun _ => rfl⟩, rfl⟩
theorem contains_any (κ : Int) (g c : Nat) (ks : List Int) (w : World) (h : Kinds w g ks) :
  Calls Tryz.prog 148 #[.slice (some ⟨g, 0, none⟩) ks.length c, .int .u8 κ] w fun e w' => e = .returned (.bool (decide (κ ∈ ks))) ∧ w' = w := by
 have cI := hi_ (index_any κ g c ks w h)
 replace h := hi_ h
 go_enter Tryz.func148, Tryz.ntmps148
 go_wp2_with (go_at_call 161; refine cI.out.mono ?_)
 rintro e w1 ⟨⟨r, rfl, h1, h2⟩, rfl⟩
 by_cases hm : κ ∈ ks
 ·have hr := h1 hm
  have hr2 : Hid (κ ∈ ks) := hm
  clear h1 h2 hm
  go_wp2
  go_ret
  exact ⟨by rw [decide_eq_true hr2.out]; first | rfl | (simp; done) | (simp; omega), rfl⟩
 ·obtain rfl := h2 hm
  have hr2 : Hid (κ ∉ ks) := hm
  clear h1 h2 hm
  go_wp2
  go_ret
  exact ⟨by rw [decide_eq_false hr2.out]; rfl, rfl⟩
theorem alone1_any (κ : Int) (b g c : Nat) (ks : List Int) (w : World) (h : Kinds w g ks) (hb : w.cell? ⟨b, 0, none⟩ = some (.int .u8 κ)) :
  Calls Tryz.prog 147 #[.slice (some ⟨g, 0, none⟩) ks.length c, .pointer (some ⟨b, 0, none⟩)] w fun e w' => e = .returned (.bool (decide (κ ∈ ks))) ∧ w' = w := by
 have cI := hi_ (contains_any κ g c ks w h)
 replace h := hi_ h
 obtain ⟨y, hy⟩ : ∃ y, y = decide (κ ∈ ks) := ⟨_, rfl⟩
 rw [← hy] at cI ⊢
 replace hy := hi_ hy
 go_enter Tryz.func147, Tryz.ntmps147
 go_wp2_with (go_at_call 148; refine cI.out.mono ?_)
 first | rintro e w3 rfl rfl | rintro e w3 ⟨rfl, rfl⟩
 go_wp2_with fail
 go_ret
 exact ⟨rfl, rfl⟩
theorem kinds2 (W : World) (T : Nat) (a b : Int) : Kinds (W.alloc (.cells #[.int .u8 a, .int .u8 b] T)) W.heap.size [a, b] := by
 refine ⟨by simp, fun i h => ?_⟩
 match i, h with
 | 0, _ => simp
 | 1, _ => simp
theorem kinds1 (W : World) (T : Nat) (a : Int) : Kinds (W.alloc (.cells #[.int .u8 a] T)) W.heap.size [a] := by
 refine ⟨by simp, fun i h => ?_⟩
 match i, h with
 | 0, _ => simp
def Boxed (W : World) (b : Nat) (κ n : Int) (s : ByteArray) (la fa : Option Addr) (ln lc fn fc : Nat) (el : Int) (key : ByteArray) (hk : Bool) : Prop := W.heap[b]? = some ((O10_ κ n s la ln lc fa fn fc el key hk))
theorem Boxed.alloc {W : World} {b : Nat} {κ n : Int} {s : ByteArray} {la fa : Option Addr} {ln lc fn fc : Nat} {el : Int} {key : ByteArray} {hk : Bool} (h : Boxed W b κ n s la fa ln lc fn fc el key hk) (o : Obj) : Boxed (W.alloc o) b κ n s la fa ln lc fn fc el key hk := (Lib.alloc_old W o b (Array.getElem?_eq_some_iff.1 h).1).trans h
theorem Boxed.kept {W W' : World} {b : Nat} {κ n : Int} {s : ByteArray} {la fa : Option Addr} {ln lc fn fc : Nat} {el : Int} {key : ByteArray} {hk : Bool} (h : Boxed W b κ n s la fa ln lc fn fc el key hk) (hb : Below W.heap.size W W') : Boxed W' b κ n s la fa ln lc fn fc el key hk := (hb.block b (Array.getElem?_eq_some_iff.1 h).1).trans h
theorem Boxed.kind {W : World} {b : Nat} {κ n : Int} {s : ByteArray} {la fa : Option Addr} {ln lc fn fc : Nat} {el : Int} {key : ByteArray} {hk : Bool} (h : Boxed W b κ n s la fa ln lc fn fc el key hk) : W.cell? ⟨b, 0, none⟩ = some (.int .u8 κ) := by
 have h' : W.heap[b]? = _ := h
 simp [World.cell?, h']
theorem aloneK3_any (n : Int) (s : ByteArray) (la fa : Option Addr) (ln lc fn fc : Nat) (el : Int) (key : ByteArray) (hk : Bool) (F : List Fld) (w : World) (hln : ln ≤ 1152921504606846976) (hs : s.size ≤ 140737488355328) (hks : key.size ≤ 140737488355328) (h : FLs w w.heap.size F fa fn) :
  Calls Tryz.prog 121 #[.agg (A12_ n s la ln lc fa fn fc el key hk)] w fun e w' => e = .returned (.bool (plainP 3 n s ln fn el key hk)) ∧ Below w.heap.size w w' := by
 unfold A12_
 have hfn := h.2.1
 obtain ⟨V, hV⟩ : ∃ V, V = plainP 3 n s ln fn el key hk := ⟨_, rfl⟩
 rw [← hV]
 replace hV := hi_ hV
 obtain ⟨S, hS⟩ : ∃ S, S = w.alloc ((O11_ n s la ln lc fa fn fc el key hk)) := ⟨_, rfl⟩
 have hbS : Below w.heap.size w S := by rw [hS]; exact (Below.refl _ _).alloc (Nat.le_refl _) _
 have hrS : S.heap[w.heap.size]? = some ((O11_ n s la ln lc fa fn fc el key hk)) := by rw [hS]; exact heap_alloc_new w _
 have hzS : S.heap.size = w.heap.size + 1 := by rw [hS]; simp
 obtain ⟨x0, x1, x2, x3, x4, x5, x6, x7⟩ := c8_ hrS
 have hWS : Hid (S = _) := hS
 replace hrS := hi_ hrS
 clear hS
 have hX0 : Hid (Boxed S w.heap.size 3 n s la fa ln lc fn fc el key hk) := by show _ = _; exact hrS.out
 replace h := hi_ h
 replace hbS := hi_ hbS
 go_enter Tryz.func121, Tryz.ntmps121
 go_wp2_with (rw [← hWS.out])
 go_loopw [9] (fun i wr => ∃ k : Nat, k ≤ fn ∧ i = .int .i64 (k : Nat) ∧ Below S.heap.size S wr) (fun i _ => fn - (intOf i).toNat)
 case atStart => exact ⟨0, Nat.zero_le _, rfl, Below.refl _ _⟩
 case round =>
  obtain ⟨k, hk9, rfl, hbk⟩ := hrel
  have hX : Hid (Boxed wr w.heap.size 3 n s la fa ln lc fn fc el key hk) := hX0.out.kept hbk
  have hb := hi_ (hbS.out.trans (hbk.mono (by omega)))
  clear x0 x1 x2 x3 x4 x5 x6 x7
  by_cases hlt : k < fn
  ·have hlt9 : Hid (k + 1 ≤ fn) := hlt
   have hV9 : Hid (V = false) := by
    have hf0 : ¬ fn = 0 := by omega
    show V = false
    rw [hV.out]; unfold plainP restB; simp [hf0]
   obtain ⟨b1, o1, f, q, rfl, hb1, hg1, hc1, hf1⟩ := FLs.elem (h.out.kept hb.out) k hlt
   have hbw : b1 < wr.heap.size := Nat.lt_of_lt_of_le hb1 hb.out.size
   have hY : wr.heap[w.heap.size]? = some (.cells #[.int .u8 3, .int .i64 n, .string s, .slice la ln lc, .slice (some ⟨b1, o1, none⟩) fn fc, .int .u8 el, .string key, .bool hk] 110 (0, 0)) := hX.out
   obtain ⟨x0, x1, x2, x3, x4, x5, x6, x7⟩ := c8_ hY
   clear hY
   have y0 : wr.cell? ⟨b1, o1 + k * 9, none⟩ = some (.string f.name) := hc1 0 (by omega)
   have y1 : wr.cell? ⟨b1, o1 + k * 9 + 1, none⟩ = some (.int .u8 f.value.kind) := by rw [Nat.add_assoc]; exact hc1 1 (by omega)
   have y2 : wr.cell? ⟨b1, o1 + k * 9 + 2, none⟩ = some (.int .i64 f.value.n) := by rw [Nat.add_assoc]; exact hc1 2 (by omega)
   have y3 : wr.cell? ⟨b1, o1 + k * 9 + 3, none⟩ = some (.string f.value.s) := by rw [Nat.add_assoc]; exact hc1 3 (by omega)
   have y4 : wr.cell? ⟨b1, o1 + k * 9 + 4, none⟩ = some (.slice q.la q.ln q.lc) := by rw [Nat.add_assoc]; exact hc1 4 (by omega)
   have y5 : wr.cell? ⟨b1, o1 + k * 9 + 5, none⟩ = some (.slice q.fa q.fn q.fc) := by rw [Nat.add_assoc]; exact hc1 5 (by omega)
   have y6 : wr.cell? ⟨b1, o1 + k * 9 + 6, none⟩ = some (.int .u8 f.value.elem) := by rw [Nat.add_assoc]; exact hc1 6 (by omega)
   have y7 : wr.cell? ⟨b1, o1 + k * 9 + 7, none⟩ = some (.string f.value.key) := by rw [Nat.add_assoc]; exact hc1 7 (by omega)
   have y8 : wr.cell? ⟨b1, o1 + k * 9 + 8, none⟩ = some (.bool f.value.hk) := by rw [Nat.add_assoc]; exact hc1 8 (by omega)
   obtain ⟨S9, hS9⟩ : ∃ S9, S9 = wr.alloc (.cells #[.string f.name, .int .u8 f.value.kind, .int .i64 f.value.n, .string f.value.s, .slice q.la q.ln q.lc, .slice q.fa q.fn q.fc, .int .u8 f.value.elem, .string f.value.key, .bool f.value.hk] 180) := ⟨_, rfl⟩
   have hbS9 : Below wr.heap.size wr S9 := by rw [hS9]; exact (Below.refl _ _).alloc (Nat.le_refl _) _
   have hrS9 : S9.heap[wr.heap.size]? = some (.cells #[.string f.name, .int .u8 f.value.kind, .int .i64 f.value.n, .string f.value.s, .slice q.la q.ln q.lc, .slice q.fa q.fn q.fc, .int .u8 f.value.elem, .string f.value.key, .bool f.value.hk] 180 (0, 0)) := by rw [hS9]; exact heap_alloc_new wr _
   have hzS9 : S9.heap.size = wr.heap.size + 1 := by rw [hS9]; simp
   obtain ⟨t0, t1, t2, t3, t4, t5, t6, t7, t8⟩ := c9_ hrS9
   have hWS9 : Hid (S9 = _) := hS9
   replace hrS9 := hi_ hrS9
   clear hS9
   have hzw : w.heap.size < wr.heap.size := by have := hX.out; exact (Array.getElem?_eq_some_iff.1 this).1
   have hb9 := hi_ (hb.out.trans (hbS9.mono hb.out.size))
   have hb8 := hi_ (hbk.trans (hbS9.mono hbk.size))
   have x4' : ∀ d : LowW S9, d.w.cell? ⟨w.heap.size, 4, none⟩ = some (.slice (some ⟨b1, o1, none⟩) fn fc) := fun d => (d.cell (by show w.heap.size < _; omega)).trans ((hbS9.cell (p := ⟨w.heap.size, 4, none⟩) (by show w.heap.size < _; omega)).trans x4)
   have t0' : ∀ d : LowW S9, d.w.cell? ⟨wr.heap.size, 0, none⟩ = some (.string f.name) := fun d => (d.cell (by show wr.heap.size < _; omega)).trans t0
   have z4 := x4' ⟨S9, Below.refl _ _⟩
   have hks := hf1.k0
   have cN : ∀ d : LowW S9, Calls Tryz.prog 145 #[.string f.name] d.w fun e w' => e = .returned (.bool (nameB f.name)) ∧ ∃ d' : LowW S9, w' = d'.w := fun d => (valName_any f.name d.w hks).mono fun e w' h => ⟨h.1, d, h.2⟩
   obtain ⟨xN, hxN⟩ : ∃ y, y = nameB f.name := ⟨_, rfl⟩
   simp only [← hxN] at cN
   replace cN := hi_ cN
   replace hxN := hi_ hxN
   clear x0 x1 x2 x3 x5 x6 x7 t0 t1 t2 t3 t4 t5 t6 t7 t8 z4 hks hbk
   replace hbS9 := hi_ hbS9
   cases xN
   ·go_wp2_with (rw [← hWS9.out])
    refine wp_region_low (by kernel_rfl) (by kernel_rfl) ?_
    repeat (go_big_quiet_step (first | (go_at_call 145; exact cN.out _)))
    refine wpQuiet_nil ?_
    rintro _ ⟨d, rfl⟩
    have hb' := hi_ (hb9.out.trans (d.low.mono hb9.out.size))
    have hb7 := hi_ (hb8.out.trans (d.low.mono hb8.out.size))
    go_wp2_with fail
    go_ret
    exact ⟨by rw [hV9.out]; rfl, hb'.out⟩
   ·rcases Nat.eq_zero_or_pos k with rfl | h0
    ·simp only [Nat.zero_mul, Nat.add_zero] at y0 y1 y2 y3 y4 y5 y6 y7 y8
     go_wp2_with (rw [← hWS9.out])
     refine wp_region_low (by kernel_rfl) (by kernel_rfl) ?_
     repeat (go_big_quiet_step (first | (go_at_call 145; exact cN.out _)))
     refine wpQuiet_nil ?_
     rintro _ ⟨d, rfl⟩
     have hb' := hi_ (hb9.out.trans (d.low.mono hb9.out.size))
     have hb7 := hi_ (hb8.out.trans (d.low.mono hb8.out.size))
     go_wp2_with fail
     go_roundw
     case rel => exact ⟨0 + 1, hlt9.out, by go_num, hb7.out⟩
     case measure => simp [intOf]; have := hlt9.out; omega
    ·obtain ⟨j, rfl⟩ : ∃ j, k = j + 1 := ⟨k - 1, by omega⟩
     obtain ⟨b2, o2, f2, q2, e2, _, hg2, hc2, hf2⟩ := FLs.elem (h.out.kept hb.out) j (by omega)
     obtain ⟨rfl, rfl⟩ : b1 = b2 ∧ o1 = o2 := by injection e2 with e2; injection e2 with e3 e4; exact ⟨e3, e4⟩
     have u0 : ∀ d : LowW S9, d.w.cell? ⟨b1, o1 + j * 9, none⟩ = some (.string f2.name) := fun d => (d.cell (by show b1 < _; omega)).trans ((hbS9.out.cell (p := ⟨b1, o1 + j * 9, none⟩) hbw).trans (hc2 0 (by omega)))
     obtain ⟨xL, hxL⟩ : ∃ y, y = less f2.name f.name := ⟨_, rfl⟩
     have hxL' : Op.bytesLess f2.name.toList f.name.toList = xL := hxL.symm
     replace hxL := hi_ hxL
     clear e2 hc2 hf2 hg2
     cases xL
     ·go_wp2_with (rw [← hWS9.out])
      refine wp_region_low (by kernel_rfl) (by kernel_rfl) ?_
      repeat (go_big_quiet_step (first | (go_at_call 145; exact cN.out _)))
      refine wpQuiet_nil ?_
      rintro _ ⟨d, rfl⟩
      have hb' := hi_ (hb9.out.trans (d.low.mono hb9.out.size))
      have hb7 := hi_ (hb8.out.trans (d.low.mono hb8.out.size))
      go_wp2_with fail
      go_ret
      exact ⟨by rw [hV9.out]; rfl, hb'.out⟩
     ·go_wp2_with (rw [← hWS9.out])
      refine wp_region_low (by kernel_rfl) (by kernel_rfl) ?_
      repeat (go_big_quiet_step (first | (go_at_call 145; exact cN.out _)))
      refine wpQuiet_nil ?_
      rintro _ ⟨d, rfl⟩
      have hb' := hi_ (hb9.out.trans (d.low.mono hb9.out.size))
      have hb7 := hi_ (hb8.out.trans (d.low.mono hb8.out.size))
      go_wp2_with fail
      go_roundw
      case rel => exact ⟨j + 1 + 1, hlt9.out, by go_num, hb7.out⟩
      case measure => simp [intOf]; have := hlt9.out; omega
  ·have hkf : fn = k := by omega
   subst hkf
   replace hbk := hi_ hbk
   have hY : wr.heap[w.heap.size]? = some ((O11_ n s la ln lc fa fn fc el key hk)) := hX.out
   obtain ⟨x0, x1, x2, x3, x4, x5, x6, x7⟩ := c8_ hY
   clear hY
   iterate 47 (first | go_values | go_skip | go_guarded | go_step | go_upon)
   simp only [List.append_eq, List.cons_append, List.nil_append]
   clear x0 x1 x2 x3 x4 x5 x6 x7
   by_cases h1 : el = 0
   case neg =>
    have hv9 : V = false := by rw [hV.out]; unfold plainP restB; simp [h1]
    replace hv9 := hi_ hv9
    have hY : wr.heap[w.heap.size]? = some ((O11_ n s la ln lc fa fn fc el key hk)) := hX.out
    obtain ⟨x0, x1, x2, x3, x4, x5, x6, x7⟩ := c8_ hY
    clear hY
    go_wp2_with fail
    go_ret
    exact ⟨by rw [hv9.out]; rfl, hb.out⟩
   subst h1
   by_cases h2 : 0 < key.size
   case pos =>
    have e2 := ne_empty h2
    have e2' := not_isEmpty h2
    have h2' : ¬ key.size = 0 := by omega
    have h2'' : ¬ key = ByteArray.empty := by rintro rfl; exact absurd h2 (by decide)
    have hv9 : V = false := by rw [hV.out]; unfold plainP restB; simp [h2'']
    replace hv9 := hi_ hv9
    have hY : wr.heap[w.heap.size]? = some ((O12_ n s la ln lc fa fn fc key hk)) := hX.out
    obtain ⟨x0, x1, x2, x3, x4, x5, x6, x7⟩ := c8_ hY
    clear hY
    go_wp2_with fail
    go_ret
    exact ⟨by rw [hv9.out]; rfl, hb.out⟩
   obtain rfl := size_zero h2
   clear h2
   cases hk
   case true =>
    have hv9 : V = false := by rw [hV.out]; unfold plainP restB; simp []
    replace hv9 := hi_ hv9
    have hY : wr.heap[w.heap.size]? = some ((O13_ n s la ln lc fa fn fc)) := hX.out
    obtain ⟨x0, x1, x2, x3, x4, x5, x6, x7⟩ := c8_ hY
    clear hY
    go_wp2_with fail
    go_ret
    exact ⟨by rw [hv9.out]; rfl, hb.out⟩
   by_cases h4 : s.size ≤ 4096
   case neg =>
    have h4' : ¬ (s.size : Int) ≤ 4096 := by omega
    have h4'' : ¬ s = ByteArray.empty := by rintro rfl; exact absurd h4 (by decide)
    have hv9 : V = false := by rw [hV.out]; unfold plainP restB; simp [h4]
    replace hv9 := hi_ hv9
    have hY : wr.heap[w.heap.size]? = some ((O14_ n s la ln lc fa fn fc)) := hX.out
    obtain ⟨x0, x1, x2, x3, x4, x5, x6, x7⟩ := c8_ hY
    clear hY
    go_wp2_with fail
    go_ret
    exact ⟨by rw [hv9.out]; rfl, hb.out⟩
   have h4' : (s.size : Int) ≤ 4096 := by omega
   by_cases h5 : n = 0
   ·subst h5
    by_cases h6 : 0 < s.size
    ·skip
     have e6 := ne_empty h6
     have e6' := not_isEmpty h6
     have h6'' : ¬ s = ByteArray.empty := by rintro rfl; exact absurd h6 (by decide)
     by_cases h7 : ln = 0
     case neg =>
      have hv9 : V = false := by rw [hV.out]; unfold plainP restB; simp [h4, h7]
      replace hv9 := hi_ hv9
      have hY : wr.heap[w.heap.size]? = some ((O15_ s la ln lc fa fn fc)) := hX.out
      obtain ⟨x0, x1, x2, x3, x4, x5, x6, x7⟩ := c8_ hY
      clear hY
      go_wp2_with (go_at_call 147; refine (alone1_any 3 w.heap.size _ _ [_, _] _ (kinds2 _ _ _ _) ((hX.out.alloc _).kind)).mono ?_)
      rintro e w2 ⟨rfl, hW9⟩
      have hXw2 : Hid (Boxed w2 w.heap.size 3 0 s la fa ln lc fn fc 0 ⟨#[]⟩ false) := by rw [hW9]; exact hX.out.alloc _
      have hBw2 : Hid (Below wr.heap.size wr w2) := by rw [hW9]; exact (Below.refl _ _).alloc (Nat.le_refl _) _
      clear hW9
      clear x0 x1 x2 x3 x4 x5 x6 x7
      have hbw2 := hi_ (hb.out.trans (hBw2.out.mono hb.out.size))
      have hY : w2.heap[w.heap.size]? = some ((O15_ s la ln lc fa fn fc)) := hXw2.out
      obtain ⟨x0, x1, x2, x3, x4, x5, x6, x7⟩ := c8_ hY
      clear hY
      go_wp2_with (go_at_call 147; refine (alone1_any 3 w.heap.size _ _ [_] _ (kinds1 _ _ _) ((hXw2.out.alloc _).kind)).mono ?_)
      rintro e w3 ⟨rfl, hW9⟩
      have hXw3 : Hid (Boxed w3 w.heap.size 3 0 s la fa ln lc fn fc 0 ⟨#[]⟩ false) := by rw [hW9]; exact hXw2.out.alloc _
      have hBw3 : Hid (Below w2.heap.size w2 w3) := by rw [hW9]; exact (Below.refl _ _).alloc (Nat.le_refl _) _
      clear hW9
      clear x0 x1 x2 x3 x4 x5 x6 x7
      have hbw3 := hi_ (hbw2.out.trans (hBw3.out.mono hbw2.out.size))
      have hY : w3.heap[w.heap.size]? = some ((O15_ s la ln lc fa fn fc)) := hXw3.out
      obtain ⟨x0, x1, x2, x3, x4, x5, x6, x7⟩ := c8_ hY
      clear hY
      go_wp2_with fail
      go_ret
      exact ⟨by rw [hv9.out]; rfl, hbw3.out⟩
     subst h7
     by_cases h8 : fn = 0
     case neg =>
      have h8i : ¬ (fn : Int) = 0 := by omega
      have h8b : ((fn : Int) == 0) = false := by simp [h8]
      have hv9 : V = false := by rw [hV.out]; unfold plainP restB; simp [h4, h8]
      replace hv9 := hi_ hv9
      have hY : wr.heap[w.heap.size]? = some ((O16_ s la lc fa fn fc)) := hX.out
      obtain ⟨x0, x1, x2, x3, x4, x5, x6, x7⟩ := c8_ hY
      clear hY
      go_wp2_with (go_at_call 147; refine (alone1_any 3 w.heap.size _ _ [_, _] _ (kinds2 _ _ _ _) ((hX.out.alloc _).kind)).mono ?_)
      rintro e w2 ⟨rfl, hW9⟩
      have hXw2 : Hid (Boxed w2 w.heap.size 3 0 s la fa 0 lc fn fc 0 ⟨#[]⟩ false) := by rw [hW9]; exact hX.out.alloc _
      have hBw2 : Hid (Below wr.heap.size wr w2) := by rw [hW9]; exact (Below.refl _ _).alloc (Nat.le_refl _) _
      clear hW9
      clear x0 x1 x2 x3 x4 x5 x6 x7
      have hbw2 := hi_ (hb.out.trans (hBw2.out.mono hb.out.size))
      have hY : w2.heap[w.heap.size]? = some ((O16_ s la lc fa fn fc)) := hXw2.out
      obtain ⟨x0, x1, x2, x3, x4, x5, x6, x7⟩ := c8_ hY
      clear hY
      go_wp2_with (go_at_call 147; refine (alone1_any 3 w.heap.size _ _ [_, _] _ (kinds2 _ _ _ _) ((hXw2.out.alloc _).kind)).mono ?_)
      rintro e w3 ⟨rfl, hW9⟩
      have hXw3 : Hid (Boxed w3 w.heap.size 3 0 s la fa 0 lc fn fc 0 ⟨#[]⟩ false) := by rw [hW9]; exact hXw2.out.alloc _
      have hBw3 : Hid (Below w2.heap.size w2 w3) := by rw [hW9]; exact (Below.refl _ _).alloc (Nat.le_refl _) _
      clear hW9
      clear x0 x1 x2 x3 x4 x5 x6 x7
      have hbw3 := hi_ (hbw2.out.trans (hBw3.out.mono hbw2.out.size))
      have hY : w3.heap[w.heap.size]? = some ((O16_ s la lc fa fn fc)) := hXw3.out
      obtain ⟨x0, x1, x2, x3, x4, x5, x6, x7⟩ := c8_ hY
      clear hY
      go_wp2_with fail
      go_ret
      exact ⟨by rw [hv9.out]; rfl, hbw3.out⟩
     subst h8
     have hv9 : V = true := by rw [hV.out]; unfold plainP restB; simp [h4] <;> first | rfl | decide
     replace hv9 := hi_ hv9
     have hY : wr.heap[w.heap.size]? = some ((O17_ s la lc fa fc)) := hX.out
     obtain ⟨x0, x1, x2, x3, x4, x5, x6, x7⟩ := c8_ hY
     clear hY
     go_wp2_with (go_at_call 147; refine (alone1_any 3 w.heap.size _ _ [_, _] _ (kinds2 _ _ _ _) ((hX.out.alloc _).kind)).mono ?_)
     rintro e w2 ⟨rfl, hW9⟩
     have hXw2 : Hid (Boxed w2 w.heap.size 3 0 s la fa 0 lc 0 fc 0 ⟨#[]⟩ false) := by rw [hW9]; exact hX.out.alloc _
     have hBw2 : Hid (Below wr.heap.size wr w2) := by rw [hW9]; exact (Below.refl _ _).alloc (Nat.le_refl _) _
     clear hW9
     clear x0 x1 x2 x3 x4 x5 x6 x7
     have hbw2 := hi_ (hb.out.trans (hBw2.out.mono hb.out.size))
     have hY : w2.heap[w.heap.size]? = some ((O17_ s la lc fa fc)) := hXw2.out
     obtain ⟨x0, x1, x2, x3, x4, x5, x6, x7⟩ := c8_ hY
     clear hY
     go_wp2_with fail
     go_ret
     exact ⟨by rw [hv9.out]; rfl, hbw2.out⟩
    ·obtain rfl := size_zero h6
     clear h6 h4 h4'
     by_cases h7 : ln = 0
     case neg =>
      have hv9 : V = false := by rw [hV.out]; unfold plainP restB; simp [h7]
      replace hv9 := hi_ hv9
      have hY : wr.heap[w.heap.size]? = some ((O18_ la ln lc fa fn fc)) := hX.out
      obtain ⟨x0, x1, x2, x3, x4, x5, x6, x7⟩ := c8_ hY
      clear hY
      go_wp2_with (go_at_call 147; refine (alone1_any 3 w.heap.size _ _ [_] _ (kinds1 _ _ _) ((hX.out.alloc _).kind)).mono ?_)
      rintro e w2 ⟨rfl, hW9⟩
      have hXw2 : Hid (Boxed w2 w.heap.size 3 0 ⟨#[]⟩ la fa ln lc fn fc 0 ⟨#[]⟩ false) := by rw [hW9]; exact hX.out.alloc _
      have hBw2 : Hid (Below wr.heap.size wr w2) := by rw [hW9]; exact (Below.refl _ _).alloc (Nat.le_refl _) _
      clear hW9
      clear x0 x1 x2 x3 x4 x5 x6 x7
      have hbw2 := hi_ (hb.out.trans (hBw2.out.mono hb.out.size))
      have hY : w2.heap[w.heap.size]? = some ((O18_ la ln lc fa fn fc)) := hXw2.out
      obtain ⟨x0, x1, x2, x3, x4, x5, x6, x7⟩ := c8_ hY
      clear hY
      go_wp2_with fail
      go_ret
      exact ⟨by rw [hv9.out]; rfl, hbw2.out⟩
     subst h7
     by_cases h8 : fn = 0
     case neg =>
      have h8i : ¬ (fn : Int) = 0 := by omega
      have h8b : ((fn : Int) == 0) = false := by simp [h8]
      have hv9 : V = false := by rw [hV.out]; unfold plainP restB; simp [h8]
      replace hv9 := hi_ hv9
      have hY : wr.heap[w.heap.size]? = some ((O19_ la lc fa fn fc)) := hX.out
      obtain ⟨x0, x1, x2, x3, x4, x5, x6, x7⟩ := c8_ hY
      clear hY
      go_wp2_with (go_at_call 147; refine (alone1_any 3 w.heap.size _ _ [_, _] _ (kinds2 _ _ _ _) ((hX.out.alloc _).kind)).mono ?_)
      rintro e w2 ⟨rfl, hW9⟩
      have hXw2 : Hid (Boxed w2 w.heap.size 3 0 ⟨#[]⟩ la fa 0 lc fn fc 0 ⟨#[]⟩ false) := by rw [hW9]; exact hX.out.alloc _
      have hBw2 : Hid (Below wr.heap.size wr w2) := by rw [hW9]; exact (Below.refl _ _).alloc (Nat.le_refl _) _
      clear hW9
      clear x0 x1 x2 x3 x4 x5 x6 x7
      have hbw2 := hi_ (hb.out.trans (hBw2.out.mono hb.out.size))
      have hY : w2.heap[w.heap.size]? = some ((O19_ la lc fa fn fc)) := hXw2.out
      obtain ⟨x0, x1, x2, x3, x4, x5, x6, x7⟩ := c8_ hY
      clear hY
      go_wp2_with fail
      go_ret
      exact ⟨by rw [hv9.out]; rfl, hbw2.out⟩
     subst h8
     have hv9 : V = true := by rw [hV.out]; unfold plainP restB; simp [] <;> first | rfl | decide
     replace hv9 := hi_ hv9
     have hY : wr.heap[w.heap.size]? = some ((O20_ la lc fa fc)) := hX.out
     obtain ⟨x0, x1, x2, x3, x4, x5, x6, x7⟩ := c8_ hY
     clear hY
     go_wp2_with fail
     go_ret
     exact ⟨by rw [hv9.out]; rfl, hb.out⟩
   ·skip
    have hv9 : V = false := by rw [hV.out]; unfold plainP restB; simp [h5]
    replace hv9 := hi_ hv9
    have hY : wr.heap[w.heap.size]? = some ((O14_ n s la ln lc fa fn fc)) := hX.out
    obtain ⟨x0, x1, x2, x3, x4, x5, x6, x7⟩ := c8_ hY
    clear hY
    go_wp2_with (go_at_call 147; refine (alone1_any 3 w.heap.size _ _ [_, _] _ (kinds2 _ _ _ _) ((hX.out.alloc _).kind)).mono ?_)
    rintro e w2 ⟨rfl, hW9⟩
    have hXw2 : Hid (Boxed w2 w.heap.size 3 n s la fa ln lc fn fc 0 ⟨#[]⟩ false) := by rw [hW9]; exact hX.out.alloc _
    have hBw2 : Hid (Below wr.heap.size wr w2) := by rw [hW9]; exact (Below.refl _ _).alloc (Nat.le_refl _) _
    clear hW9
    clear x0 x1 x2 x3 x4 x5 x6 x7
    have hbw2 := hi_ (hb.out.trans (hBw2.out.mono hb.out.size))
    have hY : w2.heap[w.heap.size]? = some ((O14_ n s la ln lc fa fn fc)) := hXw2.out
    obtain ⟨x0, x1, x2, x3, x4, x5, x6, x7⟩ := c8_ hY
    clear hY
    go_wp2_with (go_at_call 147; refine (alone1_any 3 w.heap.size _ _ [_] _ (kinds1 _ _ _) ((hXw2.out.alloc _).kind)).mono ?_)
    rintro e w3 ⟨rfl, hW9⟩
    have hXw3 : Hid (Boxed w3 w.heap.size 3 n s la fa ln lc fn fc 0 ⟨#[]⟩ false) := by rw [hW9]; exact hXw2.out.alloc _
    have hBw3 : Hid (Below w2.heap.size w2 w3) := by rw [hW9]; exact (Below.refl _ _).alloc (Nat.le_refl _) _
    clear hW9
    clear x0 x1 x2 x3 x4 x5 x6 x7
    have hbw3 := hi_ (hbw2.out.trans (hBw3.out.mono hbw2.out.size))
    have hY : w3.heap[w.heap.size]? = some ((O14_ n s la ln lc fa fn fc)) := hXw3.out
    obtain ⟨x0, x1, x2, x3, x4, x5, x6, x7⟩ := c8_ hY
    clear hY
    go_wp2_with fail
    go_ret
    exact ⟨by rw [hv9.out]; rfl, hbw3.out⟩
end Go.Proofs.YtlppklbmdedipaaGreatDoor.Vl
