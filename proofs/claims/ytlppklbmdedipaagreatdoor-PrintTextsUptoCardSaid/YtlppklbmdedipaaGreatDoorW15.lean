/- PrintTexts, part 15. -/
import Derived.Test.YtlppklbmdedipaaGreatDoorW02
import Derived.Test.YtlppklbmdedipaaGreatDoorW14
import Derived.Laws.EntriesVeiled
import Derived.Test.YtlppklbmdedipaaGreatDoorW10
import Derived.Deep.MidRow
import Derived.Test.YtlppklbmdedipaaGreatDoorW13
import Derived.Test.YtlppklbmdedipaaGreatDoorW11
namespace Go.Proofs.YtlppklbmdedipaaGreatDoor.Vl
open Go Go.RowKit
set_option maxHeartbeats 8000000
set_option maxRecDepth 100000
theorem alone_plain (κ n : Int) (s : ByteArray) (la fa : Option Addr) (ln lc fn fc : Nat) (el : Int) (key : ByteArray) (hk : Bool) (F : List Fld) (w : World) (hκ : κ = 3) (hln : ln ≤ 1152921504606846976) (hs : s.size ≤ 140737488355328) (hks : key.size ≤ 140737488355328) (h : FLs w w.heap.size F fa fn) :
  Calls Tryz.prog 121 #[.agg (A11_ κ n s la ln lc fa fn fc el key hk)] w fun e w' => e = .returned (.bool (plainP κ n s ln fn el key hk)) ∧ Below w.heap.size w w' := by
 unfold A11_
 subst hκ
 exact aloneK3_any n s la fa ln lc fn fc el key hk F w hln hs hks h
structure But (p q : Nat) (w w' : World) : Prop where
 os : w'.os = w.os
 tape : w'.tape = w.tape
 output : w'.output = w.output
 size : w.heap.size ≤ w'.heap.size
 block : ∀ k, k < w.heap.size → k ≠ p → k ≠ q → w'.heap[k]? = w.heap[k]?
theorem But.of_below {p q : Nat} {w w' : World} (h : Below w.heap.size w w') : But p q w w' := ⟨h.os, h.tape, h.output, h.size, fun k hk _ _ => h.block k hk⟩
theorem But.of_set {p q : Nat} {w w' : World} {k : Nat} (h : w.grownBy w' (some k)) (hk : k = p ∨ k = q) : But p q w w' := ⟨h.os, h.tape, h.output, h.size, fun j hj h1 h2 => h.block j hj (by rintro e; injection e with e; omega)⟩
theorem But.trans {p q : Nat} {a b c : World} (h : But p q a b) (k : But p q b c) : But p q a c :=
 ⟨k.os.trans h.os, k.tape.trans h.tape, k.output.trans h.output, Nat.le_trans h.size k.size, fun i hi h1 h2 => (k.block i (Nat.lt_of_lt_of_le hi h.size) h1 h2).trans (h.block i hi h1 h2)⟩
theorem But.low {p q B : Nat} {w w' : World} (h : But p q w w') (h1 : B ≤ p) (h2 : B ≤ q) (h3 : B ≤ w.heap.size) : Below B w w' :=
 ⟨h.os, h.tape, h.output, h.size, fun k hk => h.block k (by omega) (by omega) (by omega)⟩
theorem But.cell {p q : Nat} {w w' : World} (h : But p q w w') {a : Addr} (h1 : a.block < w.heap.size) (h2 : a.block ≠ p) (h3 : a.block ≠ q) : w'.cell? a = w.cell? a :=
 World.cell?_of_block (h.block _ h1 h2 h3)
structure Two (w : World) (p q B : Nat) (n : Int) (b : Bool) : Prop where
 n : w.heap[p]? = some (.cells #[.int .i64 n] 3 (0, 0))
 b : w.heap[q]? = some (.cells #[.bool b] 4 (0, 0))
 ne : p ≠ q
 lp : B ≤ p
 lq : B ≤ q
theorem Two.later {w w' : World} {p q B : Nat} {n : Int} {b : Bool} (h : Two w p q B n b) (hb : Below w.heap.size w w') : Two w' p q B n b :=
 ⟨(hb.block _ (Array.getElem?_eq_some_iff.1 h.n).1).trans h.n, (hb.block _ (Array.getElem?_eq_some_iff.1 h.b).1).trans h.b, h.ne, h.lp, h.lq⟩
theorem Two.ltp {w : World} {p q B : Nat} {n : Int} {b : Bool} (h : Two w p q B n b) : p < w.heap.size := (Array.getElem?_eq_some_iff.1 h.n).1
theorem Two.ltq {w : World} {p q B : Nat} {n : Int} {b : Bool} (h : Two w p q B n b) : q < w.heap.size := (Array.getElem?_eq_some_iff.1 h.b).1
theorem Two.cn {w : World} {p q B : Nat} {n : Int} {b : Bool} (h : Two w p q B n b) : w.cell? ⟨p, 0, none⟩ = some (.int .i64 n) := by simp [World.cell?, h.n]
theorem Two.cb {w : World} {p q B : Nat} {n : Int} {b : Bool} (h : Two w p q B n b) : w.cell? ⟨q, 0, none⟩ = some (.bool b) := by simp [World.cell?, h.b]
theorem Two.fn {w : World} {p q B : Nat} {n : Int} {b : Bool} (h : Two w p q B n b) : w.frozen? ⟨p, 0, none⟩ = false := fz_ h.n
theorem Two.fb {w : World} {p q B : Nat} {n : Int} {b : Bool} (h : Two w p q B n b) : w.frozen? ⟨q, 0, none⟩ = false := fz_ h.b
theorem Two.setn {w : World} {p q B : Nat} {n : Int} {b : Bool} (h : Two w p q B n b) (m : Int) : Two (w.setCell ⟨p, 0, none⟩ (.int .i64 m)) p q B m b :=
 ⟨blk_set h.n 0 _, ((cell_grown w p 0 _).block q h.ltq (by intro e; injection e with e; exact h.ne e.symm)).trans h.b, h.ne, h.lp, h.lq⟩
theorem Two.setb {w : World} {p q B : Nat} {n : Int} {b : Bool} (h : Two w p q B n b) (m : Bool) : Two (w.setCell ⟨q, 0, none⟩ (.bool m)) p q B n m :=
 ⟨((cell_grown w q 0 _).block p h.ltp (by intro e; injection e with e; exact h.ne e)).trans h.n, blk_set h.b 0 _, h.ne, h.lp, h.lq⟩
structure Chk (p q B : Nat) (V : Bool) (w : World) (e : Ending) (w' : World) : Prop where
 e : e = .returned (.bool V)
 two : Two w' p q B 1 V
 but : But p q w w'
theorem chk1_any (κ n : Int) (s : ByteArray) (la fa : Option Addr) (ln lc fn fc : Nat) (el : Int) (key : ByteArray) (hk : Bool) (F : List Fld) (p q B : Nat) (w : World) (hκ : κ = 3) (hln : ln ≤ 1152921504606846976) (hs : s.size ≤ 140737488355328) (hks : key.size ≤ 140737488355328) (h2 : Two w p q B 0 true) (h : FLs w B F fa fn) :
  Calls Tryz.prog 120 #[.agg (A11_ κ n s la ln lc fa fn fc el key hk), .int .i64 1, .pointer (some ⟨p, 0, none⟩), .pointer (some ⟨q, 0, none⟩)] w fun e w' => Chk p q B (plainP κ n s ln fn el key hk) w e w' := by
 unfold A11_
 obtain ⟨V, hV⟩ : ∃ V, V = plainP κ n s ln fn el key hk := ⟨_, rfl⟩
 rw [← hV]
 replace hV := hi_ hV
 have hlp := h2.ltp
 have hlq := h2.ltq
 have hB : B ≤ w.heap.size := by have := h2.lp; omega
 have hne := h2.ne
 obtain ⟨S, hS⟩ : ∃ S, S = w.alloc ((O10_ κ n s la ln lc fa fn fc el key hk)) := ⟨_, rfl⟩
 have hbS : Below w.heap.size w S := by rw [hS]; exact (Below.refl _ _).alloc (Nat.le_refl _) _
 have hrS : S.heap[w.heap.size]? = some ((O10_ κ n s la ln lc fa fn fc el key hk)) := by rw [hS]; exact heap_alloc_new w _
 have hzS : S.heap.size = w.heap.size + 1 := by rw [hS]; simp
 obtain ⟨x0, x1, x2, x3, x4, x5, x6, x7⟩ := c8_ hrS
 have hWS : Hid (S = _) := hS
 replace hrS := hi_ hrS
 clear hS
 have h2S := h2.later (hbS.mono (Nat.le_refl _))
 have c0 := h2S.cn
 have f0 := h2S.fn
 obtain ⟨W1, hW1⟩ : ∃ W1, W1 = S.setCell ⟨p, 0, none⟩ (.int .i64 1) := ⟨_, rfl⟩
 have hz1 : W1.heap.size = S.heap.size := by rw [hW1]; simp
 have h21 : Two W1 p q B 1 true := by rw [hW1]; exact h2S.setn 1
 have hs1 : But p q S W1 := .of_set (k := p) (by rw [hW1]; exact cell_grown _ _ _ _) (.inl rfl)
 have hb1 : But p q w W1 := (But.of_below hbS).trans hs1
 have hF1 : FLs W1 W1.heap.size F fa fn := (h.kept (hb1.low h2.lp h2.lq hB)).mono (by have := hb1.size; omega)
 have x0' := (hs1.cell (a := ⟨w.heap.size, 0, none⟩) (by show w.heap.size < _; omega) (by show w.heap.size ≠ _; omega) (by show w.heap.size ≠ _; omega)).trans x0
 have x1' := (hs1.cell (a := ⟨w.heap.size, 1, none⟩) (by show w.heap.size < _; omega) (by show w.heap.size ≠ _; omega) (by show w.heap.size ≠ _; omega)).trans x1
 have x2' := (hs1.cell (a := ⟨w.heap.size, 2, none⟩) (by show w.heap.size < _; omega) (by show w.heap.size ≠ _; omega) (by show w.heap.size ≠ _; omega)).trans x2
 have x3' := (hs1.cell (a := ⟨w.heap.size, 3, none⟩) (by show w.heap.size < _; omega) (by show w.heap.size ≠ _; omega) (by show w.heap.size ≠ _; omega)).trans x3
 have x4' := (hs1.cell (a := ⟨w.heap.size, 4, none⟩) (by show w.heap.size < _; omega) (by show w.heap.size ≠ _; omega) (by show w.heap.size ≠ _; omega)).trans x4
 have x5' := (hs1.cell (a := ⟨w.heap.size, 5, none⟩) (by show w.heap.size < _; omega) (by show w.heap.size ≠ _; omega) (by show w.heap.size ≠ _; omega)).trans x5
 have x6' := (hs1.cell (a := ⟨w.heap.size, 6, none⟩) (by show w.heap.size < _; omega) (by show w.heap.size ≠ _; omega) (by show w.heap.size ≠ _; omega)).trans x6
 have x7' := (hs1.cell (a := ⟨w.heap.size, 7, none⟩) (by show w.heap.size < _; omega) (by show w.heap.size ≠ _; omega) (by show w.heap.size ≠ _; omega)).trans x7
 clear x0 x1 x2 x3 x4 x5 x6 x7
 have cA := alone_plain κ n s la fa ln lc fn fc el key hk F W1 hκ hln hs hks hF1
 rw [← hV.out] at cA
 replace cA := hi_ cA
 clear hF1 hκ h hs hks hln
 replace h21 := hi_ h21
 replace hb1 := hi_ hb1
 replace hs1 := hi_ hs1
 replace h2S := hi_ h2S
 replace h2 := hi_ h2
 replace hW1 := hi_ hW1
 go_enter Tryz.func120, Tryz.ntmps120
 go_wp2_with (first | (rw [← hWS.out]) | (rw [← hW1.out]) | (go_at_call 121; refine cA.out.mono ?_))
 first | rintro e w3 rfl hb3 | rintro e w3 ⟨rfl, hb3⟩
 have h23 := h21.out.later hb3
 have d0 := h23.cn
 have d1 := h23.cb
 have g1 := h23.fb
 have h24 : Hid (Two (w3.setCell ⟨q, 0, none⟩ (.bool V)) p q B 1 V) := h23.setb V
 have hb4 : Hid (But p q w (w3.setCell ⟨q, 0, none⟩ (.bool V))) := (hb1.out.trans (But.of_below hb3)).trans (.of_set (k := q) (cell_grown _ _ _ _) (.inr rfl))
 replace h23 := hi_ h23
 clear c0 f0
 replace hb3 := hi_ hb3
 clear x0' x1' x2' x3' x4' x5' x6' x7'
 have k0 := h24.out.cb
 cases V
 ·go_wp2_with fail
  go_ret
  exact ⟨rfl, h24.out, hb4.out⟩
 ·go_wp2_with fail
  go_ret
  exact ⟨rfl, h24.out, hb4.out⟩
theorem each1_any (κ n : Int) (s : ByteArray) (la fa : Option Addr) (ln lc fn fc : Nat) (el : Int) (key : ByteArray) (hk : Bool) (F : List Fld) (p q B d g : Nat) (w : World) (hκ : κ = 3) (hln : ln ≤ 1152921504606846976) (hs : s.size ≤ 140737488355328) (hks : key.size ≤ 140737488355328) (h2 : Two w p q B 0 true) (h : FLs w B F fa fn) (hd : w.cell? ⟨d, 0, none⟩ = some (.func (.func 120) #[] #[.pointer (some ⟨p, 0, none⟩), .pointer (some ⟨q, 0, none⟩)])) (hdl : d < w.heap.size) :
  Calls Tryz.prog 144 #[.agg (A11_ κ n s la ln lc fa fn fc el key hk), .int .i64 1, .pointer (some ⟨d, 0, none⟩), .pointer (some ⟨g, 0, none⟩)] w fun e w' => Chk p q B (plainP κ n s ln fn el key hk) w e w' := by
 unfold A11_
 have hlp := h2.ltp
 have hlq := h2.ltq
 have hB : B ≤ w.heap.size := by have := h2.lp; omega
 obtain ⟨S, hS⟩ : ∃ S, S = w.alloc ((O10_ κ n s la ln lc fa fn fc el key hk)) := ⟨_, rfl⟩
 have hbS : Below w.heap.size w S := by rw [hS]; exact (Below.refl _ _).alloc (Nat.le_refl _) _
 have hrS : S.heap[w.heap.size]? = some ((O10_ κ n s la ln lc fa fn fc el key hk)) := by rw [hS]; exact heap_alloc_new w _
 have hzS : S.heap.size = w.heap.size + 1 := by rw [hS]; simp
 obtain ⟨x0, x1, x2, x3, x4, x5, x6, x7⟩ := c8_ hrS
 have hWS : Hid (S = _) := hS
 replace hrS := hi_ hrS
 clear hS
 have h2S := h2.later (hbS.mono (Nat.le_refl _))
 have hdS := (hbS.cell (p := ⟨d, 0, none⟩) hdl).trans hd
 have hFS : FLs S B F fa fn := h.kept (hbS.mono hB)
 have cA := chk1_any κ n s la fa ln lc fn fc el key hk F p q B S hκ hln hs hks h2S hFS
 obtain ⟨V, hV⟩ : ∃ V, V = plainP κ n s ln fn el key hk := ⟨_, rfl⟩
 rw [← hV] at cA ⊢
 replace cA := hi_ cA
 replace hV := hi_ hV
 clear hFS hκ h hs hks hd hln
 replace h2S := hi_ h2S
 replace h2 := hi_ h2
 go_enter Tryz.func144, Tryz.ntmps144
 go_wp2_with (first | (rw [← hWS.out]) | (go_at_call 120; refine cA.out.mono ?_))
 rintro e w3 ⟨rfl, h23, hb3⟩
 have hb4 : Hid (But p q w w3) := (But.of_below hbS).trans hb3
 cases V
 ·clear x0 x1 x2 x3 x4 x5 x6 x7
  go_wp2_with fail
  go_ret
  exact ⟨rfl, h23, hb4.out⟩
 ·obtain ⟨rfl, rfl⟩ := plain_empty hV.out.symm
  have y3 := (hb3.cell (a := ⟨w.heap.size, 3, none⟩) (by show w.heap.size < _; omega) (by show w.heap.size ≠ _; omega) (by show w.heap.size ≠ _; omega)).trans x3
  have y4 := (hb3.cell (a := ⟨w.heap.size, 4, none⟩) (by show w.heap.size < _; omega) (by show w.heap.size ≠ _; omega) (by show w.heap.size ≠ _; omega)).trans x4
  clear x0 x1 x2 x3 x4 x5 x6 x7
  replace h23 := hi_ h23
  replace hb3 := hi_ hb3
  go_wp2_with fail
  go_loopw [19] (fun i wr => i = .int .i64 0 ∧ wr = w3) (fun _ _ => 0)
  case atStart => exact ⟨rfl, rfl⟩
  case round =>
   obtain ⟨rfl, rfl⟩ := hrel
   go_wp2_with fail
   go_loopw [33] (fun i wr' => i = .int .i64 0 ∧ wr' = wr) (fun _ _ => 0)
   case atStart => exact ⟨rfl, rfl⟩
   case round =>
    obtain ⟨rfl, rfl⟩ := hrel
    go_wp2_with fail
    go_ret
    exact ⟨rfl, h23.out, hb4.out⟩
theorem each_any (κ n : Int) (s : ByteArray) (la fa : Option Addr) (ln lc fn fc : Nat) (el : Int) (key : ByteArray) (hk : Bool) (F : List Fld) (p q B : Nat) (w : World) (hκ : κ = 3) (hln : ln ≤ 1152921504606846976) (hs : s.size ≤ 140737488355328) (hks : key.size ≤ 140737488355328) (h2 : Two w p q B 0 true) (h : FLs w B F fa fn) :
  Calls Tryz.prog 119 #[.agg (A11_ κ n s la ln lc fa fn fc el key hk), (.func (.func 120) #[] #[.pointer (some ⟨p, 0, none⟩), .pointer (some ⟨q, 0, none⟩)])] w fun e w' => Chk p q B (plainP κ n s ln fn el key hk) w (.returned (.bool (plainP κ n s ln fn el key hk))) w' ∧ e = .returned (.tuple #[]) := by
 unfold A11_
 have hlp := h2.ltp
 have hlq := h2.ltq
 have hB : B ≤ w.heap.size := by have := h2.lp; omega
 obtain ⟨S, hS⟩ : ∃ S, S = w.alloc ((O10_ κ n s la ln lc fa fn fc el key hk)) := ⟨_, rfl⟩
 have hbS : Below w.heap.size w S := by rw [hS]; exact (Below.refl _ _).alloc (Nat.le_refl _) _
 have hrS : S.heap[w.heap.size]? = some ((O10_ κ n s la ln lc fa fn fc el key hk)) := by rw [hS]; exact heap_alloc_new w _
 have hzS : S.heap.size = w.heap.size + 1 := by rw [hS]; simp
 obtain ⟨x0, x1, x2, x3, x4, x5, x6, x7⟩ := c8_ hrS
 have hWS : Hid (S = _) := hS
 replace hrS := hi_ hrS
 clear hS
 obtain ⟨S2, hS2⟩ : ∃ S2, S2 = S.alloc (.cells #[(.func (.func 120) #[] #[.pointer (some ⟨p, 0, none⟩), .pointer (some ⟨q, 0, none⟩)])] 162) := ⟨_, rfl⟩
 have hb2 : Below w.heap.size w S2 := by rw [hS2]; exact hbS.alloc (by omega) _
 have hz2 : S2.heap.size = w.heap.size + 1 + 1 := by rw [hS2]; simp [hzS]
 have hr2 : S2.heap[w.heap.size + 1]? = some (.cells #[(.func (.func 120) #[] #[.pointer (some ⟨p, 0, none⟩), .pointer (some ⟨q, 0, none⟩)])] 162 (0, 0)) := by rw [hS2, ← hzS]; exact heap_alloc_new S _
 have hq2 : S2.heap[w.heap.size]? = S.heap[w.heap.size]? := by rw [hS2]; exact Lib.alloc_old S _ _ (by omega)
 have y0 : S2.cell? ⟨w.heap.size, 0, none⟩ = some (.int .u8 κ) := (World.cell?_of_block (a := ⟨w.heap.size, 0, none⟩) hq2).trans x0
 have y1 : S2.cell? ⟨w.heap.size, 1, none⟩ = some (.int .i64 n) := (World.cell?_of_block (a := ⟨w.heap.size, 1, none⟩) hq2).trans x1
 have y2 : S2.cell? ⟨w.heap.size, 2, none⟩ = some (.string s) := (World.cell?_of_block (a := ⟨w.heap.size, 2, none⟩) hq2).trans x2
 have y3 : S2.cell? ⟨w.heap.size, 3, none⟩ = some (.slice la ln lc) := (World.cell?_of_block (a := ⟨w.heap.size, 3, none⟩) hq2).trans x3
 have y4 : S2.cell? ⟨w.heap.size, 4, none⟩ = some (.slice fa fn fc) := (World.cell?_of_block (a := ⟨w.heap.size, 4, none⟩) hq2).trans x4
 have y5 : S2.cell? ⟨w.heap.size, 5, none⟩ = some (.int .u8 el) := (World.cell?_of_block (a := ⟨w.heap.size, 5, none⟩) hq2).trans x5
 have y6 : S2.cell? ⟨w.heap.size, 6, none⟩ = some (.string key) := (World.cell?_of_block (a := ⟨w.heap.size, 6, none⟩) hq2).trans x6
 have y7 : S2.cell? ⟨w.heap.size, 7, none⟩ = some (.bool hk) := (World.cell?_of_block (a := ⟨w.heap.size, 7, none⟩) hq2).trans x7
 clear x0 x1 x2 x3 x4 x5 x6 x7
 obtain ⟨S3, hS3⟩ : ∃ S3, S3 = S2.alloc (.cells #[.nilFunc] 162) := ⟨_, rfl⟩
 have hb3 : Below w.heap.size w S3 := by rw [hS3]; exact hb2.alloc (by omega) _
 have hb23 : Below S2.heap.size S2 S3 := by rw [hS3]; exact (Below.refl _ _).alloc (by omega) _
 have hz3 : S3.heap.size = w.heap.size + 1 + 1 + 1 := by rw [hS3]; simp [hz2]
 have hr3 : S3.heap[w.heap.size + 1 + 1]? = some (.cells #[.nilFunc] 162 (0, 0)) := by rw [hS3, ← hz2]; exact heap_alloc_new S2 _
 have f3 : S3.frozen? ⟨w.heap.size + 1 + 1, 0, none⟩ = false := fz_ hr3
 have c3 : S3.cell? ⟨w.heap.size + 1 + 1, 0, none⟩ = some .nilFunc := by simp [World.cell?, hr3]
 obtain ⟨S4, hS4⟩ : ∃ S4, S4 = S3.setCell ⟨w.heap.size + 1 + 1, 0, none⟩ (.func (.func 144) #[] #[.pointer (some ⟨w.heap.size + 1, 0, none⟩), .pointer (some ⟨w.heap.size + 1 + 1, 0, none⟩)]) := ⟨_, rfl⟩
 have hg4 : S3.grownBy S4 (some (w.heap.size + 1 + 1)) := by rw [hS4]; exact cell_grown _ _ _ _
 have hz4 : S4.heap.size = w.heap.size + 1 + 1 + 1 := by rw [hS4]; simp [hz3]
 have hb4 : Below w.heap.size w S4 := hb3.grown hg4 (by omega) (fun q hq => by injection hq with hq; omega)
 have hb24 : Below S2.heap.size S2 S4 := hb23.grown hg4 (by omega) (fun q hq => by injection hq with hq; omega)
 have hr4 : S4.heap[w.heap.size + 1 + 1]? = some (.cells #[(.func (.func 144) #[] #[.pointer (some ⟨w.heap.size + 1, 0, none⟩), .pointer (some ⟨w.heap.size + 1 + 1, 0, none⟩)])] 162 (0, 0)) := by rw [hS4]; exact blk_set hr3 0 _
 have d4 := c1_ hr4
 have d3 : S4.cell? ⟨w.heap.size + 1, 0, none⟩ = some (.func (.func 120) #[] #[.pointer (some ⟨p, 0, none⟩), .pointer (some ⟨q, 0, none⟩)]) := (hb24.cell (p := ⟨w.heap.size + 1, 0, none⟩) (by show w.heap.size + 1 < _; omega)).trans (by simp [World.cell?, hr2])
 have x0 := Bc_ hb24 (by omega) y0
 have x1 := Bc_ hb24 (by omega) y1
 have x2 := Bc_ hb24 (by omega) y2
 have x3 := Bc_ hb24 (by omega) y3
 have x4 := Bc_ hb24 (by omega) y4
 have x5 := Bc_ hb24 (by omega) y5
 have x6 := Bc_ hb24 (by omega) y6
 have x7 := Bc_ hb24 (by omega) y7
 clear y0 y1 y2 y3 y4 y5 y6 y7
 have cE := each1_any κ n s la fa ln lc fn fc el key hk F p q B (w.heap.size + 1) (w.heap.size + 1 + 1) S4 hκ hln hs hks (h2.later hb4) (h.kept (hb4.mono hB)) d3 (by omega)
 obtain ⟨V, hV⟩ : ∃ V, V = plainP κ n s ln fn el key hk := ⟨_, rfl⟩
 rw [← hV] at cE ⊢
 replace cE := hi_ cE
 replace hV := hi_ hV
 replace hS2 := hi_ hS2
 replace hS3 := hi_ hS3
 replace hS4 := hi_ hS4
 replace hb4 := hi_ hb4
 replace h2 := hi_ h2
 clear hκ h hs hks hln hr4 hr3 hq2 hr2 hg4 hb24 hb23 hb3 hb2
 go_enter Tryz.func119, Tryz.ntmps119
 go_wp2_with (first | (rw [← hWS.out]) | (rw [← hS2.out]) | (rw [← hS3.out]) | (rw [← hS4.out]) | (go_at_call 144; refine cE.out.mono ?_))
 rintro e w3 ⟨rfl, h23, hb5⟩
 go_wp2_with fail
 exact bodyPost_end (v := .tuple #[]) (results_none (by kernel_rfl) _ _ _) rfl ⟨⟨rfl, h23, (But.of_below hb4.out).trans hb5⟩, rfl⟩
theorem valCheck_any (κ n : Int) (s : ByteArray) (la fa : Option Addr) (ln lc fn fc : Nat) (el : Int) (key : ByteArray) (hk : Bool) (F : List Fld) (w : World) (hκ : κ = 3) (hln : ln ≤ 1152921504606846976) (hs : s.size ≤ 140737488355328) (hks : key.size ≤ 140737488355328) (h : FLs w w.heap.size F fa fn) :
  Calls Tryz.prog 89 #[.agg (A11_ κ n s la ln lc fa fn fc el key hk)] w fun e w' => e = .returned (.bool (plainP κ n s ln fn el key hk)) ∧ Below w.heap.size w w' := by
 unfold A11_
 obtain ⟨S, hS⟩ : ∃ S, S = w.alloc ((O10_ κ n s la ln lc fa fn fc el key hk)) := ⟨_, rfl⟩
 have hbS : Below w.heap.size w S := by rw [hS]; exact (Below.refl _ _).alloc (Nat.le_refl _) _
 have hrS : S.heap[w.heap.size]? = some ((O10_ κ n s la ln lc fa fn fc el key hk)) := by rw [hS]; exact heap_alloc_new w _
 have hzS : S.heap.size = w.heap.size + 1 := by rw [hS]; simp
 obtain ⟨x0, x1, x2, x3, x4, x5, x6, x7⟩ := c8_ hrS
 have hWS : Hid (S = _) := hS
 replace hrS := hi_ hrS
 clear hS
 obtain ⟨S2, hS2⟩ : ∃ S2, S2 = S.alloc (.cells #[.int .i64 0] 3) := ⟨_, rfl⟩
 obtain ⟨S5, hS5⟩ : ∃ S5, S5 = S2.alloc (.cells #[.bool false] 4) := ⟨_, rfl⟩
 have hb2 : Below S.heap.size S S2 := by rw [hS2]; exact (Below.refl _ _).alloc (by omega) _
 have hz2 : S2.heap.size = w.heap.size + 1 + 1 := by rw [hS2]; simp [hzS]
 have hr2 : S2.heap[w.heap.size + 1]? = some (.cells #[.int .i64 0] 3 (0, 0)) := by rw [hS2, ← hzS]; exact heap_alloc_new S _
 have hb5 : Below S2.heap.size S2 S5 := by rw [hS5]; exact (Below.refl _ _).alloc (by omega) _
 have hz5 : S5.heap.size = w.heap.size + 1 + 1 + 1 := by rw [hS5]; simp [hz2]
 have hr5 : S5.heap[w.heap.size + 1 + 1]? = some (.cells #[.bool false] 4 (0, 0)) := by rw [hS5, ← hz2]; exact heap_alloc_new S2 _
 have hS32 : Below S.heap.size S S5 := hb2.trans (hb5.mono (by omega))
 have h5 : Two S5 (w.heap.size + 1) (w.heap.size + 1 + 1) w.heap.size 0 false := ⟨(hb5.block _ (by omega)).trans hr2, hr5, by omega, by omega, by omega⟩
 obtain ⟨S6, hS6⟩ : ∃ S6, S6 = S5.setCell ⟨w.heap.size + 1, 0, none⟩ (.int .i64 0) := ⟨_, rfl⟩
 have h6 : Two S6 (w.heap.size + 1) (w.heap.size + 1 + 1) w.heap.size 0 false := by rw [hS6]; exact h5.setn 0
 have hB6 : Below S.heap.size S S6 := hS32.grown (row := some (w.heap.size + 1)) (by rw [hS6]; exact cell_grown _ _ _ _) (by omega) (fun q hq => by injection hq with hq; omega)
 obtain ⟨S3, hS3⟩ : ∃ S3, S3 = S6.setCell ⟨w.heap.size + 1 + 1, 0, none⟩ (.bool true) := ⟨_, rfl⟩
 have hz6 : S6.heap.size = S5.heap.size := by rw [hS6]; simp
 have hB3 : Below S.heap.size S S3 := hB6.grown (row := some (w.heap.size + 1 + 1)) (by rw [hS3]; exact cell_grown _ _ _ _) (by omega) (fun q hq => by injection hq with hq; omega)
 have h2 : Two S3 (w.heap.size + 1) (w.heap.size + 1 + 1) w.heap.size 0 true := by rw [hS3]; exact h6.setb true
 have c5 := h5.cn
 have f5 := h5.fn
 have c6 := h6.cb
 have f6 := h6.fb
 have hb4 : Below w.heap.size w S3 := hbS.trans (hB3.mono (by omega))
 have y0 := Bc_ hB3 (by omega) x0
 have y1 := Bc_ hB3 (by omega) x1
 have y2 := Bc_ hB3 (by omega) x2
 have y3 := Bc_ hB3 (by omega) x3
 have y4 := Bc_ hB3 (by omega) x4
 have y5 := Bc_ hB3 (by omega) x5
 have y6 := Bc_ hB3 (by omega) x6
 have y7 := Bc_ hB3 (by omega) x7
 clear x0 x1 x2 x3 x4 x5 x6 x7
 have cE := each_any κ n s la fa ln lc fn fc el key hk F (w.heap.size + 1) (w.heap.size + 1 + 1) w.heap.size S3 hκ hln hs hks h2 (h.kept hb4)
 obtain ⟨V, hV⟩ : ∃ V, V = plainP κ n s ln fn el key hk := ⟨_, rfl⟩
 rw [← hV] at cE ⊢
 replace cE := hi_ cE
 replace hV := hi_ hV
 replace hS2 := hi_ hS2
 replace hS3 := hi_ hS3
 replace hb4 := hi_ hb4
 replace h2 := hi_ h2
 replace hS5 := hi_ hS5
 replace hS6 := hi_ hS6
 clear hκ h hs hks hln hr5 hr2 hb5 hb2 hS32 h5 h6 hB6 hB3
 go_enter Tryz.func89, Tryz.ntmps89
 go_wp2_with (first | (rw [← hWS.out]) | (rw [← hS2.out]) | (rw [← hS5.out]) | (rw [← hS6.out]) | (rw [← hS3.out]) | (go_at_call 119; refine cE.out.mono ?_))
 first | rintro e w3 hc rfl | rintro e w3 ⟨hc, rfl⟩
 have d1 := hc.two.cb
 have hb5 : Hid (Below w.heap.size w w3) := hb4.out.trans (hc.but.low (Nat.le_succ _) (by omega) hb4.out.size)
 replace hc := hi_ hc
 go_wp2_with fail
 go_ret
 exact ⟨rfl, hb5.out⟩
theorem valText_any (κ n : Int) (s : ByteArray) (la fa : Option Addr) (ln lc fn fc : Nat) (el : Int) (key : ByteArray) (hk : Bool) (F : List Fld) (w : World) (hE : Env w) (h : FLs w w.heap.size F fa fn) (hκ : κ = 3) (hn : (Lit.int .i64 n).wf = true) (hp : plainP κ n s ln fn el key hk = true) (hs : s.size ≤ 4096) :
  Calls Tryz.prog 59 #[.agg (A11_ κ n s la ln lc fa fn fc el key hk)] w fun e w' => e = .returned (.string (bs (vP κ n s))) ∧ Below w.heap.size w w' := by
 unfold A11_
 replace hκ := hi_ hκ
 have hz := plain_empty hp
 obtain ⟨z, hzz⟩ : ∃ z, z = vP κ n s := ⟨_, rfl⟩
 rw [← hzz]
 replace hzz := hi_ hzz
 have hks : key.size ≤ 140737488355328 := by
  have hp2 := hp
  unfold plainP restB at hp2
  simp only [Bool.and_eq_true, decide_eq_true_eq] at hp2
  omega
 obtain ⟨S, hS⟩ : ∃ S, S = w.alloc ((O10_ κ n s la ln lc fa fn fc el key hk)) := ⟨_, rfl⟩
 have hbS : Below w.heap.size w S := by rw [hS]; exact (Below.refl _ _).alloc (Nat.le_refl _) _
 have hrS : S.heap[w.heap.size]? = some ((O10_ κ n s la ln lc fa fn fc el key hk)) := by rw [hS]; exact heap_alloc_new w _
 have hzS : S.heap.size = w.heap.size + 1 := by rw [hS]; simp
 obtain ⟨x0, x1, x2, x3, x4, x5, x6, x7⟩ := c8_ hrS
 have hWS : Hid (S = _) := hS
 replace hrS := hi_ hrS
 clear hS
 have cC := valCheck_any κ n s la fa ln lc fn fc el key hk F S hκ.out (by omega) (by omega) hks (h.later hbS)
 rw [hp] at cC
 have hES : Env S := hE.kept hbS
 clear hz
 replace h := hi_ h
 replace cC := hi_ cC
 replace hbS := hi_ hbS
 replace hES := hi_ hES
 go_enter Tryz.func59, Tryz.ntmps59
 go_wp2_with (first | (rw [← hWS.out]) | (go_at_call 89; refine cC.out.mono ?_))
 first | rintro e w3 rfl hb3 | rintro e w3 ⟨rfl, hb3⟩
 have hz3 := hb3.size
 have y0 := Bc_ hb3 (by omega) x0
 have y1 := Bc_ hb3 (by omega) x1
 have y2 := Bc_ hb3 (by omega) x2
 have y3 := Bc_ hb3 (by omega) x3
 have y4 := Bc_ hb3 (by omega) x4
 have y5 := Bc_ hb3 (by omega) x5
 have y6 := Bc_ hb3 (by omega) x6
 have y7 := Bc_ hb3 (by omega) x7
 clear x0 x1 x2 x3 x4 x5 x6 x7
 obtain ⟨S4, hS4⟩ : ∃ S4, S4 = w3.alloc (.cells #[.pointer none, .slice none 0 0] 134) := ⟨_, rfl⟩
 have hb4 : Below w3.heap.size w3 S4 := by rw [hS4]; exact (Below.refl _ _).alloc (Nat.le_refl _) _
 have hz4 : S4.heap.size = w3.heap.size + 1 := by rw [hS4]; simp
 have hB4 : Bat 134 w3.heap.size (.slice none 0 0) (Lib.byteCells []) S4 := by rw [hS4]; exact Bat.new w3
 have x0 := Bc_ hb4 (by omega) y0
 have x1 := Bc_ hb4 (by omega) y1
 have x2 := Bc_ hb4 (by omega) y2
 have x3 := Bc_ hb4 (by omega) y3
 have x4 := Bc_ hb4 (by omega) y4
 have x5 := Bc_ hb4 (by omega) y5
 have x6 := Bc_ hb4 (by omega) y6
 have x7 := Bc_ hb4 (by omega) y7
 clear y0 y1 y2 y3 y4 y5 y6 y7
 have hE4 : Env S4 := (hES.out.kept hb3).kept hb4
 have hlow : Hid (Below w.heap.size w S4) := (hbS.out.trans (hb3.mono (by omega))).trans (hb4.mono (by omega))
 have cT := tell_any w3.heap.size (.slice none 0 0) [] κ n s la fa ln lc fn fc el key hk S4 hB4 hE4 hκ.out hn hp (by simp; omega)
 replace cT := hi_ cT
 replace hB4 := hi_ hB4
 replace hE4 := hi_ hE4
 replace hb3 := hi_ hb3
 replace hb4 := hi_ hb4
 replace hS4 := hi_ hS4
 have hz3' := hi_ hz3
 have hz4' := hi_ hz4
 have hzS' := hi_ hzS
 clear hz3 hz4 hzS
 go_wp2_with (first | (rw [← hS4.out]) | (go_at_call 90; refine cT.out.mono ?_))
 rintro e w5 ⟨rfl, v5, hB5, hT5⟩
 have hlow5 : Below w.heap.size w w5 := hlow.out.trans (hT5.low (by have := hz3'.out; have := hzS'.out; omega) (fun k hk => by cases hk) hlow.out.size)
 have hhigh : ∀ k, v5.ownBlock = some k → w.heap.size ≤ k := hT5.high (fun k hk => by cases hk) hlow.out.size
 rw [List.nil_append, ← hzz.out] at hB5
 have cS := text_any 134 w3.heap.size w.heap.size v5 z w5 hB5 hhigh
 replace cS := hi_ cS
 replace hlow5 := hi_ hlow5
 clear hB5 hT5 hhigh x0 x1 x2 x3 x4 x5 x6 x7
 go_wp2_with (go_at_call 15; refine cS.out.mono ?_)
 first | rintro e w6 rfl hb6 | rintro e w6 ⟨rfl, hb6⟩
 have hlow6 := hi_ (hlow5.out.trans hb6)
 clear hb6
 go_wp2_with fail
 go_ret
 exact ⟨rfl, hlow6.out⟩
end Go.Proofs.YtlppklbmdedipaaGreatDoor.Vl

namespace Go.Proofs.YtlppklbmdedipaaGreatDoor
open Go Go.RowKit
set_option maxHeartbeats 8000000
set_option maxRecDepth 100000
theorem setRow_grown (w : World) (g : Nat) (cs : Array Value) : w.grownBy (w.setRow g cs) (some g) := ⟨rfl, rfl, rfl, by simp, fun k _ hk => setRow_other w g k cs (fun e => hk (by rw [e]))⟩
theorem Kit.row {w0 : World} {B : Nat} {T : TypeId} {b : Nat} {C : Value → Array Value → Prop} {l : List UInt8} {bx : Bx} {w : World} {k : Nat} {cs : Array Value} {t : TypeId} (h : Kit w0 B T b C l ((k, .cells cs t (0, 0)) :: bx) w) (u : Array Value) : Kit w0 B T b C l ((k, .cells u t (0, 0)) :: bx) (w.setRow k u) := by
 have hg := setRow_grown w k u
 obtain ⟨hkl, hkB⟩ := h.boxlt M0_
 have hlt := h.lt
 have hsz := h.size
 have hpw := h.pw
 obtain ⟨v, cs1, h1, h2, h3, h4, h5⟩ := h.ex
 obtain ⟨g1, g2, g3, g4, g5⟩ := h5 _ M0_
 refine ⟨⟨v, cs1, h1, (hg.block b hlt (fun e => by injection e with e; exact g3 e.symm)).trans h2, h3.kept hg (.inr fun e => g4 e.symm), h4, fun x hx => ?_⟩, ?_, h.le, h.low.grown hg hsz (fun q hq => by injection hq with hq; omega), h.sz, h.env, h.und⟩
 ·rcases List.mem_cons.1 hx with rfl | hx
  ·exact ⟨by simpa using g1, g2, g3, g4, setRow_heap w k cs u t (0, 0) g5⟩
  ·obtain ⟨f1, f2, f3, f4, f5⟩ := h5 x (List.mem_cons_of_mem _ hx)
   refine ⟨by simpa using f1, f2, f3, f4, (hg.block _ f1 (fun e => ?_)).trans f5⟩
   injection e with e
   exact (List.pairwise_cons.1 hpw).1 x hx e.symm
 ·rw [List.pairwise_cons] at hpw ⊢
  exact ⟨fun x hx => hpw.1 x hx, hpw.2⟩
theorem row_load {W : World} {g : Nat} {T : TypeId} {cs : Array Value} {d : TypeDesc} {fr : Nat × Nat} (hg : W.heap[g]? = some (.cells cs T fr)) (hu : Tryz.prog.underlying T = some d) (hd : d.isRow = true) (hi : (Tryz.prog.info? T).map (·.size) = some cs.size) :
  (Instr.loadAt T (.pointer (some ⟨g, 0, none⟩))).run Tryz.prog W = .ok (.agg cs) W := by
 have := run_loadAt_mid W g 0 T cs.toList d (fun j x hx => by
  rw [Nat.zero_add]
  simpa [World.cell?, hg] using hx) hu hd (by simpa using hi)
 simpa using this
theorem row_store {W : World} {g : Nat} {T : TypeId} {old cs : Array Value} (hg : W.heap[g]? = some (.cells old T (0, 0))) (hi : (Tryz.prog.info? T).map (·.size) = some cs.size) (ho : old.size = cs.size) (h1 : cs.all (·.oneCell') = true) :
  (Instr.storeAt T (.pointer (some ⟨g, 0, none⟩)) (.agg cs)).run Tryz.prog W = .ok () (W.setRow g cs) := by
 simp only [Instr.storeAt, Instr.sureAddr, Sem.run_bind, Sem.run_pure, Result.andThen_ok, run_storeVar_row W g T T old cs hg hi ho h1]
theorem ld_arm {ops : Array Oper} {rest : List Oper} {op : Oper} {a : Act} {w : World} {Q : Exit → Act → World → Prop} {T : TypeId} {p : Option Addr} {v : Value} (hl : (Instr.loadAt T (.pointer p)).run Tryz.prog w = .ok v w)
  (hgd : op.guard = none) (x : Operand) (ho : op.op = .load T x) (hx : a.eval x = .pointer p) (h : wpList Tryz.prog ops Q rest (a.put op.dst v) w) : wpList Tryz.prog ops Q (op :: rest) a w :=
 wpList_plain hgd fun K hK => by
  unfold Oper.wp execOp
  simp only [ho, hx, Sem.run_bind, hl, Result.andThen_ok, Sem.run_pure]
  exact hK _ _ h
theorem st_arm {ops : Array Oper} {rest : List Oper} {op : Oper} {a : Act} {w w' : World} {Q : Exit → Act → World → Prop} {T : TypeId} {p : Option Addr} {v : Value} (hs : (Instr.storeAt T (.pointer p) v).run Tryz.prog w = .ok () w')
  (hgd : op.guard = none) (x y : Operand) (ho : op.op = .store T x y) (hx : a.eval x = .pointer p) (hy : a.eval y = v) (h : wpList Tryz.prog ops Q rest (a.put op.dst undef) w') : wpList Tryz.prog ops Q (op :: rest) a w :=
 wpList_plain hgd fun K hK => by
  unfold Oper.wp execOp
  simp only [ho, hx, hy, Sem.run_bind, hs, Result.andThen_ok, Sem.run_pure]
  exact hK _ _ h
theorem sizeEx_info : (Tryz.prog.info? 50).map (·.size) = some 10 := by kernel_rfl
def QEx.arr (q : QEx) (v : Ex) : Array Value := #[.int .u8 v.kind, .int .i64 v.n, .string v.s, .slice q.argsa q.argsn q.argsc, .slice q.namesa q.namesn q.namesc, .slice q.valsa q.valsn q.valsc, .int .u8 v.elem, .slice q.keya q.keyn q.keyc, .slice q.actsa q.actsn q.actsc, .string v.site]
theorem QEx.one (q : QEx) (v : Ex) : (q.arr v).all (·.oneCell') = true := by simp [QEx.arr, Value.oneCell']
theorem Ex_load {W : World} {b o : Nat} {v : Ex} {q : QEx} (h : ∀ j, j < 10 → W.cell? ⟨b, o + j, none⟩ = (q.cells v)[j]?) : (Instr.loadAt 50 (.pointer (some ⟨b, o, none⟩))).run Tryz.prog W = .ok (.agg (q.arr v)) W :=
 run_loadAt_mid W b o 50 (q.cells v) _ (fun j x hx => by
  have hj : j < 10 := (List.getElem?_eq_some_iff.1 hx).1
  rw [h j hj]; exact hx) Tryz.underlying50 rfl sizeEx_info
theorem sizeAc_info : (Tryz.prog.info? 101).map (·.size) = some 12 := by kernel_rfl
def QAc.arr (q : QAc) (v : Ac) : Array Value := #[.int .u8 v.kind, .string v.name, .int .u8 v.expr.kind, .int .i64 v.expr.n, .string v.expr.s, .slice q.expr.argsa q.expr.argsn q.expr.argsc, .slice q.expr.namesa q.expr.namesn q.expr.namesc, .slice q.expr.valsa q.expr.valsn q.expr.valsc, .int .u8 v.expr.elem, .slice q.expr.keya q.expr.keyn q.expr.keyc, .slice q.expr.actsa q.expr.actsn q.expr.actsc, .string v.expr.site]
theorem QAc.one (q : QAc) (v : Ac) : (q.arr v).all (·.oneCell') = true := by simp [QAc.arr, Value.oneCell']
theorem Ac_load {W : World} {b o : Nat} {v : Ac} {q : QAc} (h : ∀ j, j < 12 → W.cell? ⟨b, o + j, none⟩ = (q.cells v)[j]?) : (Instr.loadAt 101 (.pointer (some ⟨b, o, none⟩))).run Tryz.prog W = .ok (.agg (q.arr v)) W :=
 run_loadAt_mid W b o 101 (q.cells v) _ (fun j x hx => by
  have hj : j < 12 := (List.getElem?_eq_some_iff.1 hx).1
  rw [h j hj]; exact hx) Tryz.underlying101 rfl sizeAc_info
theorem sizeSt_info : (Tryz.prog.info? 63).map (·.size) = some 17 := by kernel_rfl
def QSt.arr (q : QSt) (v : St) : Array Value := #[.int .u8 v.kind, .string v.name, .string v.ctx, .int .u8 v.expr.kind, .int .i64 v.expr.n, .string v.expr.s, .slice q.expr.argsa q.expr.argsn q.expr.argsc, .slice q.expr.namesa q.expr.namesn q.expr.namesc, .slice q.expr.valsa q.expr.valsn q.expr.valsc, .int .u8 v.expr.elem, .slice q.expr.keya q.expr.keyn q.expr.keyc, .slice q.expr.actsa q.expr.actsn q.expr.actsc, .string v.expr.site, .slice q.depsa q.depsn q.depsc, .slice q.dosa q.dosn q.dosc, .slice q.undoa q.undon q.undoc, .slice q.bodya q.bodyn q.bodyc]
theorem QSt.one (q : QSt) (v : St) : (q.arr v).all (·.oneCell') = true := by simp [QSt.arr, Value.oneCell']
theorem St_load {W : World} {b o : Nat} {v : St} {q : QSt} (h : ∀ j, j < 17 → W.cell? ⟨b, o + j, none⟩ = (q.cells v)[j]?) : (Instr.loadAt 63 (.pointer (some ⟨b, o, none⟩))).run Tryz.prog W = .ok (.agg (q.arr v)) W :=
 run_loadAt_mid W b o 63 (q.cells v) _ (fun j x hx => by
  have hj : j < 17 := (List.getElem?_eq_some_iff.1 hx).1
  rw [h j hj]; exact hx) Tryz.underlying63 rfl sizeSt_info
theorem sizeCo_info : (Tryz.prog.info? 52).map (·.size) = some 13 := by kernel_rfl
def QCo.arr (q : QCo) (v : Co) : Array Value := #[.string v.name, .string v.param, .slice q.bodya q.bodyn q.bodyc, .int .u8 v.out.kind, .int .i64 v.out.n, .string v.out.s, .slice q.out.argsa q.out.argsn q.out.argsc, .slice q.out.namesa q.out.namesn q.out.namesc, .slice q.out.valsa q.out.valsn q.out.valsc, .int .u8 v.out.elem, .slice q.out.keya q.out.keyn q.out.keyc, .slice q.out.actsa q.out.actsn q.out.actsc, .string v.out.site]
theorem QCo.one (q : QCo) (v : Co) : (q.arr v).all (·.oneCell') = true := by simp [QCo.arr, Value.oneCell']
theorem Co_load {W : World} {b o : Nat} {v : Co} {q : QCo} (h : ∀ j, j < 13 → W.cell? ⟨b, o + j, none⟩ = (q.cells v)[j]?) : (Instr.loadAt 52 (.pointer (some ⟨b, o, none⟩))).run Tryz.prog W = .ok (.agg (q.arr v)) W :=
 run_loadAt_mid W b o 52 (q.cells v) _ (fun j x hx => by
  have hj : j < 13 := (List.getElem?_eq_some_iff.1 hx).1
  rw [h j hj]; exact hx) Tryz.underlying52 rfl sizeCo_info
theorem FitP.of {t u : PS} {c : Nat} (h : FitP u) (k : PS.Le t u c) : FitP t := Nat.le_trans k.lo h
theorem pExs_append (A B : List Ex) : ∀ t, pExs (A ++ B) t = pExs B (pExs A t) := by
 induction A with
 | nil => intro t; rw [List.nil_append]; rfl
 | cons v r ih => intro t; rw [List.cons_append, pExs, pExs, ih]
theorem pAcs_append (A B : List Ac) : ∀ t, pAcs (A ++ B) t = pAcs B (pAcs A t) := by
 induction A with
 | nil => intro t; rw [List.nil_append]; rfl
 | cons v r ih => intro t; rw [List.cons_append, pAcs, pAcs, ih]
theorem pSts_append (A B : List St) : ∀ t, pSts (A ++ B) t = pSts B (pSts A t) := by
 induction A with
 | nil => intro t; rw [List.nil_append]; rfl
 | cons v r ih => intro t; rw [List.cons_append, pSts, pSts, ih]
theorem pCos_append (A B : List Co) : ∀ t, pCos (A ++ B) t = pCos B (pCos A t) := by
 induction A with
 | nil => intro t; rw [List.nil_append]; rfl
 | cons v r ih => intro t; rw [List.cons_append, pCos, pCos, ih]
theorem pExs_snoc {L : List Ex} {k : Nat} {v : Ex} (h : L[k]? = some v) (t : PS) : pExs (L.take (k + 1)) t = pEx v (pExs (L.take k) t) := by rw [take_snoc h, pExs_append]; rfl
theorem pAcs_snoc {L : List Ac} {k : Nat} {v : Ac} (h : L[k]? = some v) (t : PS) : pAcs (L.take (k + 1)) t = pAc v (pAcs (L.take k) t) := by rw [take_snoc h, pAcs_append]; rfl
theorem pSts_snoc {L : List St} {k : Nat} {v : St} (h : L[k]? = some v) (t : PS) : pSts (L.take (k + 1)) t = pSt v (pSts (L.take k) t) := by rw [take_snoc h, pSts_append]; rfl
theorem pCos_snoc {L : List Co} {k : Nat} {v : Co} (h : L[k]? = some v) (t : PS) : pCos (L.take (k + 1)) t = pCo v (pCos (L.take k) t) := by rw [take_snoc h, pCos_append]; rfl
theorem pExs_cut (L : List Ex) (k : Nat) (t : PS) : pExs L t = pExs (L.drop k) (pExs (L.take k) t) := by rw [← pExs_append, List.take_append_drop]
theorem pAcs_cut (L : List Ac) (k : Nat) (t : PS) : pAcs L t = pAcs (L.drop k) (pAcs (L.take k) t) := by rw [← pAcs_append, List.take_append_drop]
theorem pSts_cut (L : List St) (k : Nat) (t : PS) : pSts L t = pSts (L.drop k) (pSts (L.take k) t) := by rw [← pSts_append, List.take_append_drop]
theorem pCos_cut (L : List Co) (k : Nat) (t : PS) : pCos L t = pCos (L.drop k) (pCos (L.take k) t) := by rw [← pCos_append, List.take_append_drop]
theorem FitP.put {t : PS} {s : List UInt8} (h : FitP (t.put s)) : FitP t := h.of ((PS.Le.refl t).put s)
theorem FitP.must {t : PS} {c : Bool} (h : FitP (t.must c)) : FitP t := h
theorem FitP.plain {t : PS} {s : ByteArray} (h : FitP (t.plain s)) : FitP t := h.of ((PS.Le.refl t).plain s)
theorem FitP.ex {w : World} {B : Nat} {v : Ex} {q : QEx} (k : ExAt w B v q) {t : PS} (h : FitP (pEx v t)) : FitP t := h.of (pEx_le v k.ok t)
theorem FitP.exs {w : World} {B n : Nat} {L : List Ex} {a : Option Addr} (k : ExLs w B L a n) {t : PS} (h : FitP (pExs L t)) : FitP t := h.of (pExs_le L (fun v _ => pEx_le v) k.oks t)
theorem FitP.acs {w : World} {B n : Nat} {L : List Ac} {a : Option Addr} (k : AcLs w B L a n) {t : PS} (h : FitP (pAcs L t)) : FitP t := h.of (pAcs_le L (fun v _ => pAc_le v) k.oks t)
theorem FitP.sts {w : World} {B n : Nat} {L : List St} {a : Option Addr} (k : StLs w B L a n) {t : PS} (h : FitP (pSts L t)) : FitP t := h.of (pSts_le L (fun v _ => pSt_le v) k.oks t)
theorem FitP.exs_take {w : World} {B n : Nat} {L : List Ex} {a : Option Addr} (k : ExLs w B L a n) {t : PS} (h : FitP (pExs L t)) (j : Nat) : FitP (pExs (L.take j) t) := by
 rw [pExs_cut L j] at h
 exact h.of (pExs_le _ (fun v _ => pEx_le v) (by rw [List.map_drop]; exact oks_drop k.oks j) _)
theorem FitP.acs_take {w : World} {B n : Nat} {L : List Ac} {a : Option Addr} (k : AcLs w B L a n) {t : PS} (h : FitP (pAcs L t)) (j : Nat) : FitP (pAcs (L.take j) t) := by
 rw [pAcs_cut L j] at h
 exact h.of (pAcs_le _ (fun v _ => pAc_le v) (by rw [List.map_drop]; exact oks_drop k.oks j) _)
theorem FitP.sts_take {w : World} {B n : Nat} {L : List St} {a : Option Addr} (k : StLs w B L a n) {t : PS} (h : FitP (pSts L t)) (j : Nat) : FitP (pSts (L.take j) t) := by
 rw [pSts_cut L j] at h
 exact h.of (pSts_le _ (fun v _ => pSt_le v) (by rw [List.map_drop]; exact oks_drop k.oks j) _)
theorem FitP.cos_take {w : World} {B n : Nat} {L : List Co} {a : Option Addr} (k : CoLs w B L a n) {t : PS} (h : FitP (pCos L t)) (j : Nat) : FitP (pCos (L.take j) t) := by
 rw [pCos_cut L j] at h
 exact h.of (pCos_le _ (by rw [List.map_drop]; exact oks_drop k.oks j) _)
theorem FitP.round {t : PS} {f : PS → PS} (h : FitP (PS.round f t)) : (f t.open_).l.length + 1 ≤ 1073741824 := by
 have := h; unfold FitP PS.round PS.fin at this; simpa using this
theorem text3_any (s : ByteArray) (w : World) (hE : Lx.Env w) (hs : s.size ≤ 140737488355328) :
  Calls Tryz.prog 59 #[.agg (A22_ s)] w fun e w' => e = .returned (.string (bs (if s.size ≤ 4096 then quoteL s.data.toList else []))) ∧ Below w.heap.size w w' := by
 unfold A22_
 by_cases h4 : s.size ≤ 4096
 ·rw [if_pos h4]
  exact Vl.valText_any 3 0 s none none 0 0 0 0 0 ⟨#[]⟩ false [] w hE.2.2 (LAt.none _ _ _) (rfl) (by decide) (by unfold Vl.plainP Vl.restB; simp [h4]; rfl) h4
 ·rw [if_neg h4]
  obtain ⟨S, hS⟩ : ∃ S, S = w.alloc ((O21_ s)) := ⟨_, rfl⟩
  have hb : Below w.heap.size w S := by rw [hS]; exact (Below.refl _ _).alloc (Nat.le_refl _) _
  have hr : S.heap[w.heap.size]? = some ((O21_ s)) := by rw [hS]; exact heap_alloc_new w _
  obtain ⟨x0, x1, x2, x3, x4, x5, x6, x7⟩ := c8_ hr
  have cC := Vl.valCheck_any 3 0 s none none 0 0 0 0 0 ⟨#[]⟩ false [] S (by simp) (by decide) hs (by decide) (LAt.none _ _ _)
  rw [show Vl.plainP 3 0 s 0 0 0 ⟨#[]⟩ false = false from by unfold Vl.plainP Vl.restB; simp [h4]] at cC
  have hWS : Hid (S = _) := hS
  replace cC := hi_ cC
  replace hb := hi_ hb
  replace h4 := hi_ h4
  clear hS hr hE
  go_enter Tryz.func59, Tryz.ntmps59
  go_wp2_with (first | (rw [← hWS.out]) | (go_at_call 89; refine cC.out.mono ?_))
  first | rintro e w3 rfl hb3 | rintro e w3 ⟨rfl, hb3⟩
  have hb' := hi_ (hb.out.trans (hb3.mono hb.out.size))
  clear hb3
  go_wp2_with fail
  go_ret
  exact ⟨rfl, hb'.out⟩
def ExP (w0 : World) (B b : Nat) (v : Ex) : Prop := ∀ (q : QEx) (t : PS), ExAt w0 B v q → DoesP w0 B b 32 #[.pointer (some ⟨b, 0, none⟩), .agg #[.int .u8 v.kind, .int .i64 v.n, .string v.s, .slice q.argsa q.argsn q.argsc, .slice q.namesa q.namesn q.namesc, .slice q.valsa q.valsn q.valsc, .int .u8 v.elem, .slice q.keya q.keyn q.keyc, .slice q.actsa q.actsn q.actsc, .string v.site]] t (pEx v t)
def AcP (w0 : World) (B b : Nat) (v : Ac) : Prop := ∀ (q : QAc) (t : PS), AcAt w0 B v q → DoesP w0 B b 56 #[.pointer (some ⟨b, 0, none⟩), .agg #[.int .u8 v.kind, .string v.name, .int .u8 v.expr.kind, .int .i64 v.expr.n, .string v.expr.s, .slice q.expr.argsa q.expr.argsn q.expr.argsc, .slice q.expr.namesa q.expr.namesn q.expr.namesc, .slice q.expr.valsa q.expr.valsn q.expr.valsc, .int .u8 v.expr.elem, .slice q.expr.keya q.expr.keyn q.expr.keyc, .slice q.expr.actsa q.expr.actsn q.expr.actsc, .string v.expr.site]] t (pAc v t)
def StP (w0 : World) (B b : Nat) (v : St) : Prop := ∀ (q : QSt) (t : PS), StAt w0 B v q → DoesP w0 B b 30 #[.pointer (some ⟨b, 0, none⟩), .agg #[.int .u8 v.kind, .string v.name, .string v.ctx, .int .u8 v.expr.kind, .int .i64 v.expr.n, .string v.expr.s, .slice q.expr.argsa q.expr.argsn q.expr.argsc, .slice q.expr.namesa q.expr.namesn q.expr.namesc, .slice q.expr.valsa q.expr.valsn q.expr.valsc, .int .u8 v.expr.elem, .slice q.expr.keya q.expr.keyn q.expr.keyc, .slice q.expr.actsa q.expr.actsn q.expr.actsc, .string v.expr.site, .slice q.depsa q.depsn q.depsc, .slice q.dosa q.dosn q.dosc, .slice q.undoa q.undon q.undoc, .slice q.bodya q.bodyn q.bodyc]] t (pSt v t)
def ExsP (w0 : World) (B b : Nat) (L : List Ex) : Prop := ∀ (a : Option Addr) (n c : Nat) (t : PS), ExLs w0 B L a n → DoesP w0 B b 84 #[.slice a n c, (.func (.func 32) #[.pointer (some ⟨b, 0, none⟩)] #[])] t (pExs L t)
theorem Exs_P (w0 : World) (B b : Nat) (L : List Ex) (hS : ∀ v ∈ L, ExP w0 B b v) : ExsP w0 B b L := by
 intro a n c t hL bx w h hF
 have hn := hL.len.2
 have hln := hL.len.1
 rw [List.length_map] at hln
 replace h := hi_ h
 replace hF := hi_ hF
 replace hln := hi_ hln
 go_enter Tryz.func84, Tryz.ntmps84
 go_wp2_with fail
 go_loopw [8] (fun i wr => ∃ k : Nat, k ≤ n ∧ i = .int .i64 (k : Nat) ∧ PK w0 B b (pExs (L.take k) t) bx wr) (fun i _ => n - (intOf i).toNat)
 case atStart => exact ⟨0, Nat.zero_le _, rfl, h.out⟩
 case round =>
  obtain ⟨k, hk, rfl, hK⟩ := hrel
  by_cases hlt : k < n
  ·have hlt9 : Hid (k + 1 ≤ n) := hlt
   obtain ⟨b2, o2, v, q, rfl, hb2, hg2, hc2, hv2⟩ := ExLs.elem hL k hlt
   have hsn := hi_ (pExs_snoc hg2 t)
   obtain ⟨Z, hZl, hZ1, hZs, cS0⟩ : ∃ Z : Array Value, (Instr.loadAt 50 (.pointer (some ⟨b2, o2 + k * 10, none⟩))).run Tryz.prog wr = .ok (.agg Z) wr ∧ Hid (Z.all (·.oneCell') = true) ∧ Hid (Z.size = 10) ∧ Hid (∀ bx' W, PK w0 B b (pExs (L.take k) t) bx' W → Calls Tryz.prog 32 #[.pointer (some ⟨b, 0, none⟩), .agg Z] W fun e w' => e = .returned (.tuple #[]) ∧ PK w0 B b (pExs (L.take (k + 1)) t) bx' w') := by
    refine ⟨q.arr v, Ex_load (fun j hj => by rw [Nat.add_assoc]; exact (hK.low.cell (p := ⟨b2, o2 + (k * 10 + j), none⟩) hb2).trans (hc2 j hj)), q.one v, rfl, fun bx' W hW => ?_⟩
    have := hS v (List.mem_of_getElem? hg2) q _ hv2 bx' W hW (by rw [← hsn.out]; exact FitP.exs_take hL hF.out (k + 1))
    rw [← hsn.out] at this
    exact this
   obtain ⟨S4, hS4⟩ : ∃ S4, S4 = wr.alloc (.cells A4_ 50) := ⟨_, rfl⟩
   have h4 := hK.alloc (.cells A4_ 50)
   rw [← hS4] at h4
   have hst := row_store (h4.box M0_) (cs := Z) (by rw [hZs.out]; exact sizeEx_info) (by rw [hZs.out]; rfl) hZ1.out
   have h5 := h4.row Z
   obtain ⟨S5, hS5⟩ : ∃ S5, S5 = S4.setRow wr.heap.size Z := ⟨_, rfl⟩
   rw [← hS5] at h5 hst
   have hl5 := row_load (h5.box M0_) Tryz.underlying50 rfl (by rw [hZs.out]; exact sizeEx_info)
   have cS := hi_ (cS0.out _ S5 h5)
   have hW4 : Hid (S4 = _) := hS4
   replace hZl := hi_ hZl
   replace hst := hi_ hst
   replace hl5 := hi_ hl5
   replace hK := hi_ hK
   replace h4 := hi_ h4
   replace h5 := hi_ h5
   clear hc2 hv2 hg2 hS5 hS4 cS0
   go_wp2_with (first | (rw [← hW4.out]) | (refine ld_arm hZl.out rfl _ rfl rfl ?_) | (refine ld_arm hl5.out rfl _ rfl rfl ?_) | (refine st_arm hst.out rfl _ _ rfl rfl rfl ?_) | (go_at_call 32; refine cS.out.mono ?_))
   first | rintro e w3 rfl hK3 | rintro e w3 ⟨rfl, hK3⟩
   replace hK3 := hi_ hK3.drop
   clear hl5 hst hZl
   go_wp2_with fail
   go_roundw
   case rel => exact ⟨k + 1, hlt9.out, by go_num, hK3.out⟩
   case measure => simp [intOf]; have := hlt9.out; omega
  ·obtain rfl : k = n := by omega
   have hfin : Hid (PK w0 B b (pExs L t) bx wr) := by
    rw [List.take_of_length_le (by rw [hln.out]; exact Nat.le_refl _)] at hK
    exact hK
   clear hK
   go_wp2_with fail
   exact bodyPost_end (v := .tuple #[]) (results_none (by kernel_rfl) _ _ _) rfl ⟨rfl, hfin.out⟩
def AcsP (w0 : World) (B b : Nat) (L : List Ac) : Prop := ∀ (a : Option Addr) (n c : Nat) (t : PS), AcLs w0 B L a n → DoesP w0 B b 86 #[.slice a n c, (.func (.func 56) #[.pointer (some ⟨b, 0, none⟩)] #[])] t (pAcs L t)
theorem Acs_P (w0 : World) (B b : Nat) (L : List Ac) (hS : ∀ v ∈ L, AcP w0 B b v) : AcsP w0 B b L := by
 intro a n c t hL bx w h hF
 have hn := hL.len.2
 have hln := hL.len.1
 rw [List.length_map] at hln
 replace h := hi_ h
 replace hF := hi_ hF
 replace hln := hi_ hln
 go_enter Tryz.func86, Tryz.ntmps86
 go_wp2_with fail
 go_loopw [8] (fun i wr => ∃ k : Nat, k ≤ n ∧ i = .int .i64 (k : Nat) ∧ PK w0 B b (pAcs (L.take k) t) bx wr) (fun i _ => n - (intOf i).toNat)
 case atStart => exact ⟨0, Nat.zero_le _, rfl, h.out⟩
 case round =>
  obtain ⟨k, hk, rfl, hK⟩ := hrel
  by_cases hlt : k < n
  ·have hlt9 : Hid (k + 1 ≤ n) := hlt
   obtain ⟨b2, o2, v, q, rfl, hb2, hg2, hc2, hv2⟩ := AcLs.elem hL k hlt
   have hsn := hi_ (pAcs_snoc hg2 t)
   obtain ⟨Z, hZl, hZ1, hZs, cS0⟩ : ∃ Z : Array Value, (Instr.loadAt 101 (.pointer (some ⟨b2, o2 + k * 12, none⟩))).run Tryz.prog wr = .ok (.agg Z) wr ∧ Hid (Z.all (·.oneCell') = true) ∧ Hid (Z.size = 12) ∧ Hid (∀ bx' W, PK w0 B b (pAcs (L.take k) t) bx' W → Calls Tryz.prog 56 #[.pointer (some ⟨b, 0, none⟩), .agg Z] W fun e w' => e = .returned (.tuple #[]) ∧ PK w0 B b (pAcs (L.take (k + 1)) t) bx' w') := by
    refine ⟨q.arr v, Ac_load (fun j hj => by rw [Nat.add_assoc]; exact (hK.low.cell (p := ⟨b2, o2 + (k * 12 + j), none⟩) hb2).trans (hc2 j hj)), q.one v, rfl, fun bx' W hW => ?_⟩
    have := hS v (List.mem_of_getElem? hg2) q _ hv2 bx' W hW (by rw [← hsn.out]; exact FitP.acs_take hL hF.out (k + 1))
    rw [← hsn.out] at this
    exact this
   obtain ⟨S4, hS4⟩ : ∃ S4, S4 = wr.alloc (.cells A5_ 101) := ⟨_, rfl⟩
   have h4 := hK.alloc (.cells A5_ 101)
   rw [← hS4] at h4
   have hst := row_store (h4.box M0_) (cs := Z) (by rw [hZs.out]; exact sizeAc_info) (by rw [hZs.out]; rfl) hZ1.out
   have h5 := h4.row Z
   obtain ⟨S5, hS5⟩ : ∃ S5, S5 = S4.setRow wr.heap.size Z := ⟨_, rfl⟩
   rw [← hS5] at h5 hst
   have hl5 := row_load (h5.box M0_) Tryz.underlying101 rfl (by rw [hZs.out]; exact sizeAc_info)
   have cS := hi_ (cS0.out _ S5 h5)
   have hW4 : Hid (S4 = _) := hS4
   replace hZl := hi_ hZl
   replace hst := hi_ hst
   replace hl5 := hi_ hl5
   replace hK := hi_ hK
   replace h4 := hi_ h4
   replace h5 := hi_ h5
   clear hc2 hv2 hg2 hS5 hS4 cS0
   go_wp2_with (first | (rw [← hW4.out]) | (refine ld_arm hZl.out rfl _ rfl rfl ?_) | (refine ld_arm hl5.out rfl _ rfl rfl ?_) | (refine st_arm hst.out rfl _ _ rfl rfl rfl ?_) | (go_at_call 56; refine cS.out.mono ?_))
   first | rintro e w3 rfl hK3 | rintro e w3 ⟨rfl, hK3⟩
   replace hK3 := hi_ hK3.drop
   clear hl5 hst hZl
   go_wp2_with fail
   go_roundw
   case rel => exact ⟨k + 1, hlt9.out, by go_num, hK3.out⟩
   case measure => simp [intOf]; have := hlt9.out; omega
  ·obtain rfl : k = n := by omega
   have hfin : Hid (PK w0 B b (pAcs L t) bx wr) := by
    rw [List.take_of_length_le (by rw [hln.out]; exact Nat.le_refl _)] at hK
    exact hK
   clear hK
   go_wp2_with fail
   exact bodyPost_end (v := .tuple #[]) (results_none (by kernel_rfl) _ _ _) rfl ⟨rfl, hfin.out⟩
def StsP (w0 : World) (B b : Nat) (L : List St) : Prop := ∀ (a : Option Addr) (n c : Nat) (t : PS), StLs w0 B L a n → DoesP w0 B b 29 #[.slice a n c, (.func (.func 30) #[.pointer (some ⟨b, 0, none⟩)] #[])] t (pSts L t)
theorem Sts_P (w0 : World) (B b : Nat) (L : List St) (hS : ∀ v ∈ L, StP w0 B b v) : StsP w0 B b L := by
 intro a n c t hL bx w h hF
 have hn := hL.len.2
 have hln := hL.len.1
 rw [List.length_map] at hln
 replace h := hi_ h
 replace hF := hi_ hF
 replace hln := hi_ hln
 go_enter Tryz.func29, Tryz.ntmps29
 go_wp2_with fail
 go_loopw [8] (fun i wr => ∃ k : Nat, k ≤ n ∧ i = .int .i64 (k : Nat) ∧ PK w0 B b (pSts (L.take k) t) bx wr) (fun i _ => n - (intOf i).toNat)
 case atStart => exact ⟨0, Nat.zero_le _, rfl, h.out⟩
 case round =>
  obtain ⟨k, hk, rfl, hK⟩ := hrel
  by_cases hlt : k < n
  ·have hlt9 : Hid (k + 1 ≤ n) := hlt
   obtain ⟨b2, o2, v, q, rfl, hb2, hg2, hc2, hv2⟩ := StLs.elem hL k hlt
   have hsn := hi_ (pSts_snoc hg2 t)
   obtain ⟨Z, hZl, hZ1, hZs, cS0⟩ : ∃ Z : Array Value, (Instr.loadAt 63 (.pointer (some ⟨b2, o2 + k * 17, none⟩))).run Tryz.prog wr = .ok (.agg Z) wr ∧ Hid (Z.all (·.oneCell') = true) ∧ Hid (Z.size = 17) ∧ Hid (∀ bx' W, PK w0 B b (pSts (L.take k) t) bx' W → Calls Tryz.prog 30 #[.pointer (some ⟨b, 0, none⟩), .agg Z] W fun e w' => e = .returned (.tuple #[]) ∧ PK w0 B b (pSts (L.take (k + 1)) t) bx' w') := by
    refine ⟨q.arr v, St_load (fun j hj => by rw [Nat.add_assoc]; exact (hK.low.cell (p := ⟨b2, o2 + (k * 17 + j), none⟩) hb2).trans (hc2 j hj)), q.one v, rfl, fun bx' W hW => ?_⟩
    have := hS v (List.mem_of_getElem? hg2) q _ hv2 bx' W hW (by rw [← hsn.out]; exact FitP.sts_take hL hF.out (k + 1))
    rw [← hsn.out] at this
    exact this
   obtain ⟨S4, hS4⟩ : ∃ S4, S4 = wr.alloc (.cells A6_ 63) := ⟨_, rfl⟩
   have h4 := hK.alloc (.cells A6_ 63)
   rw [← hS4] at h4
   have hst := row_store (h4.box M0_) (cs := Z) (by rw [hZs.out]; exact sizeSt_info) (by rw [hZs.out]; rfl) hZ1.out
   have h5 := h4.row Z
   obtain ⟨S5, hS5⟩ : ∃ S5, S5 = S4.setRow wr.heap.size Z := ⟨_, rfl⟩
   rw [← hS5] at h5 hst
   have hl5 := row_load (h5.box M0_) Tryz.underlying63 rfl (by rw [hZs.out]; exact sizeSt_info)
   have cS := hi_ (cS0.out _ S5 h5)
   have hW4 : Hid (S4 = _) := hS4
   replace hZl := hi_ hZl
   replace hst := hi_ hst
   replace hl5 := hi_ hl5
   replace hK := hi_ hK
   replace h4 := hi_ h4
   replace h5 := hi_ h5
   clear hc2 hv2 hg2 hS5 hS4 cS0
   go_wp2_with (first | (rw [← hW4.out]) | (refine ld_arm hZl.out rfl _ rfl rfl ?_) | (refine ld_arm hl5.out rfl _ rfl rfl ?_) | (refine st_arm hst.out rfl _ _ rfl rfl rfl ?_) | (go_at_call 30; refine cS.out.mono ?_))
   first | rintro e w3 rfl hK3 | rintro e w3 ⟨rfl, hK3⟩
   replace hK3 := hi_ hK3.drop
   clear hl5 hst hZl
   go_wp2_with fail
   go_roundw
   case rel => exact ⟨k + 1, hlt9.out, by go_num, hK3.out⟩
   case measure => simp [intOf]; have := hlt9.out; omega
  ·obtain rfl : k = n := by omega
   have hfin : Hid (PK w0 B b (pSts L t) bx wr) := by
    rw [List.take_of_length_le (by rw [hln.out]; exact Nat.le_refl _)] at hK
    exact hK
   clear hK
   go_wp2_with fail
   exact bodyPost_end (v := .tuple #[]) (results_none (by kernel_rfl) _ _ _) rfl ⟨rfl, hfin.out⟩
end Go.Proofs.YtlppklbmdedipaaGreatDoor
