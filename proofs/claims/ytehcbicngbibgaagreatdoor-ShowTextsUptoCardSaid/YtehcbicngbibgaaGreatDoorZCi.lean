/- value.Check of the three plain kinds. -/
import Derived.Test.YtehcbicngbibgaaGreatDoorZVa1
import Derived.Test.YtehcbicngbibgaaGreatDoorZVa2
import Derived.Test.YtehcbicngbibgaaGreatDoorZVa3
import Derived.Laws.EntriesVeiled
namespace Go.Proofs.YtehcbicngbibgaaGreatDoor
open Go Go.RowKit
theorem alone_plain (κ n : Int) (s : ByteArray) (la fa : Option Addr) (ln lc fn fc : Nat) (el : Int) (key : ByteArray) (hk : Bool) (F : List Fld) (w : World) (hκ : κ = 1 ∨ κ = 2 ∨ κ = 3) (hln : ln ≤ 1152921504606846976) (hs : s.size ≤ 140737488355328) (hks : key.size ≤ 140737488355328) (h : FLs w w.heap.size F fa fn) :
    Calls Tryz.prog 135 #[.agg #[.int .u8 κ, .int .i64 n, .string s, .slice la ln lc, .slice fa fn fc, .int .u8 el, .string key, .bool hk]] w fun e w' => e = .returned (.bool (plainP κ n s ln fn el key hk)) ∧ Below w.heap.size w w' := by
  rcases hκ with rfl | rfl | rfl
  · exact aloneK1_any n s la fa ln lc fn fc el key hk F w hln hs hks h
  · exact aloneK2_any n s la fa ln lc fn fc el key hk F w hln hs hks h
  · exact aloneK3_any n s la fa ln lc fn fc el key hk F w hln hs hks h
/-- All lies as it lay, but for two blocks. -/
structure But (p q : Nat) (w w' : World) : Prop where
  os : w'.os = w.os
  tape : w'.tape = w.tape
  output : w'.output = w.output
  size : w.heap.size ≤ w'.heap.size
  block : ∀ k, k < w.heap.size → k ≠ p → k ≠ q → w'.heap[k]? = w.heap[k]?
theorem But.of_below {p q : Nat} {w w' : World} (h : Below w.heap.size w w') : But p q w w' := ⟨h.os, h.tape, h.output, h.size, fun k hk _ _ => h.block k hk⟩
theorem But.of_set {p q : Nat} {w w' : World} {k : Nat} (h : w.grownBy w' (some k)) (hk : k = p ∨ k = q) : But p q w w' := ⟨h.os, h.tape, h.output, h.size, fun j hj h1 h2 => h.block j hj (by rintro e; injection e with e; omega)⟩
theorem But.trans {p q : Nat} {a b c : World} (h : But p q a b) (k : But p q b c) : But p q a c :=
  ⟨k.os.trans h.os, k.tape.trans h.tape, k.output.trans h.output, Nat.le_trans h.size k.size, fun i hi h1 h2 => (k.block i (Nat.lt_of_lt_of_le hi h.size) h1 h2).trans (h.block i hi h1 h2)⟩
theorem But.low {p q B : Nat} {w w' : World} (h : But p q w w') (h1 : B ≤ p) (h2 : B ≤ q) (h3 : B ≤ w.heap.size) : Below B w w' :=
  ⟨h.os, h.tape, h.output, h.size, fun k hk => h.block k (by omega) (by omega) (by omega)⟩
theorem But.cell {p q : Nat} {w w' : World} (h : But p q w w') {a : Addr} (h1 : a.block < w.heap.size) (h2 : a.block ≠ p) (h3 : a.block ≠ q) : w'.cell? a = w.cell? a :=
  World.cell?_of_block (h.block _ h1 h2 h3)
/-- Two cells of their own: how many, and whether. -/
structure Two (w : World) (p q B : Nat) (n : Int) (b : Bool) : Prop where
  n : w.heap[p]? = some (.cells #[.int .i64 n] 3 (0, 0))
  b : w.heap[q]? = some (.cells #[.bool b] 4 (0, 0))
  ne : p ≠ q
  lp : B ≤ p
  lq : B ≤ q
theorem Two.later {w w' : World} {p q B : Nat} {n : Int} {b : Bool} (h : Two w p q B n b) (hb : Below w.heap.size w w') : Two w' p q B n b :=
  ⟨(hb.block _ (Array.getElem?_eq_some_iff.1 h.n).1).trans h.n, (hb.block _ (Array.getElem?_eq_some_iff.1 h.b).1).trans h.b, h.ne, h.lp, h.lq⟩
theorem Two.ltp {w : World} {p q B : Nat} {n : Int} {b : Bool} (h : Two w p q B n b) : p < w.heap.size := (Array.getElem?_eq_some_iff.1 h.n).1
theorem Two.ltq {w : World} {p q B : Nat} {n : Int} {b : Bool} (h : Two w p q B n b) : q < w.heap.size := (Array.getElem?_eq_some_iff.1 h.b).1
theorem Two.cn {w : World} {p q B : Nat} {n : Int} {b : Bool} (h : Two w p q B n b) : w.cell? ⟨p, 0, none⟩ = some (.int .i64 n) := by simp [World.cell?, h.n]
theorem Two.cb {w : World} {p q B : Nat} {n : Int} {b : Bool} (h : Two w p q B n b) : w.cell? ⟨q, 0, none⟩ = some (.bool b) := by simp [World.cell?, h.b]
theorem Two.fn {w : World} {p q B : Nat} {n : Int} {b : Bool} (h : Two w p q B n b) : w.frozen? ⟨p, 0, none⟩ = false := by simp [World.frozen?, h.n]
theorem Two.fb {w : World} {p q B : Nat} {n : Int} {b : Bool} (h : Two w p q B n b) : w.frozen? ⟨q, 0, none⟩ = false := by simp [World.frozen?, h.b]
theorem Two.setn {w : World} {p q B : Nat} {n : Int} {b : Bool} (h : Two w p q B n b) (m : Int) : Two (w.setCell ⟨p, 0, none⟩ (.int .i64 m)) p q B m b :=
  ⟨blk_set h.n 0 _, ((cell_grown w p 0 _).block q h.ltq (by intro e; injection e with e; exact h.ne e.symm)).trans h.b, h.ne, h.lp, h.lq⟩
theorem Two.setb {w : World} {p q B : Nat} {n : Int} {b : Bool} (h : Two w p q B n b) (m : Bool) : Two (w.setCell ⟨q, 0, none⟩ (.bool m)) p q B n m :=
  ⟨((cell_grown w q 0 _).block p h.ltp (by intro e; injection e with e; exact h.ne e)).trans h.n, blk_set h.b 0 _, h.ne, h.lp, h.lq⟩
/-- What one step of Check comes to. -/
structure Chk (p q B : Nat) (V : Bool) (w : World) (e : Ending) (w' : World) : Prop where
  e : e = .returned (.bool V)
  two : Two w' p q B 1 V
  but : But p q w w'
set_option maxHeartbeats 2000000 in
set_option maxRecDepth 100000 in
theorem chk1_any (κ n : Int) (s : ByteArray) (la fa : Option Addr) (ln lc fn fc : Nat) (el : Int) (key : ByteArray) (hk : Bool) (F : List Fld) (p q B : Nat) (w : World) (hκ : κ = 1 ∨ κ = 2 ∨ κ = 3) (hln : ln ≤ 1152921504606846976) (hs : s.size ≤ 140737488355328) (hks : key.size ≤ 140737488355328) (h2 : Two w p q B 0 true) (h : FLs w B F fa fn) :
    Calls Tryz.prog 134 #[.agg #[.int .u8 κ, .int .i64 n, .string s, .slice la ln lc, .slice fa fn fc, .int .u8 el, .string key, .bool hk], .int .i64 1, .pointer (some ⟨p, 0, none⟩), .pointer (some ⟨q, 0, none⟩)] w fun e w' => Chk p q B (plainP κ n s ln fn el key hk) w e w' := by
  obtain ⟨V, hV⟩ : ∃ V, V = plainP κ n s ln fn el key hk := ⟨_, rfl⟩
  rw [← hV]
  replace hV := Lib.hid hV
  have hlp := h2.ltp
  have hlq := h2.ltq
  have hB : B ≤ w.heap.size := by have := h2.lp; omega
  have hne := h2.ne
  obtain ⟨S, hS⟩ : ∃ S, S = w.alloc (.cells #[.int .u8 κ, .int .i64 n, .string s, .slice la ln lc, .slice fa fn fc, .int .u8 el, .string key, .bool hk] 59) := ⟨_, rfl⟩
  have hbS : Below w.heap.size w S := by rw [hS]; exact (Below.refl _ _).alloc (Nat.le_refl _) _
  have hrS : S.heap[w.heap.size]? = some (.cells #[.int .u8 κ, .int .i64 n, .string s, .slice la ln lc, .slice fa fn fc, .int .u8 el, .string key, .bool hk] 59 (0, 0)) := by rw [hS]; exact heap_alloc_new w _
  have hzS : S.heap.size = w.heap.size + 1 := by rw [hS]; simp
  have x0 : S.cell? ⟨w.heap.size, 0, none⟩ = some (.int .u8 κ) := by simp [World.cell?, hrS]
  have x1 : S.cell? ⟨w.heap.size, 1, none⟩ = some (.int .i64 n) := by simp [World.cell?, hrS]
  have x2 : S.cell? ⟨w.heap.size, 2, none⟩ = some (.string s) := by simp [World.cell?, hrS]
  have x3 : S.cell? ⟨w.heap.size, 3, none⟩ = some (.slice la ln lc) := by simp [World.cell?, hrS]
  have x4 : S.cell? ⟨w.heap.size, 4, none⟩ = some (.slice fa fn fc) := by simp [World.cell?, hrS]
  have x5 : S.cell? ⟨w.heap.size, 5, none⟩ = some (.int .u8 el) := by simp [World.cell?, hrS]
  have x6 : S.cell? ⟨w.heap.size, 6, none⟩ = some (.string key) := by simp [World.cell?, hrS]
  have x7 : S.cell? ⟨w.heap.size, 7, none⟩ = some (.bool hk) := by simp [World.cell?, hrS]
  have hWS : Hid (S = _) := hS
  replace hrS := Lib.hid hrS
  clear hS
  have h2S := h2.later (hbS.mono (Nat.le_refl _))
  have c0 := h2S.cn
  have f0 := h2S.fn
  obtain ⟨W1, hW1⟩ : ∃ W1, W1 = S.setCell ⟨p, 0, none⟩ (.int .i64 1) := ⟨_, rfl⟩
  have hz1 : W1.heap.size = S.heap.size := by rw [hW1]; simp
  have h21 : Two W1 p q B 1 true := by rw [hW1]; exact h2S.setn 1
  have hs1 : But p q S W1 := .of_set (k := p) (by rw [hW1]; exact cell_grown _ _ _ _) (.inl rfl)
  have hb1 : But p q w W1 := (But.of_below hbS).trans hs1
  have hF1 : FLs W1 W1.heap.size F fa fn := (h.kept (hb1.low h2.lp h2.lq hB)).mono (by have := hb1.size; omega)
  have x0' := (hs1.cell (a := ⟨w.heap.size, 0, none⟩) (by show w.heap.size < _; omega) (by show w.heap.size ≠ _; omega) (by show w.heap.size ≠ _; omega)).trans x0
  have x1' := (hs1.cell (a := ⟨w.heap.size, 1, none⟩) (by show w.heap.size < _; omega) (by show w.heap.size ≠ _; omega) (by show w.heap.size ≠ _; omega)).trans x1
  have x2' := (hs1.cell (a := ⟨w.heap.size, 2, none⟩) (by show w.heap.size < _; omega) (by show w.heap.size ≠ _; omega) (by show w.heap.size ≠ _; omega)).trans x2
  have x3' := (hs1.cell (a := ⟨w.heap.size, 3, none⟩) (by show w.heap.size < _; omega) (by show w.heap.size ≠ _; omega) (by show w.heap.size ≠ _; omega)).trans x3
  have x4' := (hs1.cell (a := ⟨w.heap.size, 4, none⟩) (by show w.heap.size < _; omega) (by show w.heap.size ≠ _; omega) (by show w.heap.size ≠ _; omega)).trans x4
  have x5' := (hs1.cell (a := ⟨w.heap.size, 5, none⟩) (by show w.heap.size < _; omega) (by show w.heap.size ≠ _; omega) (by show w.heap.size ≠ _; omega)).trans x5
  have x6' := (hs1.cell (a := ⟨w.heap.size, 6, none⟩) (by show w.heap.size < _; omega) (by show w.heap.size ≠ _; omega) (by show w.heap.size ≠ _; omega)).trans x6
  have x7' := (hs1.cell (a := ⟨w.heap.size, 7, none⟩) (by show w.heap.size < _; omega) (by show w.heap.size ≠ _; omega) (by show w.heap.size ≠ _; omega)).trans x7
  clear x0 x1 x2 x3 x4 x5 x6 x7
  have cA := alone_plain κ n s la fa ln lc fn fc el key hk F W1 hκ hln hs hks hF1
  rw [← hV.out] at cA
  replace cA := Lib.hid cA
  clear hF1 hκ h hs hks hln
  replace h21 := Lib.hid h21
  replace hb1 := Lib.hid hb1
  replace hs1 := Lib.hid hs1
  replace h2S := Lib.hid h2S
  replace h2 := Lib.hid h2
  replace hW1 := Lib.hid hW1
  go_enter Tryz.func134, Tryz.ntmps134
  go_wp2_with (first | (rw [← hWS.out]) | (rw [← hW1.out]) | (go_at_call 135; refine cA.out.mono ?_))
  first | rintro e w3 rfl hb3 | rintro e w3 ⟨rfl, hb3⟩
  have h23 := h21.out.later hb3
  have d0 := h23.cn
  have d1 := h23.cb
  have g1 := h23.fb
  have h24 : Hid (Two (w3.setCell ⟨q, 0, none⟩ (.bool V)) p q B 1 V) := h23.setb V
  have hb4 : Hid (But p q w (w3.setCell ⟨q, 0, none⟩ (.bool V))) := (hb1.out.trans (But.of_below hb3)).trans (.of_set (k := q) (cell_grown _ _ _ _) (.inr rfl))
  replace h23 := Lib.hid h23
  clear c0 f0
  replace hb3 := Lib.hid hb3
  clear x0' x1' x2' x3' x4' x5' x6' x7'
  have k0 := h24.out.cb
  cases V
  · go_wp2_with fail
    go_ret
    exact ⟨rfl, h24.out, hb4.out⟩
  · go_wp2_with fail
    go_ret
    exact ⟨rfl, h24.out, hb4.out⟩
set_option maxHeartbeats 2000000 in
set_option maxRecDepth 100000 in
theorem each1_any (κ n : Int) (s : ByteArray) (la fa : Option Addr) (ln lc fn fc : Nat) (el : Int) (key : ByteArray) (hk : Bool) (F : List Fld) (p q B d g : Nat) (w : World) (hκ : κ = 1 ∨ κ = 2 ∨ κ = 3) (hln : ln ≤ 1152921504606846976) (hs : s.size ≤ 140737488355328) (hks : key.size ≤ 140737488355328) (h2 : Two w p q B 0 true) (h : FLs w B F fa fn) (hd : w.cell? ⟨d, 0, none⟩ = some (.func (.func 134) #[] #[.pointer (some ⟨p, 0, none⟩), .pointer (some ⟨q, 0, none⟩)])) (hdl : d < w.heap.size) :
    Calls Tryz.prog 149 #[.agg #[.int .u8 κ, .int .i64 n, .string s, .slice la ln lc, .slice fa fn fc, .int .u8 el, .string key, .bool hk], .int .i64 1, .pointer (some ⟨d, 0, none⟩), .pointer (some ⟨g, 0, none⟩)] w fun e w' => Chk p q B (plainP κ n s ln fn el key hk) w e w' := by
  have hlp := h2.ltp
  have hlq := h2.ltq
  have hB : B ≤ w.heap.size := by have := h2.lp; omega
  obtain ⟨S, hS⟩ : ∃ S, S = w.alloc (.cells #[.int .u8 κ, .int .i64 n, .string s, .slice la ln lc, .slice fa fn fc, .int .u8 el, .string key, .bool hk] 59) := ⟨_, rfl⟩
  have hbS : Below w.heap.size w S := by rw [hS]; exact (Below.refl _ _).alloc (Nat.le_refl _) _
  have hrS : S.heap[w.heap.size]? = some (.cells #[.int .u8 κ, .int .i64 n, .string s, .slice la ln lc, .slice fa fn fc, .int .u8 el, .string key, .bool hk] 59 (0, 0)) := by rw [hS]; exact heap_alloc_new w _
  have hzS : S.heap.size = w.heap.size + 1 := by rw [hS]; simp
  have x0 : S.cell? ⟨w.heap.size, 0, none⟩ = some (.int .u8 κ) := by simp [World.cell?, hrS]
  have x1 : S.cell? ⟨w.heap.size, 1, none⟩ = some (.int .i64 n) := by simp [World.cell?, hrS]
  have x2 : S.cell? ⟨w.heap.size, 2, none⟩ = some (.string s) := by simp [World.cell?, hrS]
  have x3 : S.cell? ⟨w.heap.size, 3, none⟩ = some (.slice la ln lc) := by simp [World.cell?, hrS]
  have x4 : S.cell? ⟨w.heap.size, 4, none⟩ = some (.slice fa fn fc) := by simp [World.cell?, hrS]
  have x5 : S.cell? ⟨w.heap.size, 5, none⟩ = some (.int .u8 el) := by simp [World.cell?, hrS]
  have x6 : S.cell? ⟨w.heap.size, 6, none⟩ = some (.string key) := by simp [World.cell?, hrS]
  have x7 : S.cell? ⟨w.heap.size, 7, none⟩ = some (.bool hk) := by simp [World.cell?, hrS]
  have hWS : Hid (S = _) := hS
  replace hrS := Lib.hid hrS
  clear hS
  have h2S := h2.later (hbS.mono (Nat.le_refl _))
  have hdS := (hbS.cell (p := ⟨d, 0, none⟩) hdl).trans hd
  have hFS : FLs S B F fa fn := h.kept (hbS.mono hB)
  have cA := chk1_any κ n s la fa ln lc fn fc el key hk F p q B S hκ hln hs hks h2S hFS
  obtain ⟨V, hV⟩ : ∃ V, V = plainP κ n s ln fn el key hk := ⟨_, rfl⟩
  rw [← hV] at cA ⊢
  replace cA := Lib.hid cA
  replace hV := Lib.hid hV
  clear hFS hκ h hs hks hd hln
  replace h2S := Lib.hid h2S
  replace h2 := Lib.hid h2
  go_enter Tryz.func149, Tryz.ntmps149
  go_wp2_with (first | (rw [← hWS.out]) | (go_at_call 134; refine cA.out.mono ?_))
  rintro e w3 ⟨rfl, h23, hb3⟩
  have hb4 : Hid (But p q w w3) := (But.of_below hbS).trans hb3
  cases V
  · clear x0 x1 x2 x3 x4 x5 x6 x7
    go_wp2_with fail
    go_ret
    exact ⟨rfl, h23, hb4.out⟩
  · obtain ⟨rfl, rfl⟩ := plain_empty hV.out.symm
    have y3 := (hb3.cell (a := ⟨w.heap.size, 3, none⟩) (by show w.heap.size < _; omega) (by show w.heap.size ≠ _; omega) (by show w.heap.size ≠ _; omega)).trans x3
    have y4 := (hb3.cell (a := ⟨w.heap.size, 4, none⟩) (by show w.heap.size < _; omega) (by show w.heap.size ≠ _; omega) (by show w.heap.size ≠ _; omega)).trans x4
    clear x0 x1 x2 x3 x4 x5 x6 x7
    replace h23 := Lib.hid h23
    replace hb3 := Lib.hid hb3
    go_wp2_with fail
    go_loopw [19] (fun i wr => i = .int .i64 0 ∧ wr = w3) (fun _ _ => 0)
    case atStart => exact ⟨rfl, rfl⟩
    case round =>
      obtain ⟨rfl, rfl⟩ := hrel
      go_wp2_with fail
      go_loopw [33] (fun i wr' => i = .int .i64 0 ∧ wr' = wr) (fun _ _ => 0)
      case atStart => exact ⟨rfl, rfl⟩
      case round =>
        obtain ⟨rfl, rfl⟩ := hrel
        go_wp2_with fail
        go_ret
        exact ⟨rfl, h23.out, hb4.out⟩
end Go.Proofs.YtehcbicngbibgaaGreatDoor

/- value.Check of the three plain kinds: each, Check. -/
namespace Go.Proofs.YtehcbicngbibgaaGreatDoor
open Go Go.RowKit
set_option maxHeartbeats 2000000 in
set_option maxRecDepth 100000 in
theorem each_any (κ n : Int) (s : ByteArray) (la fa : Option Addr) (ln lc fn fc : Nat) (el : Int) (key : ByteArray) (hk : Bool) (F : List Fld) (p q B : Nat) (w : World) (hκ : κ = 1 ∨ κ = 2 ∨ κ = 3) (hln : ln ≤ 1152921504606846976) (hs : s.size ≤ 140737488355328) (hks : key.size ≤ 140737488355328) (h2 : Two w p q B 0 true) (h : FLs w B F fa fn) :
    Calls Tryz.prog 133 #[.agg #[.int .u8 κ, .int .i64 n, .string s, .slice la ln lc, .slice fa fn fc, .int .u8 el, .string key, .bool hk], (.func (.func 134) #[] #[.pointer (some ⟨p, 0, none⟩), .pointer (some ⟨q, 0, none⟩)])] w fun e w' => Chk p q B (plainP κ n s ln fn el key hk) w (.returned (.bool (plainP κ n s ln fn el key hk))) w' ∧ e = .returned (.tuple #[]) := by
  have hlp := h2.ltp
  have hlq := h2.ltq
  have hB : B ≤ w.heap.size := by have := h2.lp; omega
  obtain ⟨S, hS⟩ : ∃ S, S = w.alloc (.cells #[.int .u8 κ, .int .i64 n, .string s, .slice la ln lc, .slice fa fn fc, .int .u8 el, .string key, .bool hk] 59) := ⟨_, rfl⟩
  have hbS : Below w.heap.size w S := by rw [hS]; exact (Below.refl _ _).alloc (Nat.le_refl _) _
  have hrS : S.heap[w.heap.size]? = some (.cells #[.int .u8 κ, .int .i64 n, .string s, .slice la ln lc, .slice fa fn fc, .int .u8 el, .string key, .bool hk] 59 (0, 0)) := by rw [hS]; exact heap_alloc_new w _
  have hzS : S.heap.size = w.heap.size + 1 := by rw [hS]; simp
  have x0 : S.cell? ⟨w.heap.size, 0, none⟩ = some (.int .u8 κ) := by simp [World.cell?, hrS]
  have x1 : S.cell? ⟨w.heap.size, 1, none⟩ = some (.int .i64 n) := by simp [World.cell?, hrS]
  have x2 : S.cell? ⟨w.heap.size, 2, none⟩ = some (.string s) := by simp [World.cell?, hrS]
  have x3 : S.cell? ⟨w.heap.size, 3, none⟩ = some (.slice la ln lc) := by simp [World.cell?, hrS]
  have x4 : S.cell? ⟨w.heap.size, 4, none⟩ = some (.slice fa fn fc) := by simp [World.cell?, hrS]
  have x5 : S.cell? ⟨w.heap.size, 5, none⟩ = some (.int .u8 el) := by simp [World.cell?, hrS]
  have x6 : S.cell? ⟨w.heap.size, 6, none⟩ = some (.string key) := by simp [World.cell?, hrS]
  have x7 : S.cell? ⟨w.heap.size, 7, none⟩ = some (.bool hk) := by simp [World.cell?, hrS]
  have hWS : Hid (S = _) := hS
  replace hrS := Lib.hid hrS
  clear hS
  obtain ⟨S2, hS2⟩ : ∃ S2, S2 = S.alloc (.cells #[(.func (.func 134) #[] #[.pointer (some ⟨p, 0, none⟩), .pointer (some ⟨q, 0, none⟩)])] 183) := ⟨_, rfl⟩
  have hb2 : Below w.heap.size w S2 := by rw [hS2]; exact hbS.alloc (by omega) _
  have hz2 : S2.heap.size = w.heap.size + 1 + 1 := by rw [hS2]; simp [hzS]
  have hr2 : S2.heap[w.heap.size + 1]? = some (.cells #[(.func (.func 134) #[] #[.pointer (some ⟨p, 0, none⟩), .pointer (some ⟨q, 0, none⟩)])] 183 (0, 0)) := by rw [hS2, ← hzS]; exact heap_alloc_new S _
  have hq2 : S2.heap[w.heap.size]? = S.heap[w.heap.size]? := by rw [hS2]; exact Lib.alloc_old S _ _ (by omega)
  have y0 : S2.cell? ⟨w.heap.size, 0, none⟩ = some (.int .u8 κ) := (World.cell?_of_block (a := ⟨w.heap.size, 0, none⟩) hq2).trans x0
  have y1 : S2.cell? ⟨w.heap.size, 1, none⟩ = some (.int .i64 n) := (World.cell?_of_block (a := ⟨w.heap.size, 1, none⟩) hq2).trans x1
  have y2 : S2.cell? ⟨w.heap.size, 2, none⟩ = some (.string s) := (World.cell?_of_block (a := ⟨w.heap.size, 2, none⟩) hq2).trans x2
  have y3 : S2.cell? ⟨w.heap.size, 3, none⟩ = some (.slice la ln lc) := (World.cell?_of_block (a := ⟨w.heap.size, 3, none⟩) hq2).trans x3
  have y4 : S2.cell? ⟨w.heap.size, 4, none⟩ = some (.slice fa fn fc) := (World.cell?_of_block (a := ⟨w.heap.size, 4, none⟩) hq2).trans x4
  have y5 : S2.cell? ⟨w.heap.size, 5, none⟩ = some (.int .u8 el) := (World.cell?_of_block (a := ⟨w.heap.size, 5, none⟩) hq2).trans x5
  have y6 : S2.cell? ⟨w.heap.size, 6, none⟩ = some (.string key) := (World.cell?_of_block (a := ⟨w.heap.size, 6, none⟩) hq2).trans x6
  have y7 : S2.cell? ⟨w.heap.size, 7, none⟩ = some (.bool hk) := (World.cell?_of_block (a := ⟨w.heap.size, 7, none⟩) hq2).trans x7
  clear x0 x1 x2 x3 x4 x5 x6 x7
  obtain ⟨S3, hS3⟩ : ∃ S3, S3 = S2.alloc (.cells #[.nilFunc] 183) := ⟨_, rfl⟩
  have hb3 : Below w.heap.size w S3 := by rw [hS3]; exact hb2.alloc (by omega) _
  have hb23 : Below S2.heap.size S2 S3 := by rw [hS3]; exact (Below.refl _ _).alloc (by omega) _
  have hz3 : S3.heap.size = w.heap.size + 1 + 1 + 1 := by rw [hS3]; simp [hz2]
  have hr3 : S3.heap[w.heap.size + 1 + 1]? = some (.cells #[.nilFunc] 183 (0, 0)) := by rw [hS3, ← hz2]; exact heap_alloc_new S2 _
  have f3 : S3.frozen? ⟨w.heap.size + 1 + 1, 0, none⟩ = false := by simp [World.frozen?, hr3]
  have c3 : S3.cell? ⟨w.heap.size + 1 + 1, 0, none⟩ = some .nilFunc := by simp [World.cell?, hr3]
  obtain ⟨S4, hS4⟩ : ∃ S4, S4 = S3.setCell ⟨w.heap.size + 1 + 1, 0, none⟩ (.func (.func 149) #[] #[.pointer (some ⟨w.heap.size + 1, 0, none⟩), .pointer (some ⟨w.heap.size + 1 + 1, 0, none⟩)]) := ⟨_, rfl⟩
  have hg4 : S3.grownBy S4 (some (w.heap.size + 1 + 1)) := by rw [hS4]; exact cell_grown _ _ _ _
  have hz4 : S4.heap.size = w.heap.size + 1 + 1 + 1 := by rw [hS4]; simp [hz3]
  have hb4 : Below w.heap.size w S4 := hb3.grown hg4 (by omega) (fun q hq => by injection hq with hq; omega)
  have hb24 : Below S2.heap.size S2 S4 := hb23.grown hg4 (by omega) (fun q hq => by injection hq with hq; omega)
  have hr4 : S4.heap[w.heap.size + 1 + 1]? = some (.cells #[(.func (.func 149) #[] #[.pointer (some ⟨w.heap.size + 1, 0, none⟩), .pointer (some ⟨w.heap.size + 1 + 1, 0, none⟩)])] 183 (0, 0)) := by rw [hS4]; exact blk_set hr3 0 _
  have d4 : S4.cell? ⟨w.heap.size + 1 + 1, 0, none⟩ = some (.func (.func 149) #[] #[.pointer (some ⟨w.heap.size + 1, 0, none⟩), .pointer (some ⟨w.heap.size + 1 + 1, 0, none⟩)]) := by simp [World.cell?, hr4]
  have d3 : S4.cell? ⟨w.heap.size + 1, 0, none⟩ = some (.func (.func 134) #[] #[.pointer (some ⟨p, 0, none⟩), .pointer (some ⟨q, 0, none⟩)]) := (hb24.cell (p := ⟨w.heap.size + 1, 0, none⟩) (by show w.heap.size + 1 < _; omega)).trans (by simp [World.cell?, hr2])
  have x0 := (hb24.cell (p := ⟨w.heap.size, 0, none⟩) (by show w.heap.size < _; omega)).trans y0
  have x1 := (hb24.cell (p := ⟨w.heap.size, 1, none⟩) (by show w.heap.size < _; omega)).trans y1
  have x2 := (hb24.cell (p := ⟨w.heap.size, 2, none⟩) (by show w.heap.size < _; omega)).trans y2
  have x3 := (hb24.cell (p := ⟨w.heap.size, 3, none⟩) (by show w.heap.size < _; omega)).trans y3
  have x4 := (hb24.cell (p := ⟨w.heap.size, 4, none⟩) (by show w.heap.size < _; omega)).trans y4
  have x5 := (hb24.cell (p := ⟨w.heap.size, 5, none⟩) (by show w.heap.size < _; omega)).trans y5
  have x6 := (hb24.cell (p := ⟨w.heap.size, 6, none⟩) (by show w.heap.size < _; omega)).trans y6
  have x7 := (hb24.cell (p := ⟨w.heap.size, 7, none⟩) (by show w.heap.size < _; omega)).trans y7
  clear y0 y1 y2 y3 y4 y5 y6 y7
  have cE := each1_any κ n s la fa ln lc fn fc el key hk F p q B (w.heap.size + 1) (w.heap.size + 1 + 1) S4 hκ hln hs hks (h2.later hb4) (h.kept (hb4.mono hB)) d3 (by omega)
  obtain ⟨V, hV⟩ : ∃ V, V = plainP κ n s ln fn el key hk := ⟨_, rfl⟩
  rw [← hV] at cE ⊢
  replace cE := Lib.hid cE
  replace hV := Lib.hid hV
  replace hS2 := Lib.hid hS2
  replace hS3 := Lib.hid hS3
  replace hS4 := Lib.hid hS4
  replace hb4 := Lib.hid hb4
  replace h2 := Lib.hid h2
  clear hκ h hs hks hln hr4 hr3 hq2 hr2 hg4 hb24 hb23 hb3 hb2
  go_enter Tryz.func133, Tryz.ntmps133
  go_wp2_with (first | (rw [← hWS.out]) | (rw [← hS2.out]) | (rw [← hS3.out]) | (rw [← hS4.out]) | (go_at_call 149; refine cE.out.mono ?_))
  rintro e w3 ⟨rfl, h23, hb5⟩
  go_wp2_with fail
  exact bodyPost_end (v := .tuple #[]) (results_none (by kernel_rfl) _ _ _) rfl ⟨⟨rfl, h23, (But.of_below hb4.out).trans hb5⟩, rfl⟩
set_option maxHeartbeats 2000000 in
set_option maxRecDepth 100000 in
theorem valCheck_any (κ n : Int) (s : ByteArray) (la fa : Option Addr) (ln lc fn fc : Nat) (el : Int) (key : ByteArray) (hk : Bool) (F : List Fld) (w : World) (hκ : κ = 1 ∨ κ = 2 ∨ κ = 3) (hln : ln ≤ 1152921504606846976) (hs : s.size ≤ 140737488355328) (hks : key.size ≤ 140737488355328) (h : FLs w w.heap.size F fa fn) :
    Calls Tryz.prog 83 #[.agg #[.int .u8 κ, .int .i64 n, .string s, .slice la ln lc, .slice fa fn fc, .int .u8 el, .string key, .bool hk]] w fun e w' => e = .returned (.bool (plainP κ n s ln fn el key hk)) ∧ Below w.heap.size w w' := by
  obtain ⟨S, hS⟩ : ∃ S, S = w.alloc (.cells #[.int .u8 κ, .int .i64 n, .string s, .slice la ln lc, .slice fa fn fc, .int .u8 el, .string key, .bool hk] 59) := ⟨_, rfl⟩
  have hbS : Below w.heap.size w S := by rw [hS]; exact (Below.refl _ _).alloc (Nat.le_refl _) _
  have hrS : S.heap[w.heap.size]? = some (.cells #[.int .u8 κ, .int .i64 n, .string s, .slice la ln lc, .slice fa fn fc, .int .u8 el, .string key, .bool hk] 59 (0, 0)) := by rw [hS]; exact heap_alloc_new w _
  have hzS : S.heap.size = w.heap.size + 1 := by rw [hS]; simp
  have x0 : S.cell? ⟨w.heap.size, 0, none⟩ = some (.int .u8 κ) := by simp [World.cell?, hrS]
  have x1 : S.cell? ⟨w.heap.size, 1, none⟩ = some (.int .i64 n) := by simp [World.cell?, hrS]
  have x2 : S.cell? ⟨w.heap.size, 2, none⟩ = some (.string s) := by simp [World.cell?, hrS]
  have x3 : S.cell? ⟨w.heap.size, 3, none⟩ = some (.slice la ln lc) := by simp [World.cell?, hrS]
  have x4 : S.cell? ⟨w.heap.size, 4, none⟩ = some (.slice fa fn fc) := by simp [World.cell?, hrS]
  have x5 : S.cell? ⟨w.heap.size, 5, none⟩ = some (.int .u8 el) := by simp [World.cell?, hrS]
  have x6 : S.cell? ⟨w.heap.size, 6, none⟩ = some (.string key) := by simp [World.cell?, hrS]
  have x7 : S.cell? ⟨w.heap.size, 7, none⟩ = some (.bool hk) := by simp [World.cell?, hrS]
  have hWS : Hid (S = _) := hS
  replace hrS := Lib.hid hrS
  clear hS
  obtain ⟨S2, hS2⟩ : ∃ S2, S2 = S.alloc (.cells #[.int .i64 0] 3) := ⟨_, rfl⟩
  obtain ⟨S5, hS5⟩ : ∃ S5, S5 = S2.alloc (.cells #[.bool false] 4) := ⟨_, rfl⟩
  have hb2 : Below S.heap.size S S2 := by rw [hS2]; exact (Below.refl _ _).alloc (by omega) _
  have hz2 : S2.heap.size = w.heap.size + 1 + 1 := by rw [hS2]; simp [hzS]
  have hr2 : S2.heap[w.heap.size + 1]? = some (.cells #[.int .i64 0] 3 (0, 0)) := by rw [hS2, ← hzS]; exact heap_alloc_new S _
  have hb5 : Below S2.heap.size S2 S5 := by rw [hS5]; exact (Below.refl _ _).alloc (by omega) _
  have hz5 : S5.heap.size = w.heap.size + 1 + 1 + 1 := by rw [hS5]; simp [hz2]
  have hr5 : S5.heap[w.heap.size + 1 + 1]? = some (.cells #[.bool false] 4 (0, 0)) := by rw [hS5, ← hz2]; exact heap_alloc_new S2 _
  have hS32 : Below S.heap.size S S5 := hb2.trans (hb5.mono (by omega))
  have h5 : Two S5 (w.heap.size + 1) (w.heap.size + 1 + 1) w.heap.size 0 false := ⟨(hb5.block _ (by omega)).trans hr2, hr5, by omega, by omega, by omega⟩
  obtain ⟨S6, hS6⟩ : ∃ S6, S6 = S5.setCell ⟨w.heap.size + 1, 0, none⟩ (.int .i64 0) := ⟨_, rfl⟩
  have h6 : Two S6 (w.heap.size + 1) (w.heap.size + 1 + 1) w.heap.size 0 false := by rw [hS6]; exact h5.setn 0
  have hB6 : Below S.heap.size S S6 := hS32.grown (row := some (w.heap.size + 1)) (by rw [hS6]; exact cell_grown _ _ _ _) (by omega) (fun q hq => by injection hq with hq; omega)
  obtain ⟨S3, hS3⟩ : ∃ S3, S3 = S6.setCell ⟨w.heap.size + 1 + 1, 0, none⟩ (.bool true) := ⟨_, rfl⟩
  have hz6 : S6.heap.size = S5.heap.size := by rw [hS6]; simp
  have hB3 : Below S.heap.size S S3 := hB6.grown (row := some (w.heap.size + 1 + 1)) (by rw [hS3]; exact cell_grown _ _ _ _) (by omega) (fun q hq => by injection hq with hq; omega)
  have h2 : Two S3 (w.heap.size + 1) (w.heap.size + 1 + 1) w.heap.size 0 true := by rw [hS3]; exact h6.setb true
  have c5 := h5.cn
  have f5 := h5.fn
  have c6 := h6.cb
  have f6 := h6.fb
  have hb4 : Below w.heap.size w S3 := hbS.trans (hB3.mono (by omega))
  have y0 := (hB3.cell (p := ⟨w.heap.size, 0, none⟩) (by show w.heap.size < _; omega)).trans x0
  have y1 := (hB3.cell (p := ⟨w.heap.size, 1, none⟩) (by show w.heap.size < _; omega)).trans x1
  have y2 := (hB3.cell (p := ⟨w.heap.size, 2, none⟩) (by show w.heap.size < _; omega)).trans x2
  have y3 := (hB3.cell (p := ⟨w.heap.size, 3, none⟩) (by show w.heap.size < _; omega)).trans x3
  have y4 := (hB3.cell (p := ⟨w.heap.size, 4, none⟩) (by show w.heap.size < _; omega)).trans x4
  have y5 := (hB3.cell (p := ⟨w.heap.size, 5, none⟩) (by show w.heap.size < _; omega)).trans x5
  have y6 := (hB3.cell (p := ⟨w.heap.size, 6, none⟩) (by show w.heap.size < _; omega)).trans x6
  have y7 := (hB3.cell (p := ⟨w.heap.size, 7, none⟩) (by show w.heap.size < _; omega)).trans x7
  clear x0 x1 x2 x3 x4 x5 x6 x7
  have cE := each_any κ n s la fa ln lc fn fc el key hk F (w.heap.size + 1) (w.heap.size + 1 + 1) w.heap.size S3 hκ hln hs hks h2 (h.kept hb4)
  obtain ⟨V, hV⟩ : ∃ V, V = plainP κ n s ln fn el key hk := ⟨_, rfl⟩
  rw [← hV] at cE ⊢
  replace cE := Lib.hid cE
  replace hV := Lib.hid hV
  replace hS2 := Lib.hid hS2
  replace hS3 := Lib.hid hS3
  replace hb4 := Lib.hid hb4
  replace h2 := Lib.hid h2
  replace hS5 := Lib.hid hS5
  replace hS6 := Lib.hid hS6
  clear hκ h hs hks hln hr5 hr2 hb5 hb2 hS32 h5 h6 hB6 hB3
  go_enter Tryz.func83, Tryz.ntmps83
  go_wp2_with (first | (rw [← hWS.out]) | (rw [← hS2.out]) | (rw [← hS5.out]) | (rw [← hS6.out]) | (rw [← hS3.out]) | (go_at_call 133; refine cE.out.mono ?_))
  first | rintro e w3 hc rfl | rintro e w3 ⟨hc, rfl⟩
  have d1 := hc.two.cb
  have hb5 : Hid (Below w.heap.size w w3) := hb4.out.trans (hc.but.low (Nat.le_succ _) (by omega) hb4.out.size)
  replace hc := Lib.hid hc
  go_wp2_with fail
  go_ret
  exact ⟨rfl, hb5.out⟩
end Go.Proofs.YtehcbicngbibgaaGreatDoor
