/- The Book's marks of three kinds: how they are made, how they are known. -/
import Derived.Test.YtehcbicngbibgaaGreatDoorZTt
import Derived.Test.YtehcbicngbibgaaGreatDoorZBa
namespace Go
theorem run_append_ways {P : Program} (w : World) (base : Nat) (t ty e : TypeId) (i : TypeInfo) (z : Value) (size bytes : Nat) (ht : P.underlying t = some (.slice e)) (hi : P.info? e = some i) (hz : i.zero = some z)
    (hsize : i.size = size) (hby : i.bytes = bytes) (hzs : z.cells.size = size) (hsz : 0 < size)
    (v : Value) (n : Nat) (xs : List Value) (hown : w.ownsRow base e size v n xs)
    (a : Addr) (m c : Nat) (news : List Value) (hl : news.length = m * size) (hnews : ∀ j u, news[j]? = some u → w.cell? (a.add j) = some u) (h1 : ∀ u ∈ news, u.oneCell' = true)
    (h63 : n + m ≤ maxLen) (hbytes : (n + m) * bytes ≤ 140737488355328) (hbase : base ≤ w.heap.size) (hm : 0 < m) :
    ∃ v' w', (Builtin.append_ #[t, t] ty #[v, .slice (some a) m c]).run P w = .ok v' w' ∧ w'.ownsRow base e size v' (n + m) (xs ++ news) ∧ w.grownBy w' v.ownBlock ∧
      ((∃ g cap, v = .slice (some ⟨g, 0, none⟩) n cap ∧ v' = .slice (some ⟨g, 0, none⟩) (n + m) cap) ∨ (v'.ownBlock = some w.heap.size ∧ w.grownBy w' none)) := by
  obtain ⟨v', w', hr, hown2, hgr, _, hat⟩ := run_append_own_at (P := P) w base t ty e i z size bytes ht hi hz hsize hby hzs hsz v n xs hown a m c news hl hnews h1 h63 hbytes hbase
  refine ⟨v', w', hr, hown2, hgr, ?_⟩
  subst hsize
  have hsmall : n + m ≤ 9223372036854775807 := by simp only [maxLen] at h63; omega
  rcases hown.2 with ⟨rfl, rfl⟩ | ⟨g', cap, cur, rfl, hbg, hgg, hnc, hcm, hcs, htake⟩
  · right
    rcases hat with hat | hat
    · exfalso
      rcases hown2.2 with ⟨_, h0⟩ | ⟨g2, cap2, cur2, rfl, _⟩
      · omega
      · simp [Value.ownBlock] at hat
    · exact ⟨hat, hgr⟩
  · have holds : ∀ j u, xs[j]? = some u → w.cell? ((⟨g', 0, none⟩ : Addr).add j) = some u := hown.cells (g := g') rfl
    by_cases hroom : n + m ≤ cap
    · left
      have hfit : n * i.size + news.length ≤ cur.size := by rw [hl, hcs, ← Nat.add_mul]; exact Nat.mul_le_mul_right _ hroom
      have hrr := run_append_room (P := P) w t ty e i ht hi g' n cap cur hgg a m c news hl hnews h1 hroom hfit
      rw [hr] at hrr
      exact ⟨g', cap, rfl, (Result.ok.inj hrr).1⟩
    · right
      have hrr := run_append_grow (P := P) w t ty e i z ht hi hz ⟨g', 0, none⟩ n cap xs hown.1 holds a m c news hl hnews (by omega) (by omega) (growslice_fits (by omega) (by rw [hby]; exact hbytes))
      rw [hr] at hrr
      obtain ⟨hv, hw⟩ := Result.ok.inj hrr
      refine ⟨by rw [hv]; rfl, ?_⟩
      rw [hw]
      exact ⟨rfl, rfl, rfl, by simp, fun k hk _ => RowKit.Below.heap_alloc w.drew _ k hk⟩

theorem wpList_append_ways {P : Program} {w : World} {ops : Array Oper} {rest : List Oper} {o : Oper} {a : Act} {Q : Exit → Act → World → Prop} (hgd : o.guard = none) (s x : Operand) (t : TypeId)
    (ho : o.op = .call { callee := .builtin .append, args := #[s, x], argTypes := #[t, t] })
    (base : Nat) (e : TypeId) (i : TypeInfo) (z : Value) (size bytes : Nat) (ht : P.underlying t = some (.slice e)) (hi : P.info? e = some i) (hz : i.zero = some z)
    (hsize : i.size = size) (hby : i.bytes = bytes) (hzs : z.cells.size = size) (hsz : 0 < size)
    (v : Value) (n : Nat) (xs : List Value) (hs : a.eval s = v) (hown : w.ownsRow base e size v n xs)
    (ad : Addr) (m c : Nat) (news : List Value) (hx : a.eval x = .slice (some ad) m c) (hl : news.length = m * size) (hnews : ∀ j u, news[j]? = some u → w.cell? (ad.add j) = some u) (h1 : ∀ u ∈ news, u.oneCell' = true)
    (h63 : n + m ≤ maxLen) (hbytes : (n + m) * bytes ≤ 140737488355328) (hbase : base ≤ w.heap.size) (hm : 0 < m)
    (h : ∀ v' w', w'.ownsRow base e size v' (n + m) (xs ++ news) → w.grownBy w' v.ownBlock →
      ((∃ g cap, v = .slice (some ⟨g, 0, none⟩) n cap ∧ v' = .slice (some ⟨g, 0, none⟩) (n + m) cap) ∨ (v'.ownBlock = some w.heap.size ∧ w.grownBy w' none)) → wpList P ops Q rest (a.put o.dst v') w') :
    wpList P ops Q (o :: rest) a w := by
  refine wpList_plain hgd fun K hK => ?_
  obtain ⟨v', w', hr, h2, h3, h5⟩ := run_append_ways (P := P) w base t o.type e i z size bytes ht hi hz hsize hby hzs hsz v n xs hown ad m c news hl hnews h1 h63 hbytes hbase hm
  unfold Oper.wp execOp
  simp only [ho, resolve, invoke, builtin, Sem.run_bind, Sem.run_pure, Result.andThen_ok, List.map_toArray, List.map_cons, List.map_nil, hs, hx, hr]
  exact hK _ _ (h v' w' h2 h3 h5)

/-- A slice of a row's first elements owns them. -/
theorem World.ownsRow.front {w : World} {base : Nat} {e : TypeId} {size g n m cap : Nat} {xs ys : List Value} (h : w.ownsRow base e size (.slice (some ⟨g, 0, none⟩) (n + m) cap) (n + m) (xs ++ ys)) (hx : xs.length = n * size) :
    w.ownsRow base e size (.slice (some ⟨g, 0, none⟩) n cap) n xs := by
  refine ⟨hx, ?_⟩
  rcases h.2 with ⟨h', _⟩ | ⟨g', cap', cur, h', hb, hg, hnc, hcm, hcs, htake⟩
  · simp at h'
  · simp only [Value.slice.injEq, Option.some.injEq, Addr.mk.injEq, and_true, true_and] at h'
    obtain ⟨rfl, rfl⟩ := h'
    refine .inr ⟨g, cap, cur, rfl, hb, hg, by omega, hcm, hcs, ?_⟩
    have := congrArg (List.take (n * size)) htake
    rw [List.take_take, Nat.min_eq_left (Nat.mul_le_mul_right _ (by omega)), List.take_left' hx] at this
    exact this
end Go
namespace Go.Proofs.YtehcbicngbibgaaGreatDoor
open Go Go.RowKit
def wordB (i : Nat) : ByteArray := ⟨#[35]⟩ ++ bs (Lib.itoa (i : Int))
theorem word_any (i : Nat) (hi : i ≤ 1073741824) (w : World) (hE : Env w) : Calls Tryz.prog 144 #[.int .i64 (i : Nat)] w fun e w' => e = .returned (.string (wordB i)) ∧ Below w.heap.size w w' := by
  have cI : Calls Tryz.prog 167 #[.int .i64 (i : Nat)] w fun e w' => e = .returned (.string (bs (Lib.itoa (i : Int)))) ∧ Below w.heap.size w w' :=
    (Tryz.strconv_Itoa (i : Int) (by omega) (by omega) w hE).mono fun e w' h => ⟨h.1, by obtain ⟨k, os, hw⟩ := h.2; exact hw ▸ Lib.below_grow _ w (Nat.le_refl _) k os⟩
  have hz : (bs (Lib.itoa (i : Int))).size ≤ 21 := by rw [bs_size]; exact Lib.itoa_length_le _ (by omega) (by omega)
  unfold wordB
  generalize bs (Lib.itoa (i : Int)) = D at *
  replace cI := Lib.hid cI
  go_enter Tryz.func144, Tryz.ntmps144
  go_wp2_with (go_at_call 167; refine cI.out.mono ?_)
  first | rintro e w3 rfl hb3 | rintro e w3 ⟨rfl, hb3⟩
  replace hb3 := Lib.hid hb3
  go_wp2_with fail
  go_ret
  exact ⟨rfl, hb3.out⟩
theorem sets8 {w : World} {g : Nat} {t : TypeId} {a0 a1 a2 a3 a4 a5 a6 a7 : Value} (h : w.heap[g]? = some (.cells #[a0, a1, a2, a3, a4, a5, a6, a7] t (0, 0))) (b0 b1 b2 b3 b4 b5 b6 b7 : Value) :
    (((((((((w.setCell ⟨g, 0, none⟩ b0).setCell ⟨g, 1, none⟩ b1).setCell ⟨g, 2, none⟩ b2).setCell ⟨g, 3, none⟩ b3).setCell ⟨g, 4, none⟩ b4).setCell ⟨g, 5, none⟩ b5).setCell ⟨g, 6, none⟩ b6).setCell ⟨g, 7, none⟩ b7)).heap[g]? = some (.cells #[b0, b1, b2, b3, b4, b5, b6, b7] t (0, 0)) := by
  have h0 := blk_set h 0 b0
  have h1 := blk_set h0 1 b1
  have h2 := blk_set h1 2 b2
  have h3 := blk_set h2 3 b3
  have h4 := blk_set h3 4 b4
  have h5 := blk_set h4 5 b5
  have h6 := blk_set h5 6 b6
  have h7 := blk_set h6 7 b7
  simpa using h7
def mkValue (i : Nat) : List Value := [.int .u8 0, .int .i64 0, .string (wordB i), .slice none 0 0, .slice none 0 0, .int .u8 0, .string ⟨#[]⟩, .bool false]
theorem sizeValue : (Tryz.prog.info? 59).map (·.size) = some 8 := by kernel_rfl
set_option maxHeartbeats 4000000 in
set_option maxRecDepth 100000 in
theorem markValue_any (i : Nat) (hi : i ≤ 1073741824) (w : World) (hE : Env w) : Calls Tryz.prog 98 #[.int .i64 (i : Nat)] w fun e w' => e = .returned (.agg #[.int .u8 0, .int .i64 0, .string (wordB i), .slice none 0 0, .slice none 0 0, .int .u8 0, .string ⟨#[]⟩, .bool false]) ∧ Below w.heap.size w w' := by
  obtain ⟨S, hS⟩ : ∃ S, S = w.alloc (.cells #[.int .u8 0, .int .i64 0, .string ⟨#[]⟩, .slice none 0 0, .slice none 0 0, .int .u8 0, .string ⟨#[]⟩, .bool false] 59) := ⟨_, rfl⟩
  have hbS : Below w.heap.size w S := by rw [hS]; exact (Below.refl _ _).alloc (Nat.le_refl _) _
  have hzS : S.heap.size = w.heap.size + 1 := by rw [hS]; simp
  have hrS : S.heap[w.heap.size]? = some (.cells #[.int .u8 0, .int .i64 0, .string ⟨#[]⟩, .slice none 0 0, .slice none 0 0, .int .u8 0, .string ⟨#[]⟩, .bool false] 59 (0, 0)) := by rw [hS]; exact heap_alloc_new w _
  have cI := Lib.hid (word_any i hi S (hE.kept hbS))
  replace hE := Lib.hid hE
  replace hS := Lib.hid hS
  obtain ⟨z, hz⟩ : ∃ z, z = wordB i := ⟨_, rfl⟩
  rw [← hz] at cI ⊢
  replace hz := Lib.hid hz
  go_enter Tryz.func98, Tryz.ntmps98
  go_wp2_with (first | (rw [← hS.out]) | (go_at_call 144; refine cI.out.mono ?_))
  first | rintro e w3 rfl hb3 | rintro e w3 ⟨rfl, hb3⟩
  have hr3 : w3.heap[w.heap.size]? = some (.cells #[.int .u8 0, .int .i64 0, .string ⟨#[]⟩, .slice none 0 0, .slice none 0 0, .int .u8 0, .string ⟨#[]⟩, .bool false] 59 (0, 0)) := (hb3.block _ (by omega)).trans hrS
  have c0 : w3.cell? ⟨w.heap.size, 0, none⟩ = some (.int .u8 0) := by simp [World.cell?, hr3]
  have c1 : w3.cell? ⟨w.heap.size, 1, none⟩ = some (.int .i64 0) := by simp [World.cell?, hr3]
  have c2 : w3.cell? ⟨w.heap.size, 2, none⟩ = some (.string ⟨#[]⟩) := by simp [World.cell?, hr3]
  have c3 : w3.cell? ⟨w.heap.size, 3, none⟩ = some (.slice none 0 0) := by simp [World.cell?, hr3]
  have c4 : w3.cell? ⟨w.heap.size, 4, none⟩ = some (.slice none 0 0) := by simp [World.cell?, hr3]
  have c5 : w3.cell? ⟨w.heap.size, 5, none⟩ = some (.int .u8 0) := by simp [World.cell?, hr3]
  have c6 : w3.cell? ⟨w.heap.size, 6, none⟩ = some (.string ⟨#[]⟩) := by simp [World.cell?, hr3]
  have c7 : w3.cell? ⟨w.heap.size, 7, none⟩ = some (.bool false) := by simp [World.cell?, hr3]
  have f0 : w3.frozen? ⟨w.heap.size, 0, none⟩ = false := by simp [World.frozen?, hr3]
  have f1 : w3.frozen? ⟨w.heap.size, 1, none⟩ = false := by simp [World.frozen?, hr3]
  have f2 : w3.frozen? ⟨w.heap.size, 2, none⟩ = false := by simp [World.frozen?, hr3]
  have f3 : w3.frozen? ⟨w.heap.size, 3, none⟩ = false := by simp [World.frozen?, hr3]
  have f4 : w3.frozen? ⟨w.heap.size, 4, none⟩ = false := by simp [World.frozen?, hr3]
  have f5 : w3.frozen? ⟨w.heap.size, 5, none⟩ = false := by simp [World.frozen?, hr3]
  have f6 : w3.frozen? ⟨w.heap.size, 6, none⟩ = false := by simp [World.frozen?, hr3]
  have f7 : w3.frozen? ⟨w.heap.size, 7, none⟩ = false := by simp [World.frozen?, hr3]
  have hfin := Lib.hid (sets8 hr3 (.int .u8 0) (.int .i64 0) (.string (z)) (.slice none 0 0) (.slice none 0 0) (.int .u8 0) (.string ⟨#[]⟩) (.bool false))
  have hlow : Hid (Below w.heap.size w (((((((((w3.setCell ⟨w.heap.size, 0, none⟩ (.int .u8 0)).setCell ⟨w.heap.size, 1, none⟩ (.int .i64 0)).setCell ⟨w.heap.size, 2, none⟩ (.string (z))).setCell ⟨w.heap.size, 3, none⟩ (.slice none 0 0)).setCell ⟨w.heap.size, 4, none⟩ (.slice none 0 0)).setCell ⟨w.heap.size, 5, none⟩ (.int .u8 0)).setCell ⟨w.heap.size, 6, none⟩ (.string ⟨#[]⟩)).setCell ⟨w.heap.size, 7, none⟩ (.bool false)))) := (((((((((hbS.trans (hb3.mono (by omega))).setCell (p := ⟨w.heap.size, 0, none⟩) (Nat.le_refl _) (.int .u8 0)).setCell (p := ⟨w.heap.size, 1, none⟩) (Nat.le_refl _) (.int .i64 0)).setCell (p := ⟨w.heap.size, 2, none⟩) (Nat.le_refl _) (.string (z))).setCell (p := ⟨w.heap.size, 3, none⟩) (Nat.le_refl _) (.slice none 0 0)).setCell (p := ⟨w.heap.size, 4, none⟩) (Nat.le_refl _) (.slice none 0 0)).setCell (p := ⟨w.heap.size, 5, none⟩) (Nat.le_refl _) (.int .u8 0)).setCell (p := ⟨w.heap.size, 6, none⟩) (Nat.le_refl _) (.string ⟨#[]⟩)).setCell (p := ⟨w.heap.size, 7, none⟩) (Nat.le_refl _) (.bool false))
  clear hr3 hrS
  replace hb3 := Lib.hid hb3
  replace hbS := Lib.hid hbS
  go_wp2_with fail
  exact bodyPost_ret (results_cell1 (fn := Tryz.f98) (p := 2) (ty := 59) (by kernel_rfl) _ _ _ _ _ _ _ rfl hfin.out Tryz.underlying59 rfl sizeValue) rfl ⟨rfl, hlow.out⟩
set_option maxHeartbeats 4000000 in
set_option maxRecDepth 100000 in
theorem isValue_any (i : Nat) (hi : i ≤ 1073741824) (w : World) (hE : Env w) : Calls Tryz.prog 114 #[.agg #[.int .u8 0, .int .i64 0, .string (wordB i), .slice none 0 0, .slice none 0 0, .int .u8 0, .string ⟨#[]⟩, .bool false], .int .i64 (i : Nat)] w fun e w' => e = .returned (.bool true) ∧ Below w.heap.size w w' := by
  have heq : ((wordB i).toList == (wordB i).toList) = true := by simp
  have cI0 : ∀ W, Env W → Calls Tryz.prog 144 #[.int .i64 (i : Nat)] W fun e w' => e = .returned (.string (wordB i)) ∧ Below W.heap.size W w' := fun W h => word_any i hi W h
  generalize wordB i = z at *
  obtain ⟨S, hS⟩ : ∃ S, S = w.alloc (.cells #[.int .u8 0, .int .i64 0, .string (z), .slice none 0 0, .slice none 0 0, .int .u8 0, .string ⟨#[]⟩, .bool false] 59) := ⟨_, rfl⟩
  have hbS : Below w.heap.size w S := by rw [hS]; exact (Below.refl _ _).alloc (Nat.le_refl _) _
  have hzS : S.heap.size = w.heap.size + 1 := by rw [hS]; simp
  have hrS : S.heap[w.heap.size]? = some (.cells #[.int .u8 0, .int .i64 0, .string (z), .slice none 0 0, .slice none 0 0, .int .u8 0, .string ⟨#[]⟩, .bool false] 59 (0, 0)) := by rw [hS]; exact heap_alloc_new w _
  have hES : Env S := hE.kept hbS
  have cW : Hid (∀ d : LowW S, Calls Tryz.prog 144 #[.int .i64 (i : Nat)] d.w fun e w' => e = .returned (.string z) ∧ ∃ d' : LowW S, w' = d'.w) := fun d => (cI0 d.w (hES.kept d.low)).mono fun e w' h => ⟨h.1, d.more h.2⟩
  have c0 : ∀ d : LowW S, d.w.cell? ⟨w.heap.size, 0, none⟩ = some (.int .u8 0) := fun d => (d.cell (by show w.heap.size < _; omega)).trans (by simp [World.cell?, hrS])
  have c1 : ∀ d : LowW S, d.w.cell? ⟨w.heap.size, 1, none⟩ = some (.int .i64 0) := fun d => (d.cell (by show w.heap.size < _; omega)).trans (by simp [World.cell?, hrS])
  have c2 : ∀ d : LowW S, d.w.cell? ⟨w.heap.size, 2, none⟩ = some (.string (z)) := fun d => (d.cell (by show w.heap.size < _; omega)).trans (by simp [World.cell?, hrS])
  have c3 : ∀ d : LowW S, d.w.cell? ⟨w.heap.size, 3, none⟩ = some (.slice none 0 0) := fun d => (d.cell (by show w.heap.size < _; omega)).trans (by simp [World.cell?, hrS])
  have c4 : ∀ d : LowW S, d.w.cell? ⟨w.heap.size, 4, none⟩ = some (.slice none 0 0) := fun d => (d.cell (by show w.heap.size < _; omega)).trans (by simp [World.cell?, hrS])
  have c5 : ∀ d : LowW S, d.w.cell? ⟨w.heap.size, 5, none⟩ = some (.int .u8 0) := fun d => (d.cell (by show w.heap.size < _; omega)).trans (by simp [World.cell?, hrS])
  have c6 : ∀ d : LowW S, d.w.cell? ⟨w.heap.size, 6, none⟩ = some (.string ⟨#[]⟩) := fun d => (d.cell (by show w.heap.size < _; omega)).trans (by simp [World.cell?, hrS])
  have c7 : ∀ d : LowW S, d.w.cell? ⟨w.heap.size, 7, none⟩ = some (.bool false) := fun d => (d.cell (by show w.heap.size < _; omega)).trans (by simp [World.cell?, hrS])
  replace hE := Lib.hid hE
  replace hES := Lib.hid hES
  replace hbS := Lib.hid hbS
  replace hS := Lib.hid hS
  clear cI0 hrS
  go_enter Tryz.func114, Tryz.ntmps114
  go_wp2_with (first | (rw [← hS.out]))
  refine wp_region_low (by kernel_rfl) (by kernel_rfl) ?_
  repeat (go_big_quiet_step (first | (go_at_call 144; exact cW.out _)))
  refine wpQuiet_nil ?_
  rintro _ ⟨d, rfl⟩
  have hlow := Lib.hid (hbS.out.trans (d.low.mono hbS.out.size))
  go_wp2_with fail
  go_ret
  exact ⟨by first | rfl | simp, hlow.out⟩
theorem sets9 {w : World} {g : Nat} {t : TypeId} {a0 a1 a2 a3 a4 a5 a6 a7 a8 : Value} (h : w.heap[g]? = some (.cells #[a0, a1, a2, a3, a4, a5, a6, a7, a8] t (0, 0))) (b0 b1 b2 b3 b4 b5 b6 b7 b8 : Value) :
    ((((((((((w.setCell ⟨g, 0, none⟩ b0).setCell ⟨g, 1, none⟩ b1).setCell ⟨g, 2, none⟩ b2).setCell ⟨g, 3, none⟩ b3).setCell ⟨g, 4, none⟩ b4).setCell ⟨g, 5, none⟩ b5).setCell ⟨g, 6, none⟩ b6).setCell ⟨g, 7, none⟩ b7).setCell ⟨g, 8, none⟩ b8)).heap[g]? = some (.cells #[b0, b1, b2, b3, b4, b5, b6, b7, b8] t (0, 0)) := by
  have h0 := blk_set h 0 b0
  have h1 := blk_set h0 1 b1
  have h2 := blk_set h1 2 b2
  have h3 := blk_set h2 3 b3
  have h4 := blk_set h3 4 b4
  have h5 := blk_set h4 5 b5
  have h6 := blk_set h5 6 b6
  have h7 := blk_set h6 7 b7
  have h8 := blk_set h7 8 b8
  simpa using h8
def mkField (i : Nat) : List Value := [.string (wordB i), .int .u8 0, .int .i64 0, .string ⟨#[]⟩, .slice none 0 0, .slice none 0 0, .int .u8 0, .string ⟨#[]⟩, .bool false]
theorem sizeField : (Tryz.prog.info? 61).map (·.size) = some 9 := by kernel_rfl
set_option maxHeartbeats 4000000 in
set_option maxRecDepth 100000 in
theorem markField_any (i : Nat) (hi : i ≤ 1073741824) (w : World) (hE : Env w) : Calls Tryz.prog 99 #[.int .i64 (i : Nat)] w fun e w' => e = .returned (.agg #[.string (wordB i), .int .u8 0, .int .i64 0, .string ⟨#[]⟩, .slice none 0 0, .slice none 0 0, .int .u8 0, .string ⟨#[]⟩, .bool false]) ∧ Below w.heap.size w w' := by
  obtain ⟨S, hS⟩ : ∃ S, S = w.alloc (.cells #[.string ⟨#[]⟩, .int .u8 0, .int .i64 0, .string ⟨#[]⟩, .slice none 0 0, .slice none 0 0, .int .u8 0, .string ⟨#[]⟩, .bool false] 61) := ⟨_, rfl⟩
  have hbS : Below w.heap.size w S := by rw [hS]; exact (Below.refl _ _).alloc (Nat.le_refl _) _
  have hzS : S.heap.size = w.heap.size + 1 := by rw [hS]; simp
  have hrS : S.heap[w.heap.size]? = some (.cells #[.string ⟨#[]⟩, .int .u8 0, .int .i64 0, .string ⟨#[]⟩, .slice none 0 0, .slice none 0 0, .int .u8 0, .string ⟨#[]⟩, .bool false] 61 (0, 0)) := by rw [hS]; exact heap_alloc_new w _
  have cI := Lib.hid (word_any i hi S (hE.kept hbS))
  replace hE := Lib.hid hE
  replace hS := Lib.hid hS
  obtain ⟨z, hz⟩ : ∃ z, z = wordB i := ⟨_, rfl⟩
  rw [← hz] at cI ⊢
  replace hz := Lib.hid hz
  go_enter Tryz.func99, Tryz.ntmps99
  go_wp2_with (first | (rw [← hS.out]) | (go_at_call 144; refine cI.out.mono ?_))
  first | rintro e w3 rfl hb3 | rintro e w3 ⟨rfl, hb3⟩
  have hr3 : w3.heap[w.heap.size]? = some (.cells #[.string ⟨#[]⟩, .int .u8 0, .int .i64 0, .string ⟨#[]⟩, .slice none 0 0, .slice none 0 0, .int .u8 0, .string ⟨#[]⟩, .bool false] 61 (0, 0)) := (hb3.block _ (by omega)).trans hrS
  have c0 : w3.cell? ⟨w.heap.size, 0, none⟩ = some (.string ⟨#[]⟩) := by simp [World.cell?, hr3]
  have c1 : w3.cell? ⟨w.heap.size, 1, none⟩ = some (.int .u8 0) := by simp [World.cell?, hr3]
  have c2 : w3.cell? ⟨w.heap.size, 2, none⟩ = some (.int .i64 0) := by simp [World.cell?, hr3]
  have c3 : w3.cell? ⟨w.heap.size, 3, none⟩ = some (.string ⟨#[]⟩) := by simp [World.cell?, hr3]
  have c4 : w3.cell? ⟨w.heap.size, 4, none⟩ = some (.slice none 0 0) := by simp [World.cell?, hr3]
  have c5 : w3.cell? ⟨w.heap.size, 5, none⟩ = some (.slice none 0 0) := by simp [World.cell?, hr3]
  have c6 : w3.cell? ⟨w.heap.size, 6, none⟩ = some (.int .u8 0) := by simp [World.cell?, hr3]
  have c7 : w3.cell? ⟨w.heap.size, 7, none⟩ = some (.string ⟨#[]⟩) := by simp [World.cell?, hr3]
  have c8 : w3.cell? ⟨w.heap.size, 8, none⟩ = some (.bool false) := by simp [World.cell?, hr3]
  have f0 : w3.frozen? ⟨w.heap.size, 0, none⟩ = false := by simp [World.frozen?, hr3]
  have f1 : w3.frozen? ⟨w.heap.size, 1, none⟩ = false := by simp [World.frozen?, hr3]
  have f2 : w3.frozen? ⟨w.heap.size, 2, none⟩ = false := by simp [World.frozen?, hr3]
  have f3 : w3.frozen? ⟨w.heap.size, 3, none⟩ = false := by simp [World.frozen?, hr3]
  have f4 : w3.frozen? ⟨w.heap.size, 4, none⟩ = false := by simp [World.frozen?, hr3]
  have f5 : w3.frozen? ⟨w.heap.size, 5, none⟩ = false := by simp [World.frozen?, hr3]
  have f6 : w3.frozen? ⟨w.heap.size, 6, none⟩ = false := by simp [World.frozen?, hr3]
  have f7 : w3.frozen? ⟨w.heap.size, 7, none⟩ = false := by simp [World.frozen?, hr3]
  have f8 : w3.frozen? ⟨w.heap.size, 8, none⟩ = false := by simp [World.frozen?, hr3]
  have hfin := Lib.hid (sets9 hr3 (.string (z)) (.int .u8 0) (.int .i64 0) (.string ⟨#[]⟩) (.slice none 0 0) (.slice none 0 0) (.int .u8 0) (.string ⟨#[]⟩) (.bool false))
  have hlow : Hid (Below w.heap.size w ((((((((((w3.setCell ⟨w.heap.size, 0, none⟩ (.string (z))).setCell ⟨w.heap.size, 1, none⟩ (.int .u8 0)).setCell ⟨w.heap.size, 2, none⟩ (.int .i64 0)).setCell ⟨w.heap.size, 3, none⟩ (.string ⟨#[]⟩)).setCell ⟨w.heap.size, 4, none⟩ (.slice none 0 0)).setCell ⟨w.heap.size, 5, none⟩ (.slice none 0 0)).setCell ⟨w.heap.size, 6, none⟩ (.int .u8 0)).setCell ⟨w.heap.size, 7, none⟩ (.string ⟨#[]⟩)).setCell ⟨w.heap.size, 8, none⟩ (.bool false)))) := ((((((((((hbS.trans (hb3.mono (by omega))).setCell (p := ⟨w.heap.size, 0, none⟩) (Nat.le_refl _) (.string (z))).setCell (p := ⟨w.heap.size, 1, none⟩) (Nat.le_refl _) (.int .u8 0)).setCell (p := ⟨w.heap.size, 2, none⟩) (Nat.le_refl _) (.int .i64 0)).setCell (p := ⟨w.heap.size, 3, none⟩) (Nat.le_refl _) (.string ⟨#[]⟩)).setCell (p := ⟨w.heap.size, 4, none⟩) (Nat.le_refl _) (.slice none 0 0)).setCell (p := ⟨w.heap.size, 5, none⟩) (Nat.le_refl _) (.slice none 0 0)).setCell (p := ⟨w.heap.size, 6, none⟩) (Nat.le_refl _) (.int .u8 0)).setCell (p := ⟨w.heap.size, 7, none⟩) (Nat.le_refl _) (.string ⟨#[]⟩)).setCell (p := ⟨w.heap.size, 8, none⟩) (Nat.le_refl _) (.bool false))
  clear hr3 hrS
  replace hb3 := Lib.hid hb3
  replace hbS := Lib.hid hbS
  go_wp2_with fail
  exact bodyPost_ret (results_cell1 (fn := Tryz.f99) (p := 2) (ty := 61) (by kernel_rfl) _ _ _ _ _ _ _ rfl hfin.out Tryz.underlying61 rfl sizeField) rfl ⟨rfl, hlow.out⟩
set_option maxHeartbeats 4000000 in
set_option maxRecDepth 100000 in
theorem isField_any (i : Nat) (hi : i ≤ 1073741824) (w : World) (hE : Env w) : Calls Tryz.prog 115 #[.agg #[.string (wordB i), .int .u8 0, .int .i64 0, .string ⟨#[]⟩, .slice none 0 0, .slice none 0 0, .int .u8 0, .string ⟨#[]⟩, .bool false], .int .i64 (i : Nat)] w fun e w' => e = .returned (.bool true) ∧ Below w.heap.size w w' := by
  have heq : ((wordB i).toList == (wordB i).toList) = true := by simp
  have cI0 : ∀ W, Env W → Calls Tryz.prog 144 #[.int .i64 (i : Nat)] W fun e w' => e = .returned (.string (wordB i)) ∧ Below W.heap.size W w' := fun W h => word_any i hi W h
  generalize wordB i = z at *
  obtain ⟨S, hS⟩ : ∃ S, S = w.alloc (.cells #[.string (z), .int .u8 0, .int .i64 0, .string ⟨#[]⟩, .slice none 0 0, .slice none 0 0, .int .u8 0, .string ⟨#[]⟩, .bool false] 61) := ⟨_, rfl⟩
  have hbS : Below w.heap.size w S := by rw [hS]; exact (Below.refl _ _).alloc (Nat.le_refl _) _
  have hzS : S.heap.size = w.heap.size + 1 := by rw [hS]; simp
  have hrS : S.heap[w.heap.size]? = some (.cells #[.string (z), .int .u8 0, .int .i64 0, .string ⟨#[]⟩, .slice none 0 0, .slice none 0 0, .int .u8 0, .string ⟨#[]⟩, .bool false] 61 (0, 0)) := by rw [hS]; exact heap_alloc_new w _
  have hES : Env S := hE.kept hbS
  have cW : Hid (∀ d : LowW S, Calls Tryz.prog 144 #[.int .i64 (i : Nat)] d.w fun e w' => e = .returned (.string z) ∧ ∃ d' : LowW S, w' = d'.w) := fun d => (cI0 d.w (hES.kept d.low)).mono fun e w' h => ⟨h.1, d.more h.2⟩
  have c0 : ∀ d : LowW S, d.w.cell? ⟨w.heap.size, 0, none⟩ = some (.string (z)) := fun d => (d.cell (by show w.heap.size < _; omega)).trans (by simp [World.cell?, hrS])
  have c1 : ∀ d : LowW S, d.w.cell? ⟨w.heap.size, 1, none⟩ = some (.int .u8 0) := fun d => (d.cell (by show w.heap.size < _; omega)).trans (by simp [World.cell?, hrS])
  have c2 : ∀ d : LowW S, d.w.cell? ⟨w.heap.size, 2, none⟩ = some (.int .i64 0) := fun d => (d.cell (by show w.heap.size < _; omega)).trans (by simp [World.cell?, hrS])
  have c3 : ∀ d : LowW S, d.w.cell? ⟨w.heap.size, 3, none⟩ = some (.string ⟨#[]⟩) := fun d => (d.cell (by show w.heap.size < _; omega)).trans (by simp [World.cell?, hrS])
  have c4 : ∀ d : LowW S, d.w.cell? ⟨w.heap.size, 4, none⟩ = some (.slice none 0 0) := fun d => (d.cell (by show w.heap.size < _; omega)).trans (by simp [World.cell?, hrS])
  have c5 : ∀ d : LowW S, d.w.cell? ⟨w.heap.size, 5, none⟩ = some (.slice none 0 0) := fun d => (d.cell (by show w.heap.size < _; omega)).trans (by simp [World.cell?, hrS])
  have c6 : ∀ d : LowW S, d.w.cell? ⟨w.heap.size, 6, none⟩ = some (.int .u8 0) := fun d => (d.cell (by show w.heap.size < _; omega)).trans (by simp [World.cell?, hrS])
  have c7 : ∀ d : LowW S, d.w.cell? ⟨w.heap.size, 7, none⟩ = some (.string ⟨#[]⟩) := fun d => (d.cell (by show w.heap.size < _; omega)).trans (by simp [World.cell?, hrS])
  have c8 : ∀ d : LowW S, d.w.cell? ⟨w.heap.size, 8, none⟩ = some (.bool false) := fun d => (d.cell (by show w.heap.size < _; omega)).trans (by simp [World.cell?, hrS])
  replace hE := Lib.hid hE
  replace hES := Lib.hid hES
  replace hbS := Lib.hid hbS
  replace hS := Lib.hid hS
  clear cI0 hrS
  go_enter Tryz.func115, Tryz.ntmps115
  go_wp2_with (first | (rw [← hS.out]))
  refine wp_region_low (by kernel_rfl) (by kernel_rfl) ?_
  repeat (go_big_quiet_step (first | (go_at_call 144; exact cW.out _)))
  refine wpQuiet_nil ?_
  rintro _ ⟨d, rfl⟩
  have hlow := Lib.hid (hbS.out.trans (d.low.mono hbS.out.size))
  go_wp2_with fail
  go_ret
  exact ⟨by first | rfl | simp, hlow.out⟩
theorem sets5 {w : World} {g : Nat} {t : TypeId} {a0 a1 a2 a3 a4 : Value} (h : w.heap[g]? = some (.cells #[a0, a1, a2, a3, a4] t (0, 0))) (b0 b1 b2 b3 b4 : Value) :
    ((((((w.setCell ⟨g, 0, none⟩ b0).setCell ⟨g, 1, none⟩ b1).setCell ⟨g, 2, none⟩ b2).setCell ⟨g, 3, none⟩ b3).setCell ⟨g, 4, none⟩ b4)).heap[g]? = some (.cells #[b0, b1, b2, b3, b4] t (0, 0)) := by
  have h0 := blk_set h 0 b0
  have h1 := blk_set h0 1 b1
  have h2 := blk_set h1 2 b2
  have h3 := blk_set h2 3 b3
  have h4 := blk_set h3 4 b4
  simpa using h4
def mkNode (i : Nat) : List Value := [.int .i64 (-1000 - (i : Int)), .string ⟨#[]⟩, .string ⟨#[]⟩, .slice none 0 0, .slice none 0 0]
theorem sizeNode : (Tryz.prog.info? 53).map (·.size) = some 5 := by kernel_rfl
set_option maxHeartbeats 4000000 in
set_option maxRecDepth 100000 in
theorem markNode_any (i : Nat) (hi : i ≤ 1073741824) (w : World) (hE : Env w) : Calls Tryz.prog 108 #[.int .i64 (i : Nat)] w fun e w' => e = .returned (.agg #[.int .i64 (-1000 - (i : Int)), .string ⟨#[]⟩, .string ⟨#[]⟩, .slice none 0 0, .slice none 0 0]) ∧ Below w.heap.size w w' := by
  replace hE := Lib.hid hE
  go_enter Tryz.func108, Tryz.ntmps108
  go_wp2_with fail
  exact bodyPost_ret (results_cell1 (fn := Tryz.f108) (p := 2) (ty := 53) (by kernel_rfl) _ _ _ _ _ _ _ rfl (heap_alloc_new w _) Tryz.underlying53 rfl sizeNode) rfl ⟨rfl, (Below.refl _ w).alloc (Nat.le_refl _) _⟩
set_option maxHeartbeats 4000000 in
set_option maxRecDepth 100000 in
theorem isNode_any (i : Nat) (hi : i ≤ 1073741824) (w : World) (hE : Env w) : Calls Tryz.prog 124 #[.agg #[.int .i64 (-1000 - (i : Int)), .string ⟨#[]⟩, .string ⟨#[]⟩, .slice none 0 0, .slice none 0 0], .int .i64 (i : Nat)] w fun e w' => e = .returned (.bool true) ∧ Below w.heap.size w w' := by
  have hal : Hid (Below w.heap.size w (w.alloc (.cells #[.int .i64 (-1000 - (i : Int)), .string ⟨#[]⟩, .string ⟨#[]⟩, .slice none 0 0, .slice none 0 0] 53))) := (Below.refl _ w).alloc (Nat.le_refl _) _
  replace hE := Lib.hid hE
  go_enter Tryz.func124, Tryz.ntmps124
  go_wp2_with fail
  go_ret
  exact ⟨by first | rfl | simp, hal.out⟩
end Go.Proofs.YtehcbicngbibgaaGreatDoor
