/- The contract of the scanner's word. -/
import Derived.Test.YtimdkdengdhglaaGreatDoorLexC
import Derived.RegionTactic
import Derived.BigRegion
import Derived.ChangeAlike
import Derived.Deep.RegionWith
import Derived.Laws.ResultCell
namespace Go.Proofs.YtimdkdengdhglaaGreatDoor
open Go Go.RowKit

/-- What the library's variables hold. -/
def Env (w : World) : Prop :=
  (∃ tp p, w.var? Tryz.prog "strconv.ErrSyntax" = some #[.iface tp p]) ∧ (∃ tp p, w.var? Tryz.prog "strconv.ErrRange" = some #[.iface tp p]) ∧
    Lib.TabIs Tryz.prog w "internal/strconv.uint64pow10" .u64 Lib.pow10Tab
def EnvUnder (B : Nat) : Prop := 0 < B ∧ 1 < B ∧ 2 < B
theorem env_g0 : Tryz.prog.globalNamed "strconv.ErrSyntax" = some 0 := by kernel_rfl
theorem env_g1 : Tryz.prog.globalNamed "strconv.ErrRange" = some 1 := by kernel_rfl
theorem env_g2 : Tryz.prog.globalNamed "internal/strconv.uint64pow10" = some 2 := by kernel_rfl
theorem Env.below {w w' : World} (h : Env w) {B : Nat} (hb : Below B w w') (hB : EnvUnder B) : Env w' := by
  obtain ⟨⟨t1, p1, h1⟩, ⟨t2, p2, h2⟩, h3⟩ := h
  exact ⟨⟨t1, p1, var?_below hb env_g0 hB.1 h1⟩, ⟨t2, p2, var?_below hb env_g1 hB.2.1 h2⟩, var?_below hb env_g2 hB.2.2 h3⟩
theorem var_lt {P : Program} {w : World} {n : String} {g : Nat} {cs : Array Value} (hg : P.globalNamed n = some g) (h : w.var? P n = some cs) : g < w.heap.size := by
  unfold World.var? at h
  rw [hg] at h
  simp only [Option.bind_some] at h
  by_cases hlt : g < w.heap.size
  · exact hlt
  · rw [Array.getElem?_eq_none (Nat.le_of_not_lt hlt)] at h; simp at h
theorem Env.size {w : World} (h : Env w) : EnvUnder w.heap.size := by
  obtain ⟨⟨t1, p1, h1⟩, ⟨t2, p2, h2⟩, h3⟩ := h
  exact ⟨var_lt env_g0 h1, var_lt env_g1 h2, var_lt env_g2 h3⟩
theorem Env.touch {w w' : World} (h : Env w) {b : Nat} (ht : Touch (fun k => k = b) w w') (hb : EnvUnder b) : Env w' := by
  have hz := h.size
  by_cases hlt : b ≤ w.heap.size
  · exact h.below (ht.to_below hlt (fun k hk e => by omega)) hb
  · exact h.below (ht.to_below (Nat.le_refl _) (fun k hk e => by omega)) hz

/-- What comes of a word: its kind, its text, its number, what is left. -/
def WordPost (b : Nat) (ln : Int) (w : World) (o : Option (Nat × List UInt8 × Int × List UInt8)) (e : Ending) (w' : World) : Prop :=
  match o with
  | some (k, s, n, r) => e = .returned (.tuple #[.agg #[.int .u8 (k : Nat), .string (bs s), .int .i64 n, .int .i64 ln], .bool true]) ∧ Scan w' b r ln ∧ Touch (fun k => k = b) w w'
  | none => (∃ (k : Nat) (s : ByteArray) (n : Int), e = .returned (.tuple #[.agg #[.int .u8 (k : Nat), .string s, .int .i64 n, .int .i64 ln], .bool false])) ∧ Touch (fun k => k = b) w w' ∧ ∃ m, Scan w' b m ln

set_option maxHeartbeats 1000000 in
set_option maxRecDepth 100000 in
theorem word_open (b : Nat) (r : List UInt8) (ln : Nat) (w : World) (hb : Scan w b (40 :: r) (ln : Int)) :
    Calls Tryz.prog 83 #[.pointer (some ⟨b, 0, none⟩)] w (WordPost b ln w (some (4, [], 0, r))) := by
  have hbw := hb.lt
  have c0 := hb.c0
  have c1 := hb.c1
  have f0 := hb.fr 0
  have e1 : (bs (40 :: r)).extract 1 (bs (40 :: r)).size = bs r := by rw [bs_drop]; rfl
  have hsz : 1 ≤ (bs (40 :: r)).size := by rw [bs_size]; simp
  have hget : ∀ h : 0 < (bs (40 :: r)).size, (bs (40 :: r))[0]'h = 40 := fun h => by rw [bs_get]; rfl
  have hs := fun o o' => (((hb.set0 r).alloc o).alloc o').drewN 1
  have ht := fun o o' => ((((Touch.refl (fun k => k = b) w).set (p := ⟨b, 0, none⟩) rfl (.string (bs r))).alloc o).alloc o').drewN 1
  rw [← e1] at hs ht
  have H := Lib.hid (And.intro hs ht)
  have E1 := Lib.hid e1
  clear e1 hb hs ht
  generalize bs (40 :: r) = S at *
  go_enter Tryz.func83, Tryz.ntmps83
  go_wp2
  go_region
  go_wp2
  refine bodyPost_ret (v := .tuple #[.agg #[.int .u8 4, .string ⟨#[]⟩, .int .i64 0, .int .i64 ln], .bool true]) (by simp [results, Tryz.results83, go_sem]) rfl ?_
  exact ⟨rfl, H.out.1 _ _, H.out.2 _ _⟩

set_option maxHeartbeats 1000000 in
set_option maxRecDepth 100000 in
theorem word_close (b : Nat) (r : List UInt8) (ln : Nat) (w : World) (hb : Scan w b (41 :: r) (ln : Int)) :
    Calls Tryz.prog 83 #[.pointer (some ⟨b, 0, none⟩)] w (WordPost b ln w (some (5, [], 0, r))) := by
  have hbw := hb.lt
  have c0 := hb.c0
  have c1 := hb.c1
  have f0 := hb.fr 0
  have e1 : (bs (41 :: r)).extract 1 (bs (41 :: r)).size = bs r := by rw [bs_drop]; rfl
  have hsz : 1 ≤ (bs (41 :: r)).size := by rw [bs_size]; simp
  have hget : ∀ h : 0 < (bs (41 :: r)).size, (bs (41 :: r))[0]'h = 41 := fun h => by rw [bs_get]; rfl
  have hs := fun o o' => (((hb.set0 r).alloc o).alloc o').drewN 1
  have ht := fun o o' => ((((Touch.refl (fun k => k = b) w).set (p := ⟨b, 0, none⟩) rfl (.string (bs r))).alloc o).alloc o').drewN 1
  rw [← e1] at hs ht
  have H := Lib.hid (And.intro hs ht)
  have E1 := Lib.hid e1
  clear e1 hb hs ht
  generalize bs (41 :: r) = S at *
  go_enter Tryz.func83, Tryz.ntmps83
  go_wp2
  go_region
  go_wp2
  refine bodyPost_ret (v := .tuple #[.agg #[.int .u8 5, .string ⟨#[]⟩, .int .i64 0, .int .i64 ln], .bool true]) (by simp [results, Tryz.results83, go_sem]) rfl ?_
  exact ⟨rfl, H.out.1 _ _, H.out.2 _ _⟩

/-- What a block of a word's four cells gives a walk. -/
theorem word_cells {w : World} {g : Nat} {a0 a1 a2 a3 : Value} {t : TypeId} (h : w.heap[g]? = some (.cells #[a0, a1, a2, a3] t (0, 0))) :
    w.cell? ⟨g, 0, none⟩ = some a0 ∧ w.cell? ⟨g, 1, none⟩ = some a1 ∧ w.cell? ⟨g, 2, none⟩ = some a2 ∧ w.cell? ⟨g, 3, none⟩ = some a3 ∧
      (w.frozen? ⟨g, 0, none⟩ = false ∧ w.frozen? ⟨g, 1, none⟩ = false ∧ w.frozen? ⟨g, 2, none⟩ = false ∧ w.frozen? ⟨g, 3, none⟩ = false) := by
  simp [World.cell?, World.frozen?, h]
theorem blk_set {w : World} {g : Nat} {cs : Array Value} {t : TypeId} (h : w.heap[g]? = some (.cells cs t (0, 0))) (j : Nat) (v : Value) :
    (w.setCell ⟨g, j, none⟩ v).heap[g]? = some (.cells (cs.setIfInBounds j v) t (0, 0)) := by
  simp [World.setCell, Array.getElem?_modify, h]
theorem blk_far {w : World} {g : Nat} {o : Obj} (h : w.heap[g]? = some o) {p : Addr} (hp : g ≠ p.block) (v : Value) : (w.setCell p v).heap[g]? = some o :=
  (Below.heap_setCell w p v g hp).trans h
theorem Touch.kept {S : Nat → Prop} {w w' : World} (h : Touch S w w') {g : Nat} {o : Obj} (hg : w.heap[g]? = some o) (hS : ¬ S g) : w'.heap[g]? = some o := by
  have hlt : g < w.heap.size := by
    by_cases hlt : g < w.heap.size
    · exact hlt
    · rw [Array.getElem?_eq_none (Nat.le_of_not_lt hlt)] at hg; simp at hg
  exact (h.block g hlt hS).trans hg

/-- Two new blocks ahead of a call that touches b alone. -/
theorem two_new (w : World) (o o' : Obj) : ((w.alloc o).alloc o').heap[w.heap.size]? = some o ∧ ((w.alloc o).alloc o').heap[w.heap.size + 1]? = some o' :=
  ⟨(Below.heap_alloc _ o' _ (by simp)).trans (heap_alloc_new w o), by have := heap_alloc_new (w.alloc o) o'; simpa using this⟩

theorem word_put {w : World} {g : Nat} {a0 a1 a2 a3 : Value} {t : TypeId} (h : w.heap[g]? = some (.cells #[a0, a1, a2, a3] t (0, 0))) (v0 v1 v2 v3 : Value) :
    ((((w.setCell ⟨g, 0, none⟩ v0).setCell ⟨g, 1, none⟩ v1).setCell ⟨g, 2, none⟩ v2).setCell ⟨g, 3, none⟩ v3).heap[g]? = some (.cells #[v0, v1, v2, v3] t (0, 0)) := by
  have := blk_set (blk_set (blk_set (blk_set h 0 v0) 1 v1) 2 v2) 3 v3
  simpa using this

/-- Two results, the first one in a row of cells. -/
theorem results_cell_tmp {P : Program} {fn : Func} {p q : Tmp} {ty : TypeId} (h : fn.results = #[.cell p ty, .tmp q]) (tmps : Array Value) (w : World) (g : Nat) (t : TypeId) (cs : Array Value) (fr : Nat × Nat) (d : TypeDesc)
    (hp : tmps.getD p undef = .pointer (some ⟨g, 0, none⟩)) (hg : w.heap[g]? = some (.cells cs t fr))
    (hu : P.underlying ty = some d) (hd : (match d with | .struct _ | .array _ _ => true | _ => false) = true) (hi : (P.info? ty).map (·.size) = some cs.size) (v : Value) (hq : tmps.getD q undef = v) :
    (results fn tmps).run P w = .ok (.tuple #[.agg cs, v]) w := by
  have hp' : tmps[p]?.getD undef = .pointer (some ⟨g, 0, none⟩) := by simpa using hp
  have hq' : tmps[q]?.getD undef = v := by simpa using hq
  simp [results, h, hp', hq', asAddr, run_loadVar_row w g t ty cs fr d hg hu hd hi]

theorem set4_drew (w : World) (p0 p1 p2 p3 : Addr) (v0 v1 v2 v3 : Value) : ((((w.setCell p0 v0).setCell p1 v1).setCell p2 v2).setCell p3 v3).drew = (((w.drew.setCell p0 v0).setCell p1 v1).setCell p2 v2).setCell p3 v3 := rfl
theorem word_info : (Tryz.prog.info? 86).map (fun i => i.size) = some 4 := by kernel_rfl

/-- The end of word: what it stored. -/
theorem word_end {w W : World} {b : Nat} {ln : Int} {o : Option (Nat × List UInt8 × Int × List UInt8)} {a : Act} {a0 a1 a2 a3 : Value} (k : Nat) (s : ByteArray) (n : Int) (ok : Bool)
    (hd : a.defers = []) (h2 : a.tmps.getD 2 undef = .pointer (some ⟨w.heap.size, 0, none⟩)) (h3 : a.tmps.getD 3 undef = .bool ok)
    (hn : W.heap[w.heap.size]? = some (.cells #[a0, a1, a2, a3] 86 (0, 0)))
    (hfin : ∀ W' : World, W' = (((W.setCell ⟨w.heap.size, 0, none⟩ (.int .u8 k)).setCell ⟨w.heap.size, 1, none⟩ (.string s)).setCell ⟨w.heap.size, 2, none⟩ (.int .i64 n)).setCell ⟨w.heap.size, 3, none⟩ (.int .i64 ln) →
      WordPost b ln w o (.returned (.tuple #[.agg #[.int .u8 k, .string s, .int .i64 n, .int .i64 ln], .bool ok])) W') :
    bodyPost Tryz.prog Tryz.f83 (WordPost b ln w o) .ret a ((((W.setCell ⟨w.heap.size, 0, none⟩ (.int .u8 k)).setCell ⟨w.heap.size, 1, none⟩ (.string s)).setCell ⟨w.heap.size, 2, none⟩ (.int .i64 n)).setCell ⟨w.heap.size, 3, none⟩ (.int .i64 ln)) := by
  have hg := word_put hn (.int .u8 k) (.string s) (.int .i64 n) (.int .i64 ln)
  exact bodyPost_ret (results_cell_tmp (by kernel_rfl) _ _ _ _ _ _ _ h2 hg Tryz.underlying86 rfl word_info _ h3) hd (hfin _ rfl)

set_option maxHeartbeats 1000000 in
set_option maxRecDepth 100000 in
theorem word_text (b : Nat) (r : List UInt8) (ln : Nat) (w : World) (hl : r.length ≤ 1000000) (hb : Scan w b (34 :: r) (ln : Int)) :
    Calls Tryz.prog 83 #[.pointer (some ⟨b, 0, none⟩)] w (WordPost b ln w ((textL false r []).bind fun x => if x.1.length ≤ 4096 then some (3, x.1, 0, x.2) else none)) := by
  have hbw := hb.lt
  have c0 := hb.c0
  have c1 := hb.c1
  have hsz : 1 ≤ (bs (34 :: r)).size := by rw [bs_size]; simp
  have hget : ∀ h : 0 < (bs (34 :: r)).size, (bs (34 :: r))[0]'h = 34 := fun h => by rw [bs_get]; rfl
  have cT := fun o o' => text_any b r ln ((w.alloc o).alloc o') hl ((hb.alloc o).alloc o')
  have ht := fun o o' => ((Touch.refl (fun k => k = b) w).alloc o).alloc o'
  have hN := fun o o' => two_new w o o'
  have HN := Lib.hid (And.intro ht hN)
  clear hb ht hN
  generalize bs (34 :: r) = S at *
  go_enter Tryz.func83, Tryz.ntmps83
  go_wp2_with (go_at_call 142; refine (cT _ _).mono ?_)
  clear cT
  intro e W1 hT
  obtain ⟨ht, hN⟩ := HN.out
  have ht := ht (.cells #[.int .u8 0, .string ⟨#[]⟩, .int .i64 0, .int .i64 0] 86) (.cells #[.int .u8 0, .string ⟨#[]⟩, .int .i64 0, .int .i64 ln] 86)
  have hN := hN (.cells #[.int .u8 0, .string ⟨#[]⟩, .int .i64 0, .int .i64 0] 86) (.cells #[.int .u8 0, .string ⟨#[]⟩, .int .i64 0, .int .i64 ln] 86)
  have fin : ∀ (t : List UInt8) (ok : Bool) (W1 : World) (m : List UInt8), Scan W1 b m ln → Touch (fun k => k = b) w W1 → True := fun _ _ _ _ _ _ => trivial
  cases hx : textL false r [] with
  | none =>
    rw [hx] at hT
    obtain ⟨rfl, ht1, m, hs1⟩ := hT
    have n0 := ht1.kept hN.1 (by omega)
    have n1 := ht1.kept hN.2 (by omega)
    obtain ⟨d0, d1, d2, d3, g0, g1, g2, g3⟩ := word_cells n0
    obtain ⟨k0, k1, k2, k3, l0, l1, l2, l3⟩ := word_cells n1
    have ht1 := Lib.hid (ht.trans ht1)
    replace hs1 := Lib.hid hs1
    replace hx := Lib.hid hx
    replace n0 := Lib.hid n0
    clear ht hN HN n1 fin
    go_wp2
    refine word_end 3 (bs []) 0 false rfl rfl rfl (blk_far (blk_far n0.out (by simp) _) (by simp) _) ?_
    rintro W' rfl
    rw [hx.out]
    refine ⟨⟨_, _, _, rfl⟩, ?_, m, ?_⟩
    · exact (((((ht1.out.setN (p := ⟨_, _, _⟩) (by simp) _).setN (p := ⟨_, _, _⟩) (by simp) _).setN (p := ⟨_, _, _⟩) (by simp) _).setN (p := ⟨_, _, _⟩) (by simp) _).setN (p := ⟨_, _, _⟩) (by simp) _).setN (p := ⟨_, _, _⟩) (by simp) _
    · exact (((((hs1.out.far (p := ⟨_, _, _⟩) (by simp; omega) _).far (p := ⟨_, _, _⟩) (by simp; omega) _).far (p := ⟨_, _, _⟩) (by simp; omega) _).far (p := ⟨_, _, _⟩) (by simp; omega) _).far (p := ⟨_, _, _⟩) (by simp; omega) _).far (p := ⟨_, _, _⟩) (by simp; omega) _
  | some x =>
    obtain ⟨t, r'⟩ := x
    rw [hx] at hT
    obtain ⟨rfl, hs1, ht1⟩ := hT
    have n0 := ht1.kept hN.1 (by omega)
    have n1 := ht1.kept hN.2 (by omega)
    obtain ⟨d0, d1, d2, d3, g0, g1, g2, g3⟩ := word_cells n0
    obtain ⟨k0, k1, k2, k3, l0, l1, l2, l3⟩ := word_cells n1
    have ht1 := Lib.hid (ht.trans ht1)
    replace hs1 := Lib.hid hs1
    replace hx := Lib.hid hx
    replace n0 := Lib.hid n0
    obtain ⟨ok, hok⟩ : ∃ ok, ok = decide (t.length ≤ 4096) := ⟨_, rfl⟩
    rw [← hok]
    replace hok := Lib.hid hok
    clear ht hN HN n1 fin
    go_wp2
    refine word_end 3 (bs t) 0 ok rfl rfl rfl (blk_far (blk_far n0.out (by simp) _) (by simp) _) ?_
    rintro W' rfl
    rw [hx.out]
    have hT := (((((ht1.out.setN (p := ⟨w.heap.size + 1, 0, none⟩) (by simp) (.int .u8 3)).setN (p := ⟨w.heap.size + 1, 1, none⟩) (by simp) (.string (bs t))).setN (p := ⟨w.heap.size, 0, none⟩) (by simp) (.int .u8 3)).setN (p := ⟨w.heap.size, 1, none⟩) (by simp) (.string (bs t))).setN (p := ⟨w.heap.size, 2, none⟩) (by simp) (.int .i64 0)).setN (p := ⟨w.heap.size, 3, none⟩) (by simp) (.int .i64 ln)
    have hS := (((((hs1.out.far (p := ⟨w.heap.size + 1, 0, none⟩) (by simp; omega) (.int .u8 3)).far (p := ⟨w.heap.size + 1, 1, none⟩) (by simp; omega) (.string (bs t))).far (p := ⟨w.heap.size, 0, none⟩) (by simp; omega) (.int .u8 3)).far (p := ⟨w.heap.size, 1, none⟩) (by simp; omega) (.string (bs t))).far (p := ⟨w.heap.size, 2, none⟩) (by simp; omega) (.int .i64 0)).far (p := ⟨w.heap.size, 3, none⟩) (by simp; omega) (.int .i64 ln)
    simp only [Option.bind_some]
    by_cases ht4 : t.length ≤ 4096
    · rw [if_pos ht4]
      have : ok = true := by rw [hok.out]; simpa using ht4
      subst this
      exact ⟨rfl, hS, hT⟩
    · rw [if_neg ht4]
      have : ok = false := by rw [hok.out]; simpa using ht4
      subst this
      exact ⟨⟨_, _, _, rfl⟩, hT, r', hS⟩
end Go.Proofs.YtimdkdengdhglaaGreatDoor
