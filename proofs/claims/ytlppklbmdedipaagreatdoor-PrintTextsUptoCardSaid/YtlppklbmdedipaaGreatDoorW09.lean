/- PrintTexts, part 9. -/
import Derived.Test.YtlppklbmdedipaaGreatDoorW02
import Derived.Test.YtlppklbmdedipaaGreatDoorW08
import Derived.RegionTactic
import Derived.BigRegion
import Derived.ChangeAlike
import Derived.Deep.RegionWith
import Derived.Laws.ResultCell
import Derived.Lib.SmallJoins
namespace Go.Proofs.YtlppklbmdedipaaGreatDoor.Lx
open Go Go.RowKit
set_option maxHeartbeats 8000000
set_option maxRecDepth 100000

def Env (w : World) : Prop :=
 (∃ tp p, w.var? Tryz.prog "strconv.ErrSyntax" = some #[.iface tp p]) ∧ (∃ tp p, w.var? Tryz.prog "strconv.ErrRange" = some #[.iface tp p]) ∧
  Lib.TabIs Tryz.prog w "internal/strconv.uint64pow10" .u64 Lib.pow10Tab
def EnvUnder (B : Nat) : Prop := 1 < B ∧ 2 < B ∧ 0 < B
theorem env_g0 : Tryz.prog.globalNamed "strconv.ErrSyntax" = some 1 := by kernel_rfl
theorem env_g1 : Tryz.prog.globalNamed "strconv.ErrRange" = some 2 := by kernel_rfl
theorem env_g2 : Tryz.prog.globalNamed "internal/strconv.uint64pow10" = some 0 := by kernel_rfl
theorem Env.below {w w' : World} (h : Env w) {B : Nat} (hb : Below B w w') (hB : EnvUnder B) : Env w' := by
 obtain ⟨⟨t1, p1, h1⟩, ⟨t2, p2, h2⟩, h3⟩ := h
 exact ⟨⟨t1, p1, var?_below hb env_g0 hB.1 h1⟩, ⟨t2, p2, var?_below hb env_g1 hB.2.1 h2⟩, var?_below hb env_g2 hB.2.2 h3⟩
theorem var_lt {P : Program} {w : World} {n : String} {g : Nat} {cs : Array Value} (hg : P.globalNamed n = some g) (h : w.var? P n = some cs) : g < w.heap.size := by
 unfold World.var? at h
 rw [hg] at h
 simp only [Option.bind_some] at h
 by_cases hlt : g < w.heap.size
 ·exact hlt
 ·rw [Array.getElem?_eq_none (Nat.le_of_not_lt hlt)] at h; simp at h
theorem Env.size {w : World} (h : Env w) : EnvUnder w.heap.size := by
 obtain ⟨⟨t1, p1, h1⟩, ⟨t2, p2, h2⟩, h3⟩ := h
 exact ⟨var_lt env_g0 h1, var_lt env_g1 h2, var_lt env_g2 h3⟩
def WordPost (b : Nat) (ln : Int) (w : World) (o : Option (Nat × List UInt8 × Int × List UInt8)) (e : Ending) (w' : World) : Prop :=
 match o with
 | some (k, s, n, r) => e = .returned (.tuple #[.agg #[.int .u8 (k : Nat), .string (bs s), .int .i64 n, .int .i64 ln], .bool true]) ∧ Scan w' b r ln ∧ Touch (fun k => k = b) w w'
 | none => (∃ (k : Nat) (s : ByteArray) (n : Int), e = .returned (.tuple #[.agg #[.int .u8 (k : Nat), .string s, .int .i64 n, .int .i64 ln], .bool false])) ∧ Touch (fun k => k = b) w w' ∧ ∃ m, Scan w' b m ln

theorem word_open (b : Nat) (r : List UInt8) (ln : Nat) (w : World) (hb : Scan w b (40 :: r) (ln : Int)) :
  Calls Tryz.prog 81 #[.pointer (some ⟨b, 0, none⟩)] w (WordPost b ln w (some (4, [], 0, r))) := by
 have hbw := hb.lt
 have c0 := hb.c0
 have c1 := hb.c1
 have f0 := hb.fr 0
 have e1 : (bs (40 :: r)).extract 1 (bs (40 :: r)).size = bs r := by rw [bs_drop]; rfl
 have hsz : 1 ≤ (bs (40 :: r)).size := by rw [bs_size]; simp
 have hget : ∀ h : 0 < (bs (40 :: r)).size, (bs (40 :: r))[0]'h = 40 := fun h => by rw [bs_get]; rfl
 have hs := fun o o' => (((hb.set0 r).alloc o).alloc o').drewN 1
 have ht := fun o o' => ((((Touch.refl (fun k => k = b) w).set (p := ⟨b, 0, none⟩) rfl (.string (bs r))).alloc o).alloc o').drewN 1
 rw [← e1] at hs ht
 have H := hi_ (And.intro hs ht)
 have E1 := hi_ e1
 clear e1 hb hs ht
 generalize bs (40 :: r) = S at *
 go_enter Tryz.func81, Tryz.ntmps81
 go_wp2
 go_region
 go_wp2
 refine bodyPost_ret (v := .tuple #[.agg #[.int .u8 4, .string ⟨#[]⟩, .int .i64 0, .int .i64 ln], .bool true]) (by simp [results, Tryz.results81, go_sem]) rfl ?_
 exact ⟨rfl, H.out.1 _ _, H.out.2 _ _⟩

theorem word_close (b : Nat) (r : List UInt8) (ln : Nat) (w : World) (hb : Scan w b (41 :: r) (ln : Int)) :
  Calls Tryz.prog 81 #[.pointer (some ⟨b, 0, none⟩)] w (WordPost b ln w (some (5, [], 0, r))) := by
 have hbw := hb.lt
 have c0 := hb.c0
 have c1 := hb.c1
 have f0 := hb.fr 0
 have e1 : (bs (41 :: r)).extract 1 (bs (41 :: r)).size = bs r := by rw [bs_drop]; rfl
 have hsz : 1 ≤ (bs (41 :: r)).size := by rw [bs_size]; simp
 have hget : ∀ h : 0 < (bs (41 :: r)).size, (bs (41 :: r))[0]'h = 41 := fun h => by rw [bs_get]; rfl
 have hs := fun o o' => (((hb.set0 r).alloc o).alloc o').drewN 1
 have ht := fun o o' => ((((Touch.refl (fun k => k = b) w).set (p := ⟨b, 0, none⟩) rfl (.string (bs r))).alloc o).alloc o').drewN 1
 rw [← e1] at hs ht
 have H := hi_ (And.intro hs ht)
 have E1 := hi_ e1
 clear e1 hb hs ht
 generalize bs (41 :: r) = S at *
 go_enter Tryz.func81, Tryz.ntmps81
 go_wp2
 go_region
 go_wp2
 refine bodyPost_ret (v := .tuple #[.agg #[.int .u8 5, .string ⟨#[]⟩, .int .i64 0, .int .i64 ln], .bool true]) (by simp [results, Tryz.results81, go_sem]) rfl ?_
 exact ⟨rfl, H.out.1 _ _, H.out.2 _ _⟩

theorem word_cells {w : World} {g : Nat} {a0 a1 a2 a3 : Value} {t : TypeId} (h : w.heap[g]? = some (.cells #[a0, a1, a2, a3] t (0, 0))) :
  w.cell? ⟨g, 0, none⟩ = some a0 ∧ w.cell? ⟨g, 1, none⟩ = some a1 ∧ w.cell? ⟨g, 2, none⟩ = some a2 ∧ w.cell? ⟨g, 3, none⟩ = some a3 ∧
   (w.frozen? ⟨g, 0, none⟩ = false ∧ w.frozen? ⟨g, 1, none⟩ = false ∧ w.frozen? ⟨g, 2, none⟩ = false ∧ w.frozen? ⟨g, 3, none⟩ = false) := by
 simp [World.cell?, World.frozen?, h]
theorem blk_set {w : World} {g : Nat} {cs : Array Value} {t : TypeId} (h : w.heap[g]? = some (.cells cs t (0, 0))) (j : Nat) (v : Value) :
  (w.setCell ⟨g, j, none⟩ v).heap[g]? = some (.cells (cs.setIfInBounds j v) t (0, 0)) := by
 simp [World.setCell, Array.getElem?_modify, h]
theorem blk_far {w : World} {g : Nat} {o : Obj} (h : w.heap[g]? = some o) {p : Addr} (hp : g ≠ p.block) (v : Value) : (w.setCell p v).heap[g]? = some o :=
 (Below.heap_setCell w p v g hp).trans h
theorem Touch.kept {S : Nat → Prop} {w w' : World} (h : Touch S w w') {g : Nat} {o : Obj} (hg : w.heap[g]? = some o) (hS : ¬ S g) : w'.heap[g]? = some o := by
 have hlt : g < w.heap.size := by
  by_cases hlt : g < w.heap.size
  ·exact hlt
  ·rw [Array.getElem?_eq_none (Nat.le_of_not_lt hlt)] at hg; simp at hg
 exact (h.block g hlt hS).trans hg

theorem two_new (w : World) (o o' : Obj) : ((w.alloc o).alloc o').heap[w.heap.size]? = some o ∧ ((w.alloc o).alloc o').heap[w.heap.size + 1]? = some o' :=
 ⟨(Below.heap_alloc _ o' _ (by simp)).trans (heap_alloc_new w o), by have := heap_alloc_new (w.alloc o) o'; simpa using this⟩

theorem word_put {w : World} {g : Nat} {a0 a1 a2 a3 : Value} {t : TypeId} (h : w.heap[g]? = some (.cells #[a0, a1, a2, a3] t (0, 0))) (v0 v1 v2 v3 : Value) :
  ((((w.setCell ⟨g, 0, none⟩ v0).setCell ⟨g, 1, none⟩ v1).setCell ⟨g, 2, none⟩ v2).setCell ⟨g, 3, none⟩ v3).heap[g]? = some (.cells #[v0, v1, v2, v3] t (0, 0)) := by
 have := blk_set (blk_set (blk_set (blk_set h 0 v0) 1 v1) 2 v2) 3 v3
 simpa using this

theorem results_cell_tmp {P : Program} {fn : Func} {p q : Tmp} {ty : TypeId} (h : fn.results = #[.cell p ty, .tmp q]) (tmps : Array Value) (w : World) (g : Nat) (t : TypeId) (cs : Array Value) (fr : Nat × Nat) (d : TypeDesc)
  (hp : tmps.getD p undef = .pointer (some ⟨g, 0, none⟩)) (hg : w.heap[g]? = some (.cells cs t fr))
  (hu : P.underlying ty = some d) (hd : (match d with | .struct _ | .array _ _ => true | _ => false) = true) (hi : (P.info? ty).map (·.size) = some cs.size) (v : Value) (hq : tmps.getD q undef = v) :
  (results fn tmps).run P w = .ok (.tuple #[.agg cs, v]) w := by
 have hp' : tmps[p]?.getD undef = .pointer (some ⟨g, 0, none⟩) := by simpa using hp
 have hq' : tmps[q]?.getD undef = v := by simpa using hq
 simp [results, h, hp', hq', asAddr, run_loadVar_row w g t ty cs fr d hg hu hd hi]

theorem set4_drew (w : World) (p0 p1 p2 p3 : Addr) (v0 v1 v2 v3 : Value) : ((((w.setCell p0 v0).setCell p1 v1).setCell p2 v2).setCell p3 v3).drew = (((w.drew.setCell p0 v0).setCell p1 v1).setCell p2 v2).setCell p3 v3 := rfl
theorem word_info : (Tryz.prog.info? 95).map (fun i => i.size) = some 4 := by kernel_rfl

theorem word_end {w W : World} {b : Nat} {ln : Int} {o : Option (Nat × List UInt8 × Int × List UInt8)} {a : Act} {a0 a1 a2 a3 : Value} (k : Nat) (s : ByteArray) (n : Int) (ok : Bool)
  (hd : a.defers = []) (h2 : a.tmps.getD 2 undef = .pointer (some ⟨w.heap.size, 0, none⟩)) (h3 : a.tmps.getD 3 undef = .bool ok)
  (hn : W.heap[w.heap.size]? = some (.cells #[a0, a1, a2, a3] 95 (0, 0)))
  (hfin : ∀ W' : World, W' = (((W.setCell ⟨w.heap.size, 0, none⟩ (.int .u8 k)).setCell ⟨w.heap.size, 1, none⟩ (.string s)).setCell ⟨w.heap.size, 2, none⟩ (.int .i64 n)).setCell ⟨w.heap.size, 3, none⟩ (.int .i64 ln) →
   WordPost b ln w o (.returned (.tuple #[.agg #[.int .u8 k, .string s, .int .i64 n, .int .i64 ln], .bool ok])) W') :
  bodyPost Tryz.prog Tryz.f81 (WordPost b ln w o) .ret a ((((W.setCell ⟨w.heap.size, 0, none⟩ (.int .u8 k)).setCell ⟨w.heap.size, 1, none⟩ (.string s)).setCell ⟨w.heap.size, 2, none⟩ (.int .i64 n)).setCell ⟨w.heap.size, 3, none⟩ (.int .i64 ln)) := by
 have hg := word_put hn (.int .u8 k) (.string s) (.int .i64 n) (.int .i64 ln)
 exact bodyPost_ret (results_cell_tmp (by kernel_rfl) _ _ _ _ _ _ _ h2 hg Tryz.underlying95 rfl word_info _ h3) hd (hfin _ rfl)

theorem word_text (b : Nat) (r : List UInt8) (ln : Nat) (w : World) (hl : r.length ≤ 1000000) (hb : Scan w b (34 :: r) (ln : Int)) :
  Calls Tryz.prog 81 #[.pointer (some ⟨b, 0, none⟩)] w (WordPost b ln w ((textL false r []).bind fun x => if x.1.length ≤ 4096 then some (3, x.1, 0, x.2) else none)) := by
 have hbw := hb.lt
 have c0 := hb.c0
 have c1 := hb.c1
 have hsz : 1 ≤ (bs (34 :: r)).size := by rw [bs_size]; simp
 have hget : ∀ h : 0 < (bs (34 :: r)).size, (bs (34 :: r))[0]'h = 34 := fun h => by rw [bs_get]; rfl
 have cT := fun o o' => text_any b r ln ((w.alloc o).alloc o') hl ((hb.alloc o).alloc o')
 have ht := fun o o' => ((Touch.refl (fun k => k = b) w).alloc o).alloc o'
 have hN := fun o o' => two_new w o o'
 have HN := hi_ (And.intro ht hN)
 clear hb ht hN
 generalize bs (34 :: r) = S at *
 go_enter Tryz.func81, Tryz.ntmps81
 go_wp2_with (go_at_call 110; refine (cT _ _).mono ?_)
 clear cT
 intro e W1 hT
 obtain ⟨ht, hN⟩ := HN.out
 have ht := ht (.cells #[.int .u8 0, .string ⟨#[]⟩, .int .i64 0, .int .i64 0] 95) (.cells #[.int .u8 0, .string ⟨#[]⟩, .int .i64 0, .int .i64 ln] 95)
 have hN := hN (.cells #[.int .u8 0, .string ⟨#[]⟩, .int .i64 0, .int .i64 0] 95) (.cells #[.int .u8 0, .string ⟨#[]⟩, .int .i64 0, .int .i64 ln] 95)
 have fin : ∀ (t : List UInt8) (ok : Bool) (W1 : World) (m : List UInt8), Scan W1 b m ln → Touch (fun k => k = b) w W1 → True := fun _ _ _ _ _ _ => trivial
 cases hx : textL false r [] with
 | none =>
  rw [hx] at hT
  obtain ⟨rfl, ht1, m, hs1⟩ := hT
  have n0 := ht1.kept hN.1 (by omega)
  have n1 := ht1.kept hN.2 (by omega)
  obtain ⟨d0, d1, d2, d3, g0, g1, g2, g3⟩ := word_cells n0
  obtain ⟨k0, k1, k2, k3, l0, l1, l2, l3⟩ := word_cells n1
  have ht1 := hi_ (ht.trans ht1)
  replace hs1 := hi_ hs1
  replace hx := hi_ hx
  replace n0 := hi_ n0
  clear ht hN HN n1 fin
  go_wp2
  refine word_end 3 (bs []) 0 false rfl rfl rfl (blk_far (blk_far n0.out (by simp) _) (by simp) _) ?_
  rintro W' rfl
  rw [hx.out]
  refine ⟨⟨_, _, _, rfl⟩, ?_, m, ?_⟩
  ·exact (((((ht1.out.setN (p := ⟨_, _, _⟩) (by simp) _).setN (p := ⟨_, _, _⟩) (by simp) _).setN (p := ⟨_, _, _⟩) (by simp) _).setN (p := ⟨_, _, _⟩) (by simp) _).setN (p := ⟨_, _, _⟩) (by simp) _).setN (p := ⟨_, _, _⟩) (by simp) _
  ·exact (((((hs1.out.far (p := ⟨_, _, _⟩) (by simp; omega) _).far (p := ⟨_, _, _⟩) (by simp; omega) _).far (p := ⟨_, _, _⟩) (by simp; omega) _).far (p := ⟨_, _, _⟩) (by simp; omega) _).far (p := ⟨_, _, _⟩) (by simp; omega) _).far (p := ⟨_, _, _⟩) (by simp; omega) _
 | some x =>
  obtain ⟨t, r'⟩ := x
  rw [hx] at hT
  obtain ⟨rfl, hs1, ht1⟩ := hT
  have n0 := ht1.kept hN.1 (by omega)
  have n1 := ht1.kept hN.2 (by omega)
  obtain ⟨d0, d1, d2, d3, g0, g1, g2, g3⟩ := word_cells n0
  obtain ⟨k0, k1, k2, k3, l0, l1, l2, l3⟩ := word_cells n1
  have ht1 := hi_ (ht.trans ht1)
  replace hs1 := hi_ hs1
  replace hx := hi_ hx
  replace n0 := hi_ n0
  obtain ⟨ok, hok⟩ : ∃ ok, ok = decide (t.length ≤ 4096) := ⟨_, rfl⟩
  rw [← hok]
  replace hok := hi_ hok
  clear ht hN HN n1 fin
  go_wp2
  refine word_end 3 (bs t) 0 ok rfl rfl rfl (blk_far (blk_far n0.out (by simp) _) (by simp) _) ?_
  rintro W' rfl
  rw [hx.out]
  have hT := (((((ht1.out.setN (p := ⟨w.heap.size + 1, 0, none⟩) (by simp) (.int .u8 3)).setN (p := ⟨w.heap.size + 1, 1, none⟩) (by simp) (.string (bs t))).setN (p := ⟨w.heap.size, 0, none⟩) (by simp) (.int .u8 3)).setN (p := ⟨w.heap.size, 1, none⟩) (by simp) (.string (bs t))).setN (p := ⟨w.heap.size, 2, none⟩) (by simp) (.int .i64 0)).setN (p := ⟨w.heap.size, 3, none⟩) (by simp) (.int .i64 ln)
  have hS := (((((hs1.out.far (p := ⟨w.heap.size + 1, 0, none⟩) (by simp; omega) (.int .u8 3)).far (p := ⟨w.heap.size + 1, 1, none⟩) (by simp; omega) (.string (bs t))).far (p := ⟨w.heap.size, 0, none⟩) (by simp; omega) (.int .u8 3)).far (p := ⟨w.heap.size, 1, none⟩) (by simp; omega) (.string (bs t))).far (p := ⟨w.heap.size, 2, none⟩) (by simp; omega) (.int .i64 0)).far (p := ⟨w.heap.size, 3, none⟩) (by simp; omega) (.int .i64 ln)
  simp only [Option.bind_some]
  by_cases ht4 : t.length ≤ 4096
  ·rw [if_pos ht4]
   have : ok = true := by rw [hok.out]; simpa using ht4
   subst this
   exact ⟨rfl, hS, hT⟩
  ·rw [if_neg ht4]
   have : ok = false := by rw [hok.out]; simpa using ht4
   subst this
   exact ⟨⟨_, _, _, rfl⟩, hT, r', hS⟩

theorem clone_any (s : ByteArray) (w : World) (hlim : s.size ≤ 281474976710656) :
  Calls Tryz.prog 114 #[.string s] w fun e w' => e = .returned (.string s) ∧ Below w.heap.size w w' := by
 go_enter Tryz.func114, Tryz.ntmps114
 go_wp2_with (go_at_call 138; refine (Tryz.stringslite_Clone s _ hlim).mono ?_; rintro e w1 ⟨rfl, hb⟩)
 go_ret
 exact ⟨rfl, hb⟩

theorem word_name (b : Nat) (c : UInt8) (r : List UInt8) (ln : Nat) (w : World) (hl : (c :: r).length ≤ 1000000) (hc : c ≠ 40 ∧ c ≠ 41 ∧ c ≠ 34) (hnum : isNum ((c :: r).takeWhile part) = false) (hb : Scan w b (c :: r) (ln : Int)) :
  Calls Tryz.prog 81 #[.pointer (some ⟨b, 0, none⟩)] w (WordPost b ln w (restL (c :: r))) := by
 have hbw := hb.lt
 have c0 := hb.c0
 have c1 := hb.c1
 have hsz : 1 ≤ (bs (c :: r)).size := by rw [bs_size]; simp
 have hget : ∀ h : 0 < (bs (c :: r)).size, (bs (c :: r))[0]'h = c := fun h => by rw [bs_get]; rfl
 have t0 : ((c.toNat : Int) == 40) = false := by rw [beq_eq_false_iff_ne]; intro h; apply hc.1; apply UInt8.toNat_inj.1; simp; omega
 have t1 : ((c.toNat : Int) == 41) = false := by rw [beq_eq_false_iff_ne]; intro h; apply hc.2.1; apply UInt8.toNat_inj.1; simp; omega
 have t2 : ((c.toNat : Int) == 34) = false := by rw [beq_eq_false_iff_ne]; intro h; apply hc.2.2; apply UInt8.toNat_inj.1; simp; omega
 have cE := fun o o' => eat_word1 b (c :: r) ln ((w.alloc o).alloc o') hl ((hb.alloc o).alloc o')
 have hR : Hid (restL (c :: r) = if (c :: r).takeWhile part ≠ [] ∧ ((c :: r).takeWhile part).length ≤ 4096 then some (1, (c :: r).takeWhile part, 0, (c :: r).dropWhile part) else none) := by
  show _ = _; unfold restL; simp [hnum]
 have hslen := tw_le part (c :: r)
 have ht := fun o o' => (((Touch.refl (fun k => k = b) w).set (p := ⟨b, 0, none⟩) rfl (.string (bs ((c :: r).dropWhile part)))).alloc o).alloc o'
 have hs := fun o o' => ((hb.set0 ((c :: r).dropWhile part)).alloc o).alloc o'
 have hN := fun o o' => two_new (w.setCell ⟨b, 0, none⟩ (.string (bs ((c :: r).dropWhile part)))) o o'
 have HN := hi_ (And.intro ht (And.intro hs hN))
 have cT : ∀ W, Calls Tryz.prog 112 #[.string (bs ((c :: r).takeWhile part)), .string ⟨#[45]⟩] W fun e w' => e = .returned (.string (bs (Lib.trimPrefix ((c :: r).takeWhile part) [45]))) ∧ w' = W := fun W => Tryz.strings_TrimPrefix _ _ W
 have hT : Hid (isNum ((c :: r).takeWhile part) = match Lib.trimPrefix ((c :: r).takeWhile part) [45] with | [] => false | c :: _ => kindOf c == 2) := rfl
 replace hT : Hid ((match Lib.trimPrefix ((c :: r).takeWhile part) [45] with | [] => false | c :: _ => kindOf c == 2) = false) := by
  show _ = _; rw [← hT.out, hnum]
 clear hb ht hs hN hc hnum
 have hlim : ((c :: r).takeWhile part).length ≤ 1000000 := by omega
 clear hslen hl
 generalize (c :: r).takeWhile part = s at *
 generalize (c :: r).dropWhile part = D at *
 generalize bs (c :: r) = S at *
 generalize Lib.trimPrefix s [45] = T at *
 have hsc := bs_size s
 have cC := clone_any (bs s)
 cases T with
 | nil =>
  replace cT : ∀ W, Calls Tryz.prog 112 #[.string (bs s), .string ⟨#[45]⟩] W fun e w' => e = .returned (.string ⟨#[]⟩) ∧ w' = W := cT
  go_enter Tryz.func81, Tryz.ntmps81
  go_wp2_with (first | (go_at_call 105; refine (cE _ _).mono ?_; rintro e w1 ⟨rfl, rfl⟩) | (go_at_call 112; refine (cT _).mono ?_; rintro e w1 ⟨rfl, rfl⟩) | (go_at_call 114; refine (cC _ (by omega)).mono ?_))
  intro e W1 h1
  have hE := h1.1
  have hb1 := h1.2
  subst hE
  simp only [World.size_alloc, World.size_setCell] at hb1
  obtain ⟨ht, hs, hN⟩ := HN.out
  have ht1 := (ht _ _).below hb1 (fun k hk _ => by omega)
  have hs1 := (hs _ _).below hb1 (by omega)
  have hN := hN (.cells #[.int .u8 0, .string ⟨#[]⟩, .int .i64 0, .int .i64 0] 95) (.cells #[.int .u8 0, .string ⟨#[]⟩, .int .i64 0, .int .i64 ln] 95)
  simp only [World.size_setCell] at hN
  have n0 := (hb1.block w.heap.size (by omega)).trans hN.1
  have n1 := (hb1.block (w.heap.size + 1) (by omega)).trans hN.2
  obtain ⟨d0, d1, d2, d3, g0, g1, g2, g3⟩ := word_cells n0
  obtain ⟨k0, k1, k2, k3, l0, l1, l2, l3⟩ := word_cells n1
  have hT := hi_ ((((((ht1.setN (p := ⟨w.heap.size + 1, 0, none⟩) (by simp) (.int .u8 1)).setN (p := ⟨w.heap.size + 1, 1, none⟩) (by simp) (.string (bs s))).setN (p := ⟨w.heap.size, 0, none⟩) (by simp) (.int .u8 1)).setN (p := ⟨w.heap.size, 1, none⟩) (by simp) (.string (bs s))).setN (p := ⟨w.heap.size, 2, none⟩) (by simp) (.int .i64 0)).setN (p := ⟨w.heap.size, 3, none⟩) (by simp) (.int .i64 ln))
  have hS := hi_ ((((((hs1.far (p := ⟨w.heap.size + 1, 0, none⟩) (by simp; omega) (.int .u8 1)).far (p := ⟨w.heap.size + 1, 1, none⟩) (by simp; omega) (.string (bs s))).far (p := ⟨w.heap.size, 0, none⟩) (by simp; omega) (.int .u8 1)).far (p := ⟨w.heap.size, 1, none⟩) (by simp; omega) (.string (bs s))).far (p := ⟨w.heap.size, 2, none⟩) (by simp; omega) (.int .i64 0)).far (p := ⟨w.heap.size, 3, none⟩) (by simp; omega) (.int .i64 ln))
  have n0' := hi_ (blk_far (blk_far n0 (p := ⟨w.heap.size + 1, 0, none⟩) (by simp) (.int .u8 1)) (p := ⟨w.heap.size + 1, 1, none⟩) (by simp) (.string (bs s)))
  clear h1 hb1 ht hs hN HN n0 n1 cC ht1 hs1
  by_cases hs0 : s = []
  ·have he : (bs s).toList.isEmpty = true := by rw [Lib.toList_data, bs_data, hs0]; rfl
   replace hs0 := hi_ hs0
   go_wp2
   refine word_end 1 (bs s) 0 false rfl rfl rfl n0'.out ?_
   rintro W' rfl
   rw [hR.out, if_neg (by rw [hs0.out]; simp)]
   exact ⟨⟨_, _, _, rfl⟩, hT.out, D, hS.out⟩
  ·have he : (bs s).toList.isEmpty = false := by rw [Lib.toList_data, bs_data]; cases s with | nil => exact absurd rfl hs0 | cons => rfl
   replace hs0 := hi_ hs0
   by_cases h4 : s.length ≤ 4096
   ·have h4' : decide ((s.length : Int) ≤ 4096) = true := by simp; omega
    go_wp2
    refine word_end 1 (bs s) 0 true rfl rfl rfl n0'.out ?_
    rintro W' rfl
    rw [hR.out, if_pos ⟨hs0.out, h4⟩]
    exact ⟨rfl, hS.out, hT.out⟩
   ·have h4' : decide ((s.length : Int) ≤ 4096) = false := by simp; omega
    go_wp2
    refine word_end 1 (bs s) 0 false rfl rfl rfl n0'.out ?_
    rintro W' rfl
    rw [hR.out, if_neg (fun h => h4 h.2)]
    exact ⟨⟨_, _, _, rfl⟩, hT.out, D, hS.out⟩
 | cons d T =>
  have hTe : (bs (d :: T)).toList.isEmpty = false := by rw [Lib.toList_data]; rfl
  have hTg : ∀ h : 0 < (bs (d :: T)).size, (bs (d :: T))[0]'h = d := fun h => by rw [bs_get]; rfl
  have hTz : 1 ≤ (bs (d :: T)).size := by rw [bs_size]; simp
  have hk : ((kindOf d : Int) == 2) = false := by
   have := hT.out
   simp only [beq_eq_false_iff_ne] at this
   rw [beq_eq_false_iff_ne]; omega
  generalize bs (d :: T) = U at *
  clear hT
  go_enter Tryz.func81, Tryz.ntmps81
  go_wp2_with (first | (go_at_call 105; refine (cE _ _).mono ?_; rintro e w1 ⟨rfl, rfl⟩) | (go_at_call 112; refine (cT _).mono ?_; rintro e w1 ⟨rfl, rfl⟩) | (go_at_call 114; refine (cC _ (by omega)).mono ?_) | (go_at_call 107; refine (of_any d _).mono ?_; rintro e w1 ⟨rfl, rfl⟩))
  intro e W1 h1
  have hE := h1.1
  have hb1 := h1.2
  subst hE
  simp only [World.size_alloc, World.size_setCell] at hb1
  obtain ⟨ht, hs, hN⟩ := HN.out
  have ht1 := (ht _ _).below hb1 (fun k hk _ => by omega)
  have hs1 := (hs _ _).below hb1 (by omega)
  have hN := hN (.cells #[.int .u8 0, .string ⟨#[]⟩, .int .i64 0, .int .i64 0] 95) (.cells #[.int .u8 0, .string ⟨#[]⟩, .int .i64 0, .int .i64 ln] 95)
  simp only [World.size_setCell] at hN
  have n0 := (hb1.block w.heap.size (by omega)).trans hN.1
  have n1 := (hb1.block (w.heap.size + 1) (by omega)).trans hN.2
  obtain ⟨d0, d1, d2, d3, g0, g1, g2, g3⟩ := word_cells n0
  obtain ⟨k0, k1, k2, k3, l0, l1, l2, l3⟩ := word_cells n1
  have hT := hi_ ((((((ht1.setN (p := ⟨w.heap.size + 1, 0, none⟩) (by simp) (.int .u8 1)).setN (p := ⟨w.heap.size + 1, 1, none⟩) (by simp) (.string (bs s))).setN (p := ⟨w.heap.size, 0, none⟩) (by simp) (.int .u8 1)).setN (p := ⟨w.heap.size, 1, none⟩) (by simp) (.string (bs s))).setN (p := ⟨w.heap.size, 2, none⟩) (by simp) (.int .i64 0)).setN (p := ⟨w.heap.size, 3, none⟩) (by simp) (.int .i64 ln))
  have hS := hi_ ((((((hs1.far (p := ⟨w.heap.size + 1, 0, none⟩) (by simp; omega) (.int .u8 1)).far (p := ⟨w.heap.size + 1, 1, none⟩) (by simp; omega) (.string (bs s))).far (p := ⟨w.heap.size, 0, none⟩) (by simp; omega) (.int .u8 1)).far (p := ⟨w.heap.size, 1, none⟩) (by simp; omega) (.string (bs s))).far (p := ⟨w.heap.size, 2, none⟩) (by simp; omega) (.int .i64 0)).far (p := ⟨w.heap.size, 3, none⟩) (by simp; omega) (.int .i64 ln))
  have n0' := hi_ (blk_far (blk_far n0 (p := ⟨w.heap.size + 1, 0, none⟩) (by simp) (.int .u8 1)) (p := ⟨w.heap.size + 1, 1, none⟩) (by simp) (.string (bs s)))
  clear h1 hb1 ht hs hN HN n0 n1 cC ht1 hs1
  by_cases hs0 : s = []
  ·have he : (bs s).toList.isEmpty = true := by rw [Lib.toList_data, bs_data, hs0]; rfl
   replace hs0 := hi_ hs0
   go_wp2
   refine word_end 1 (bs s) 0 false rfl rfl rfl n0'.out ?_
   rintro W' rfl
   rw [hR.out, if_neg (by rw [hs0.out]; simp)]
   exact ⟨⟨_, _, _, rfl⟩, hT.out, D, hS.out⟩
  ·have he : (bs s).toList.isEmpty = false := by rw [Lib.toList_data, bs_data]; cases s with | nil => exact absurd rfl hs0 | cons => rfl
   replace hs0 := hi_ hs0
   by_cases h4 : s.length ≤ 4096
   ·have h4' : decide ((s.length : Int) ≤ 4096) = true := by simp; omega
    go_wp2
    refine word_end 1 (bs s) 0 true rfl rfl rfl n0'.out ?_
    rintro W' rfl
    rw [hR.out, if_pos ⟨hs0.out, h4⟩]
    exact ⟨rfl, hS.out, hT.out⟩
   ·have h4' : decide ((s.length : Int) ≤ 4096) = false := by simp; omega
    go_wp2
    refine word_end 1 (bs s) 0 false rfl rfl rfl n0'.out ?_
    rintro W' rfl
    rw [hR.out, if_neg (fun h => h4 h.2)]
    exact ⟨⟨_, _, _, rfl⟩, hT.out, D, hS.out⟩

theorem below_bytesWorld (w : World) (e : TypeId) (t : ByteArray) : Below w.heap.size w (Lib.bytesWorld w e t) :=
 ⟨rfl, rfl, rfl, by rw [Lib.bytesWorld_size]; omega, fun i hi => Lib.bytesWorld_at_old w e t i hi⟩
theorem below_grow (w : World) (k : Nat) (os : Array Obj) : Below w.heap.size w (Go.Sort.grow (w.drewN k) os) :=
 ⟨rfl, rfl, rfl, by show w.heap.size ≤ (w.heap ++ os).size; rw [Array.size_append]; omega, fun j hj => by show (w.heap ++ os)[j]? = _; rw [Array.getElem?_append_left hj]⟩
theorem Env.set {w : World} (h : Env w) {p : Addr} (hp : EnvUnder p.block) (v : Value) : Env (w.setCell p v) :=
 h.below ((Below.refl p.block w).setCell (Nat.le_refl _) v) hp
theorem Env.alloc {w : World} (h : Env w) (o : Obj) : Env (w.alloc o) := h.below ((Below.refl _ w).alloc (Nat.le_refl _) o) h.size
theorem EnvUnder.mono {B B' : Nat} (h : EnvUnder B) (hB : B ≤ B') : EnvUnder B' := ⟨by have := h.1; omega, by have := h.2.1; omega, by have := h.2.2; omega⟩
theorem parse_bounds (s : List UInt8) (v : Int) (h : Lib.parseIntB 64 s = .ok v) : -9223372036854775808 ≤ v ∧ v ≤ 9223372036854775807 := by
 cases s with
 | nil => simp [Lib.parseIntB] at h
 | cons c r =>
  have p : (2 : Nat) ^ (64 - 1) = 9223372036854775808 := by decide
  simp only [Lib.parseIntB] at h
  rw [p] at h
  split at h
  ·simp at h
  ·simp at h
  ·rename_i u _
   split at h
   ·simp at h
   ·split at h
    ·simp at h
    ·rename_i h1 h2
     simp only [Lib.NumEnd.ok.injEq] at h
     subst h
     split
     ·rename_i hn
      have : u ≤ 9223372036854775808 := by
       by_cases hu : 9223372036854775808 < u
       ·exact absurd ⟨hn, hu⟩ h2
       ·omega
      omega
     ·rename_i hn
      have : u < 9223372036854775808 := by
       by_cases hu : 9223372036854775808 ≤ u
       ·exact absurd ⟨hn, hu⟩ h1
       ·omega
      omega

theorem fmt_any (v : Int) (w : World) (h0 : -9223372036854775808 ≤ v ∧ v ≤ 9223372036854775807) (hE : Env w) :
  Calls Tryz.prog 58 #[.int .i64 v, .int .i64 10] w fun e w' => e = .returned (.string (bs (Lib.itoa v))) ∧ Below w.heap.size w w' :=
 (Tryz.strconv_FormatInt_10 v h0.1 h0.2 w hE.2.2).mono fun _e _w' ⟨he, k, os, hw⟩ => ⟨he, hw ▸ below_grow w k os⟩

def ParsePost (s : List UInt8) (w : World) (e : Ending) (w' : World) : Prop :=
 Below w.heap.size w w' ∧
 match Lib.parseIntB 64 s with
 | .ok v => e = .returned (.tuple #[.int .i64 v, .nilIface])
 | _ => ∃ (v : Int) (N : Nat), e = .returned (.tuple #[.int .i64 v, .iface 187 (.pointer (some ⟨N, 0, none⟩))])
theorem parse_any (s : List UInt8) (w : World) (hlim : s.length ≤ 1000000) (hE : Env w) :
  Calls Tryz.prog 113 #[.string (bs s), .int .i64 10, .int .i64 64] w (ParsePost s w) := by
 obtain ⟨⟨t1, p1, h1⟩, ⟨t2, p2, h2⟩, h3⟩ := hE
 have hs := bs_size s
 rcases h : Lib.parseIntB 64 s with v | _ | _
 ·refine (Tryz.strconv_ParseInt_10_at64_ok (bs s) (by omega) v h w).mono ?_
  rintro e w' ⟨rfl, hw⟩
  refine ⟨?_, by rw [h]⟩
  rcases hw with rfl | ⟨t, rfl⟩
  ·exact Below.refl _ _
  ·exact below_bytesWorld _ _ _
 ·have c : Calls Tryz.prog 113 _ _ _ := Any.strconv_ParseInt_10_at64_syntax_var Tryz.laysC174 (bs s) (by omega) h t1 p1 w h1
  refine c.mono ?_
  rintro e w' ⟨N, rfl, _, _, hb⟩
  exact ⟨hb, by rw [h]; exact ⟨_, N, rfl⟩⟩
 ·refine (Tryz.strconv_ParseInt_10_at64_range_var (bs s) (by omega) h t2 p2 w h2).mono ?_
  rintro e w' ⟨N, rfl, _, _, hb⟩
  exact ⟨hb, by rw [h]; exact ⟨_, N, rfl⟩⟩

theorem word_num (b : Nat) (c : UInt8) (r : List UInt8) (ln : Nat) (w : World) (hl : (c :: r).length ≤ 1000000) (hc : c ≠ 40 ∧ c ≠ 41 ∧ c ≠ 34) (hnum : isNum ((c :: r).takeWhile part) = true) (hE : Env w) (hbE : EnvUnder b) (hb : Scan w b (c :: r) (ln : Int)) :
  Calls Tryz.prog 81 #[.pointer (some ⟨b, 0, none⟩)] w (WordPost b ln w (restL (c :: r))) := by
 have hbw := hb.lt
 have c0 := hb.c0
 have c1 := hb.c1
 have hsz : 1 ≤ (bs (c :: r)).size := by rw [bs_size]; simp
 have hget : ∀ h : 0 < (bs (c :: r)).size, (bs (c :: r))[0]'h = c := fun h => by rw [bs_get]; rfl
 have t0 : ((c.toNat : Int) == 40) = false := by rw [beq_eq_false_iff_ne]; intro h; apply hc.1; apply UInt8.toNat_inj.1; simp; omega
 have t1 : ((c.toNat : Int) == 41) = false := by rw [beq_eq_false_iff_ne]; intro h; apply hc.2.1; apply UInt8.toNat_inj.1; simp; omega
 have t2 : ((c.toNat : Int) == 34) = false := by rw [beq_eq_false_iff_ne]; intro h; apply hc.2.2; apply UInt8.toNat_inj.1; simp; omega
 have cE := fun o o' => eat_word1 b (c :: r) ln ((w.alloc o).alloc o') hl ((hb.alloc o).alloc o')
 have hR : Hid (restL (c :: r) = (numL ((c :: r).takeWhile part)).map fun n => (2, [], n, (c :: r).dropWhile part)) := by
  show _ = _; unfold restL; simp [hnum]
 have hslen := tw_le part (c :: r)
 have ht := fun o o' => (((Touch.refl (fun k => k = b) w).set (p := ⟨b, 0, none⟩) rfl (.string (bs ((c :: r).dropWhile part)))).alloc o).alloc o'
 have hs := fun o o' => ((hb.set0 ((c :: r).dropWhile part)).alloc o).alloc o'
 have hN := fun o o' => two_new (w.setCell ⟨b, 0, none⟩ (.string (bs ((c :: r).dropWhile part)))) o o'
 have HN := hi_ (And.intro ht (And.intro hs hN))
 have cT : ∀ W, Calls Tryz.prog 112 #[.string (bs ((c :: r).takeWhile part)), .string ⟨#[45]⟩] W fun e w' => e = .returned (.string (bs (Lib.trimPrefix ((c :: r).takeWhile part) [45]))) ∧ w' = W := fun W => Tryz.strings_TrimPrefix _ _ W
 have hT : Hid (isNum ((c :: r).takeWhile part) = match Lib.trimPrefix ((c :: r).takeWhile part) [45] with | [] => false | c :: _ => kindOf c == 2) := rfl
 replace hT : Hid ((match Lib.trimPrefix ((c :: r).takeWhile part) [45] with | [] => false | c :: _ => kindOf c == 2) = true) := by
  show _ = _; rw [← hT.out, hnum]
 clear hb ht hs hN hc hnum
 have hlim : ((c :: r).takeWhile part).length ≤ 1000000 := by omega
 clear hslen hl
 generalize (c :: r).takeWhile part = s at *
 generalize (c :: r).dropWhile part = D at *
 generalize bs (c :: r) = S at *
 generalize Lib.trimPrefix s [45] = T at *
 have hP : Hid (∀ W, Env W → Calls Tryz.prog 113 #[.string (bs s), .int .i64 10, .int .i64 64] W (ParsePost s W)) := fun W h => parse_any s W hlim h
 have hHE := hi_ hE
 have hHb := hi_ hbE
 clear hE hbE
 cases T with
 | nil => exact absurd hT.out (by simp)
 | cons d T =>
  have hTe : (bs (d :: T)).toList.isEmpty = false := by rw [Lib.toList_data]; rfl
  have hTg : ∀ h : 0 < (bs (d :: T)).size, (bs (d :: T))[0]'h = d := fun h => by rw [bs_get]; rfl
  have hTz : 1 ≤ (bs (d :: T)).size := by rw [bs_size]; simp
  have hk : ((kindOf d : Int) == 2) = true := by
   have := hT.out
   simp only [beq_iff_eq] at this
   rw [beq_iff_eq]; omega
  generalize bs (d :: T) = U at *
  clear hT
  go_enter Tryz.func81, Tryz.ntmps81
  go_wp2_with (first | (go_at_call 105; refine (cE _ _).mono ?_; rintro e w1 ⟨rfl, rfl⟩) | (go_at_call 112; refine (cT _).mono ?_; rintro e w1 ⟨rfl, rfl⟩) | (go_at_call 107; refine (of_any d _).mono ?_; rintro e w1 ⟨rfl, rfl⟩) | (go_at_call 113; refine (hP.out _ (((hHE.out.set (p := ⟨b, 0, none⟩) hHb.out _).alloc _).alloc _)).mono ?_))
  intro e W1 h1
  obtain ⟨hb1, hpv⟩ := h1
  have hEE := ((hHE.out.set (p := ⟨b, 0, none⟩) hHb.out (.string (bs D))).alloc (.cells #[.int .u8 0, .string ⟨#[]⟩, .int .i64 0, .int .i64 0] 95)).alloc (.cells #[.int .u8 0, .string ⟨#[]⟩, .int .i64 0, .int .i64 ln] 95)
  replace hEE := hEE.below hb1 hEE.size
  simp only [World.size_alloc, World.size_setCell] at hb1
  obtain ⟨ht, hs, hN⟩ := HN.out
  have ht1 := (ht _ _).below hb1 (fun k hk _ => by omega)
  have hs1 := (hs _ _).below hb1 (by omega)
  have hN := hN (.cells #[.int .u8 0, .string ⟨#[]⟩, .int .i64 0, .int .i64 0] 95) (.cells #[.int .u8 0, .string ⟨#[]⟩, .int .i64 0, .int .i64 ln] 95)
  simp only [World.size_setCell] at hN
  have n0 := (hb1.block w.heap.size (by omega)).trans hN.1
  have n1 := (hb1.block (w.heap.size + 1) (by omega)).trans hN.2
  obtain ⟨d0, d1, d2, d3, g0, g1, g2, g3⟩ := word_cells n0
  obtain ⟨k0, k1, k2, k3, l0, l1, l2, l3⟩ := word_cells n1
  have hW1 : w.heap.size + 2 ≤ W1.heap.size := by have := hb1.size; simp at this; omega
  have hways : (∃ v, Lib.parseIntB 64 s = .ok v ∧ e = .returned (.tuple #[.int .i64 v, .nilIface])) ∨
    (numL s = none ∧ ∃ (v : Int) (N : Nat), e = .returned (.tuple #[.int .i64 v, .iface 187 (.pointer (some ⟨N, 0, none⟩))])) := by
   rcases hpi : Lib.parseIntB 64 s with v | _ | _
   ·rw [hpi] at hpv; exact .inl ⟨v, rfl, hpv⟩
   ·rw [hpi] at hpv; exact .inr ⟨by unfold numL; rw [hpi], hpv⟩
   ·rw [hpi] at hpv; exact .inr ⟨by unfold numL; rw [hpi], hpv⟩
  clear hpv
  rcases hways with ⟨v, hpi, rfl⟩ | ⟨hno, v, N, rfl⟩
  ·
   have hnum : Hid (numL s = if Lib.itoa v = s then some v else none) := by show _ = _; unfold numL; rw [hpi]
   have hvb := parse_bounds s v hpi
   have hF : Hid (∀ W, Env W → Calls Tryz.prog 58 #[.int .i64 v, .int .i64 10] W fun e w' => e = .returned (.string (bs (Lib.itoa v))) ∧ Below W.heap.size W w') := fun W h => fmt_any v W hvb h
   have HEE : Hid (Env ((W1.setCell ⟨w.heap.size + 1, 0, none⟩ (.int .u8 2)).setCell ⟨w.heap.size + 1, 2, none⟩ (.int .i64 v))) :=
    (hEE.set (hHE.out.size.mono (by simp)) _).set (hHE.out.size.mono (by simp)) _
   have htr := (ht1.setN (p := ⟨w.heap.size + 1, 0, none⟩) (by simp) (.int .u8 2)).setN (p := ⟨w.heap.size + 1, 2, none⟩) (by simp) (.int .i64 v)
   have hsr := (hs1.far (p := ⟨w.heap.size + 1, 0, none⟩) (by simp; omega) (.int .u8 2)).far (p := ⟨w.heap.size + 1, 2, none⟩) (by simp; omega) (.int .i64 v)
   have n0r := blk_far (blk_far n0 (p := ⟨w.heap.size + 1, 0, none⟩) (by simp) (.int .u8 2)) (p := ⟨w.heap.size + 1, 2, none⟩) (by simp) (.int .i64 v)
   have n1r := blk_set (blk_set n1 0 (.int .u8 2)) 2 (.int .i64 v)
   simp only [List.setIfInBounds_toArray, List.set_cons_zero, List.set_cons_succ] at n1r
   have hzr : w.heap.size + 2 ≤ ((W1.setCell ⟨w.heap.size + 1, 0, none⟩ (.int .u8 2)).setCell ⟨w.heap.size + 1, 2, none⟩ (.int .i64 v)).heap.size := by simpa using hW1
   have HH := hi_ (And.intro htr (And.intro hsr (And.intro n0r (And.intro n1r hzr))))
   clear hEE hN hs ht ht1 hs1 n0 n1 hb1 HN hpi hvb cE cT htr hsr n0r n1r hzr
   go_wp2
   obtain ⟨Wr, hWr⟩ : ∃ Wr, Wr = (W1.setCell ⟨w.heap.size + 1, 0, none⟩ (.int .u8 2)).setCell ⟨w.heap.size + 1, 2, none⟩ (.int .i64 v) := ⟨_, rfl⟩
   rw [← hWr]
   obtain ⟨htr, hsr, n0r, n1r, hzr⟩ := HH.out
   rw [← hWr] at htr hsr n0r n1r hzr HEE
   clear hWr HH d0 d1 d2 d3 g0 g1 g2 g3 k0 k1 k2 k3 l0 l1 l2 l3 hW1
   obtain ⟨d0, d1, d2, d3, g0, g1, g2, g3⟩ := word_cells n0r
   obtain ⟨k0, k1, k2, k3, l0, l1, l2, l3⟩ := word_cells n1r
   replace n0r := hi_ n0r
   replace n1r := hi_ n1r
   replace htr := hi_ htr
   replace hsr := hi_ hsr
   have HED : Hid (Env Wr.drew) := HEE.out
   by_cases hv : Lib.itoa v = s
   ·rw [hv] at hF
    replace hv := hi_ hv
    go_region_with (go_at_call 58; refine (hF.out _ HED.out).mono ?_; rintro e W2 ⟨rfl, hb2⟩; have m0 := (hb2.block w.heap.size (by show _ < Wr.heap.size; omega)).trans n0r.out; have m1 := (hb2.block (w.heap.size + 1) (by show _ < Wr.heap.size; omega)).trans n1r.out; obtain ⟨p0, p1, p2, p3, q0, q1, q2, q3⟩ := word_cells m0; obtain ⟨r0, r1, r2, r3, s0, s1, s2, s3⟩ := word_cells m1)
    all_goals
     replace m0 := hi_ m0
     replace m1 := hi_ m1
     replace hb2 := hi_ hb2
     go_wp2
     refine word_end 2 ⟨#[]⟩ v true rfl rfl rfl m0.out ?_
     rintro W' rfl
     rw [hR.out, hnum.out, if_pos hv.out]
     have hS := (show Scan Wr.drew b D ln from hsr.out).below hb2.out (by show b < Wr.heap.size; omega)
     have hT := (show Touch (fun k => k = b) w Wr.drew from htr.out.drewN 1).below hb2.out (fun k hk _ => by show k < Wr.heap.size; omega)
     exact ⟨rfl, (((hS.far (p := ⟨w.heap.size, 0, none⟩) (by simp; omega) _).far (p := ⟨w.heap.size, 1, none⟩) (by simp; omega) _).far (p := ⟨w.heap.size, 2, none⟩) (by simp; omega) _).far (p := ⟨w.heap.size, 3, none⟩) (by simp; omega) _,
      (((hT.setN (p := ⟨w.heap.size, 0, none⟩) (by simp) _).setN (p := ⟨w.heap.size, 1, none⟩) (by simp) _).setN (p := ⟨w.heap.size, 2, none⟩) (by simp) _).setN (p := ⟨w.heap.size, 3, none⟩) (by simp) _⟩
   ·have hne : ((bs (Lib.itoa v)).toList == (bs s).toList) = false := by
     rw [Lib.toList_data, Lib.toList_data, bs_data, bs_data]; simpa using hv
    replace hv := hi_ hv
    go_region_with (go_at_call 58; refine (hF.out _ HED.out).mono ?_; rintro e W2 ⟨rfl, hb2⟩; have m0 := (hb2.block w.heap.size (by show _ < Wr.heap.size; omega)).trans n0r.out; have m1 := (hb2.block (w.heap.size + 1) (by show _ < Wr.heap.size; omega)).trans n1r.out; obtain ⟨p0, p1, p2, p3, q0, q1, q2, q3⟩ := word_cells m0; obtain ⟨r0, r1, r2, r3, s0, s1, s2, s3⟩ := word_cells m1)
    all_goals
     replace m0 := hi_ m0
     replace m1 := hi_ m1
     replace hb2 := hi_ hb2
     go_wp2
     refine word_end 2 ⟨#[]⟩ v false rfl rfl rfl m0.out ?_
     rintro W' rfl
     rw [hR.out, hnum.out, if_neg hv.out]
     have hS := (show Scan Wr.drew b D ln from hsr.out).below hb2.out (by show b < Wr.heap.size; omega)
     have hT := (show Touch (fun k => k = b) w Wr.drew from htr.out.drewN 1).below hb2.out (fun k hk _ => by show k < Wr.heap.size; omega)
     exact ⟨⟨_, _, _, rfl⟩, (((hT.setN (p := ⟨w.heap.size, 0, none⟩) (by simp) _).setN (p := ⟨w.heap.size, 1, none⟩) (by simp) _).setN (p := ⟨w.heap.size, 2, none⟩) (by simp) _).setN (p := ⟨w.heap.size, 3, none⟩) (by simp) _,
      D, (((hS.far (p := ⟨w.heap.size, 0, none⟩) (by simp; omega) _).far (p := ⟨w.heap.size, 1, none⟩) (by simp; omega) _).far (p := ⟨w.heap.size, 2, none⟩) (by simp; omega) _).far (p := ⟨w.heap.size, 3, none⟩) (by simp; omega) _⟩
  ·replace hno := hi_ hno
   have htr := (ht1.setN (p := ⟨w.heap.size + 1, 0, none⟩) (by simp) (.int .u8 2)).setN (p := ⟨w.heap.size + 1, 2, none⟩) (by simp) (.int .i64 v)
   have hsr := (hs1.far (p := ⟨w.heap.size + 1, 0, none⟩) (by simp; omega) (.int .u8 2)).far (p := ⟨w.heap.size + 1, 2, none⟩) (by simp; omega) (.int .i64 v)
   have n0r := blk_far (blk_far n0 (p := ⟨w.heap.size + 1, 0, none⟩) (by simp) (.int .u8 2)) (p := ⟨w.heap.size + 1, 2, none⟩) (by simp) (.int .i64 v)
   have n1r := blk_set (blk_set n1 0 (.int .u8 2)) 2 (.int .i64 v)
   simp only [List.setIfInBounds_toArray, List.set_cons_zero, List.set_cons_succ] at n1r
   have hzr : w.heap.size + 2 ≤ ((W1.setCell ⟨w.heap.size + 1, 0, none⟩ (.int .u8 2)).setCell ⟨w.heap.size + 1, 2, none⟩ (.int .i64 v)).heap.size := by simpa using hW1
   have HH := hi_ (And.intro htr (And.intro hsr (And.intro n0r (And.intro n1r hzr))))
   clear hEE hN hs ht ht1 hs1 n0 n1 hb1 HN  cE cT htr hsr n0r n1r hzr
   go_wp2
   obtain ⟨Wr, hWr⟩ : ∃ Wr, Wr = (W1.setCell ⟨w.heap.size + 1, 0, none⟩ (.int .u8 2)).setCell ⟨w.heap.size + 1, 2, none⟩ (.int .i64 v) := ⟨_, rfl⟩
   rw [← hWr]
   obtain ⟨htr, hsr, n0r, n1r, hzr⟩ := HH.out
   rw [← hWr] at htr hsr n0r n1r hzr
   clear hWr HH d0 d1 d2 d3 g0 g1 g2 g3 k0 k1 k2 k3 l0 l1 l2 l3 hW1
   obtain ⟨d0, d1, d2, d3, g0, g1, g2, g3⟩ := word_cells n0r
   obtain ⟨k0, k1, k2, k3, l0, l1, l2, l3⟩ := word_cells n1r
   replace n0r := hi_ n0r
   replace n1r := hi_ n1r
   replace htr := hi_ htr
   replace hsr := hi_ hsr
   go_region
   all_goals
    go_wp2
    rw [set4_drew]
    refine word_end (W := Wr.drew) 2 ⟨#[]⟩ v false rfl rfl rfl n0r.out ?_
    rintro W' rfl
    rw [hR.out, hno.out]
    have hS : Scan Wr.drew b D ln := hsr.out
    have hT : Touch (fun k => k = b) w Wr.drew := htr.out.drewN 1
    exact ⟨⟨_, _, _, rfl⟩, (((hT.setN (p := ⟨w.heap.size, 0, none⟩) (by simp) _).setN (p := ⟨w.heap.size, 1, none⟩) (by simp) _).setN (p := ⟨w.heap.size, 2, none⟩) (by simp) _).setN (p := ⟨w.heap.size, 3, none⟩) (by simp) _,
     D, (((hS.far (p := ⟨w.heap.size, 0, none⟩) (by simp; omega) _).far (p := ⟨w.heap.size, 1, none⟩) (by simp; omega) _).far (p := ⟨w.heap.size, 2, none⟩) (by simp; omega) _).far (p := ⟨w.heap.size, 3, none⟩) (by simp; omega) _⟩

theorem word_any (b : Nat) (l : List UInt8) (ln : Nat) (w : World) (hl : l.length ≤ 1000000) (hne : l ≠ []) (hE : Env w) (hbE : EnvUnder b) (hb : Scan w b l (ln : Int)) :
  Calls Tryz.prog 81 #[.pointer (some ⟨b, 0, none⟩)] w (WordPost b ln w (wordL l)) := by
 cases l with
 | nil => exact absurd rfl hne
 | cons c r =>
  rw [wordL]
  by_cases h1 : c = 40
  ·subst h1; rw [if_pos rfl]; exact word_open b r ln w hb
  ·rw [if_neg h1]
   by_cases h2 : c = 41
   ·subst h2; rw [if_pos rfl]; exact word_close b r ln w hb
   ·rw [if_neg h2]
    by_cases h3 : c = 34
    ·subst h3; rw [if_pos rfl]; exact word_text b r ln w (by simp at hl; omega) hb
    ·rw [if_neg h3]
     cases hn : isNum ((c :: r).takeWhile part) with
     | false => exact word_name b c r ln w hl ⟨h1, h2, h3⟩ hn hb
     | true => exact word_num b c r ln w hl ⟨h1, h2, h3⟩ hn hE hbE hb

def wcell (x : Nat × List UInt8 × Int × Nat) : List Value := [.int .u8 (x.1 : Nat), .string (bs x.2.1), .int .i64 x.2.2.1, .int .i64 (x.2.2.2 : Nat)]
def wcells (l : List (Nat × List UInt8 × Int × Nat)) : List Value := l.flatMap wcell
theorem wcells_snoc (l : List (Nat × List UInt8 × Int × Nat)) (x : Nat × List UInt8 × Int × Nat) : wcells (l ++ [x]) = wcells l ++ wcell x := by simp [wcells]

def wordsL (l : List UInt8) : Except (Nat × Nat) (List (Nat × List UInt8 × Int × Nat)) :=
 if 65536 < l.length then .error (0, 3)
 else match wordsGo (l.length + 1) (skipL l 0).1 (skipL l 0).2 [] with
  | .ok ws => .ok ws
  | .error ln => .error (ln, 4)

def WordsPost (w : World) (o : Except (Nat × Nat) (List (Nat × List UInt8 × Int × Nat))) (e : Ending) (w' : World) : Prop :=
 Below w.heap.size w w' ∧
 match o with
 | .ok ws => ∃ v, e = .returned (.tuple #[v, .int .i64 0, .int .i64 0]) ∧ w'.ownsRow w.heap.size 95 4 v ws.length (wcells ws)
 | .error (ln, er) => e = .returned (.tuple #[.slice none 0 0, .int .i64 (ln : Nat), .int .i64 (er : Nat)])

theorem Touch.grownBy {b : Nat} {w w' : World} (h : Touch (fun k => k = b) w w') : w.grownBy w' (some b) :=
 ⟨h.os, h.tape, h.output, h.size, fun k hk hne => h.block k hk (fun e => hne (by rw [e]))⟩
theorem own_touch {b : Nat} {w w' : World} {base : Nat} {e : TypeId} {size : Nat} {v : Value} {n : Nat} {xs : List Value} (h : w.ownsRow base e size v n xs) (ht : Touch (fun k => k = b) w w') (hb : b < base) : w'.ownsRow base e size v n xs :=
 h.kept ht.grownBy (by
  cases hv : v.ownBlock with
  | none => exact .inl rfl
  | some k => exact .inr (fun e => by have := (h.lt k hv).1; simp at e; omega))
theorem own_mono {w : World} {base base' : Nat} {e : TypeId} {size : Nat} {v : Value} {n : Nat} {xs : List Value} (h : w.ownsRow base e size v n xs) (hb : base' ≤ base) : w.ownsRow base' e size v n xs := by
 refine ⟨h.1, h.2.imp_right ?_⟩
 rintro ⟨g, cap, cur, h1, h2, h3⟩
 exact ⟨g, cap, cur, h1, by omega, h3⟩
theorem infoWord : (Tryz.prog.info? 95).map (fun i => (i.zero, i.size, i.bytes)) = some (some (.agg #[.int .u8 0, .string ⟨#[]⟩, .int .i64 0, .int .i64 0]), 4, 40) := by kernel_rfl

theorem words_any (l : List UInt8) (w : World) (hl : l.length ≤ 65536) (hE : Env w) :
  Calls Tryz.prog 50 #[.string (bs l)] w (WordsPost w (wordsL l)) := by
 have hsz := bs_size l
 obtain ⟨i0, hi, hz0, hz1, hz2⟩ := info_parts infoWord
 have hE0 := hi_ hE
 have hEb := hi_ hE.size
 clear hE
 have hS0 : Hid (Scan (w.alloc (.cells #[.string (bs l), .int .i64 0] 125)) w.heap.size l (0 : Nat)) := heap_alloc_new w _
 have hW : Hid (wordsL l = match wordsGo (l.length + 1) (skipL l 0).1 (skipL l 0).2 [] with | .ok ws => .ok ws | .error ln => .error (ln, 4)) := by
  show _ = _; unfold wordsL; rw [if_neg (by omega)]
 have hskn := skipL_sum l 0
 generalize hk1 : (skipL l 0).1 = m0 at *
 generalize hk2 : (skipL l 0).2 = n0 at *
 have cK := skip_any w.heap.size l 0 _ (by omega) hS0.out
 rw [hk1, hk2] at cK
 clear hk1 hk2
 go_enter Tryz.func50, Tryz.ntmps50
 go_wp2_with (go_at_call 80; refine cK.mono ?_)
 rintro e W0 ⟨rfl, hs0, ht0⟩
 have hb0 : Below w.heap.size w W0 := ((Below.refl _ w).alloc (Nat.le_refl _) _).trans (ht0.to_below (by simp) (fun k hk e => by omega))
 have hz0' := hs0.lt
 clear cK ht0 hS0
 go_wp2_with fail
 go_loopg [6] (l.length + 1) (fun g v wr => ∃ (m : List UInt8) (ln : Nat) (acc : List (Nat × List UInt8 × Int × Nat)), Scan wr w.heap.size m (ln : Int) ∧ wr.ownsRow (w.heap.size + 1) 95 4 v acc.length (wcells acc) ∧ Below w.heap.size w wr ∧
  Hid (wordsGo g m ln acc = wordsGo (l.length + 1) m0 n0 []) ∧ m.length < g ∧ acc.length + m.length ≤ l.length ∧ m.length + ln ≤ l.length)
 case atStart => exact ⟨m0, n0, [], hs0, World.ownsRow_nil _ _ _ _, hb0, rfl, by omega, by simp; omega, by omega⟩
 case round =>
  obtain ⟨m, ln, acc, hs, hown, hb, hgo, hmg, hacc, hmln⟩ := hrel
  clear hs0 hb0 hz0'
  obtain ⟨g', rfl⟩ : ∃ g', gk = g' + 1 := ⟨gk - 1, by omega⟩
  cases m with
  | nil =>
   have c0 := hs.c0
   have hfin : Hid (WordsPost w (wordsL l) (.returned (.tuple #[u6, .int .i64 0, .int .i64 0])) wr) := by
    refine ⟨hb, ?_⟩
    rw [hW.out, ← hgo.out]
    exact ⟨u6, rfl, own_mono hown (by omega)⟩
   have he : (bs []).toList.isEmpty = true := by rw [Lib.toList_data]; rfl
   generalize bs [] = S at *
   clear hs hown hb hgo
   go_wp2
   go_ret3
   exact hfin.out
  | cons c r =>
   have c0 := hs.c0
   have he : (bs (c :: r)).toList.isEmpty = false := by rw [Lib.toList_data]; rfl
   have hEr := hE0.out.below hb hEb.out
   have cW := word_any w.heap.size (c :: r) ln wr (by omega) (by simp) hEr hEb.out hs
   have hlt := hs.lt
   have hgo' : Hid (wordsGo (g' + 1) (c :: r) ln acc = match wordL (c :: r) with
    | none => .error ln
    | some (k, s, n, r) => wordsGo g' (skipL r ln).1 (skipL r ln).2 (acc ++ [(k, s, n, ln)])) := by show _ = _; rfl
   have hwl := fun k s n m' => wordL_lt (c :: r) (k := k) (s := s) (n := n) (m := m')
   replace hwl := hi_ hwl
   generalize bs (c :: r) = S at *
   clear hs hEr
   replace hown := hi_ hown
   go_wp2_with (go_at_call 81; refine cW.mono ?_)
   clear cW
   intro e W1 hp
   cases hx : wordL (c :: r) with
   | none =>
    rw [hx] at hp
    obtain ⟨⟨k, s, n, rfl⟩, ht1, m1, hs1⟩ := hp
    have hb1 := hb.trans (ht1.to_below (Nat.le_of_lt hlt) (fun k hk e => by omega))
    have c1 := hs1.c1
    have hfin : Hid (∀ W2, Below w.heap.size W1 W2 → WordsPost w (wordsL l) (.returned (.tuple #[.slice none 0 0, .int .i64 ln, .int .i64 4])) W2) := fun W2 h2 => by
     refine ⟨hb1.trans h2, ?_⟩
     rw [hW.out, ← hgo.out, hgo'.out, hx]
     rfl
    have hlt1 := hs1.lt
    have hfr := hs1.fr 1
    replace hx := hi_ hx
    replace hb := hi_ hb
    clear ht1 hs1 hb1
    go_wp2
    go_quiet (fail)
    go_wp2
    go_ret3
    exact hfin.out _ (below_drewN ((Below.refl _ W1).alloc (by omega) _) _)
   | some x =>
    obtain ⟨k, s, n, r'⟩ := x
    rw [hx] at hp
    obtain ⟨rfl, hs1, ht1⟩ := hp
    have hb1 := hb.trans (ht1.to_below (Nat.le_of_lt hlt) (fun k hk e => by omega))
    have hlt1 := hs1.lt
    have hown1 := own_touch hown.out ht1 (by omega)
    have hr' : r'.length < (c :: r).length := hwl.out k s n r' hx
    have hr2 : r'.length + 1 ≤ (c :: r).length := hr'
    have hgo2 : Hid (wordsGo g' (skipL r' ln).1 (skipL r' ln).2 (acc ++ [(k, s, n, ln)]) = wordsGo (l.length + 1) m0 n0 []) := by
     show _ = _; rw [← hgo.out, hgo'.out, hx]
    replace hx := hi_ hx
    replace hb := hi_ hb
    have hown2 := (hown1.alloc (.cells #[.int .u8 (k : Nat), .string (bs s), .int .i64 n, .int .i64 (ln : Nat)] 95)).alloc (.cells #[.int .u8 (k : Nat), .string (bs s), .int .i64 n, .int .i64 (ln : Nat)] 95)
    have hs2 := (hs1.alloc (.cells #[.int .u8 (k : Nat), .string (bs s), .int .i64 n, .int .i64 (ln : Nat)] 95)).alloc (.cells #[.int .u8 (k : Nat), .string (bs s), .int .i64 n, .int .i64 (ln : Nat)] 95)
    have hb2 := (hb1.alloc (by omega) (.cells #[.int .u8 (k : Nat), .string (bs s), .int .i64 n, .int .i64 (ln : Nat)] 95)).alloc (by simp; omega) (.cells #[.int .u8 (k : Nat), .string (bs s), .int .i64 n, .int .i64 (ln : Nat)] 95)
    have hN := two_new W1 (.cells #[.int .u8 (k : Nat), .string (bs s), .int .i64 n, .int .i64 (ln : Nat)] 95) (.cells #[.int .u8 (k : Nat), .string (bs s), .int .i64 n, .int .i64 (ln : Nat)] 95)
    have hlen := tw_dw part (c :: r)
    have HH := hi_ (And.intro hs2 (And.intro hb2 hown2))
    clear ht1 hs1 hb1 hown1 hs2 hb2 hlen hgo hgo' hown
    have HN := hi_ hN
    clear hN
    go_wp2_with (at_builtin; refine wpList_append_own _ rfl _ _ 90 rfl (w.heap.size + 1) 95 i0 _ 4 40 Tryz.underlying90 hi hz0 hz1 hz2 rfl (by decide) _ _ _ rfl HH.out.2.2 ⟨W1.heap.size + 1, 0, none⟩ 1 1 (wcell (k, s, n, ln)) rfl rfl ?c1 ?c2 ?c3 ?c4 ?c5 ?_)
    case c1 =>
     intro j u hj
     match j, hj with
     | 0, hj => simp [wcell] at hj; subst hj; simp [Addr.add]
     | 1, hj => simp [wcell] at hj; subst hj; simp [Addr.add]
     | 2, hj => simp [wcell] at hj; subst hj; simp [Addr.add]
     | 3, hj => simp [wcell] at hj; subst hj; simp [Addr.add]
     | j + 4, hj => simp [wcell] at hj
    case c2 => intro u hu; simp [wcell] at hu; rcases hu with rfl | rfl | rfl | rfl <;> rfl
    case c3 => unfold maxLen; omega
    case c4 => omega
    case c5 => simp; omega
    intro v' w2 hown' hgrow _
    obtain ⟨hs2, hb2, hown2⟩ := HH.out
    have hs3 := hs2.of_block (hgrow.block w.heap.size (by simp; omega) (fun e => by have := (hown2.lt w.heap.size e.symm).1; omega))
    have hb3 := hb2.grown hgrow (by simp; omega) (fun k hk => by have := (hown2.lt k hk).1; omega)
    rw [← wcells_snoc] at hown'
    clear hs2 hb2 hown2 hgrow HH HN
    have hrl : r'.length + ln ≤ l.length := by have := hr'; simp at this hmln; omega
    have cK := skip_any w.heap.size r' ln w2 (by omega) hs3
    have hlt3 := hs3.lt
    have hsum := skipL_sum r' ln
    have hle := skipL_le r' ln
    replace hown' := hi_ hown'
    clear hs3
    generalize hk1 : (skipL r' ln).1 = m2 at *
    generalize hk2 : (skipL r' ln).2 = n2 at *
    clear hk1 hk2
    go_wp2_with (go_at_call 80; refine cK.mono ?_)
    rintro e W4 ⟨rfl, hs4, ht4⟩
    have hb4 := hb3.trans (ht4.to_below (Nat.le_of_lt hlt3) (fun k hk e => by omega))
    have hown4 := own_touch hown'.out ht4 (by omega)
    clear cK ht4 hb3 hown'
    go_wp2
    go_roundg g'
    case measure => omega
    case rel => exact ⟨m2, n2, acc ++ [(k, s, n, ln)], hs4, by simpa using hown4, hb4, hgo2, by simp at hmg hr2; omega, by simp at hacc hr2 ⊢; omega, by omega⟩

theorem words_over (l : List UInt8) (w : World) (hl : 65536 < l.length) (hm : l.length ≤ 9223372036854775807) :
  Calls Tryz.prog 50 #[.string (bs l)] w (WordsPost w (wordsL l)) := by
 have hsz := bs_size l
 have hfin : Hid (WordsPost w (wordsL l) (.returned (.tuple #[.slice none 0 0, .int .i64 0, .int .i64 3])) w) := by
  refine ⟨Below.refl _ _, ?_⟩
  unfold wordsL
  rw [if_pos hl]
  rfl
 go_enter Tryz.func50, Tryz.ntmps50
 go_wp2
 go_ret3
 exact hfin.out

theorem words_all (l : List UInt8) (w : World) (hm : l.length ≤ 9223372036854775807) (hE : Env w) :
  Calls Tryz.prog 50 #[.string (bs l)] w (WordsPost w (wordsL l)) := by
 by_cases hl : l.length ≤ 65536
 ·exact words_any l w hl hE
 ·exact words_over l w (by omega) hm
end Go.Proofs.YtlppklbmdedipaaGreatDoor.Lx
