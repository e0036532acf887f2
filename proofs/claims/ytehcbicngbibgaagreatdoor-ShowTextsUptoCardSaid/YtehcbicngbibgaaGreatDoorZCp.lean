/- copies: a list of values, of fields, each copied into memory of its own. (By XCp.gen.py.) -/
import Derived.Test.YtehcbicngbibgaaGreatDoorZLf
namespace Go.Proofs.YtehcbicngbibgaaGreatDoor
open Go Go.RowKit

theorem At.one {w : World} {B : Nat} {t : T} {cs : List Value} (h : At w B t cs) : ∀ u ∈ cs, u.oneCell' = true := by
  induction h with
  | int | txt | yes | lst => intro u hu; simp at hu; subst hu; rfl
  | nil => intro u hu; cases hu
  | cons p ps c cs _ _ ih1 ih2 => exact fun u hu => (List.mem_append.1 hu).elim (ih1 u) (ih2 u)
theorem flat_split {cc : Nat → List Value} {K n k : Nat} (h : ∀ i, i < n → (cc i).length = K) (hk : k < n) :
    ∃ pre post, (List.range n).flatMap cc = pre ++ cc k ++ post ∧ pre.length = k * K ∧ ∀ cs, (List.range n).flatMap (fun i => if i = k then cs else cc i) = pre ++ cs ++ post := by
  obtain ⟨m, rfl⟩ : ∃ m, n = k + 1 + m := ⟨n - k - 1, by omega⟩
  refine ⟨(List.range k).flatMap cc, ((List.range m).map (k + 1 + ·)).flatMap cc, ?_, flat_len (fun i hi => h i (by omega)), fun cs => ?_⟩
  · rw [List.range_add, List.flatMap_append, List.range_succ, List.flatMap_append]
    simp
  · rw [List.range_add, List.flatMap_append, List.range_succ, List.flatMap_append]
    rw [flat_congr (f := fun i => if i = k then cs else cc i) (g := cc) (fun i hi => if_neg (by omega))]
    congr 1
    · simp
    · rw [List.flatMap_map, List.flatMap_map]
      exact flat_congr (fun i _ => if_neg (by omega))
theorem own_at {W : World} {base : Nat} {e : TypeId} {g n cap size : Nat} {xs : List Value} (h : W.ownsRow base e size (.slice (some ⟨g, 0, none⟩) n cap) n xs) (j : Nat) (hj : j < n * size) : ∃ u, W.cell? ⟨g, j, none⟩ = some u := by
  rw [h.cellAt j hj]
  have : j < xs.length := by rw [h.1]; exact hj
  exact ⟨_, List.getElem?_eq_getElem this⟩
theorem shape_of {w : World} {base : Nat} {e : TypeId} {size : Nat} {v : Value} {n : Nat} {xs : List Value} (h : w.ownsRow base e size v n xs) : ∃ ao cap, v = .slice ao n cap := by
  rcases h.2 with ⟨rfl, rfl⟩ | ⟨g, cap, cur, rfl, _⟩
  · exact ⟨none, 0, rfl⟩
  · exact ⟨_, cap, rfl⟩
def CloneP (E K : Nat) (es : List T) (n : Nat) (w : World) (e : Ending) (w' : World) : Prop := ∃ (a : Option Addr) (c : Nat) (cc : Nat → List Value), e = .returned (.slice a n c) ∧ w'.ownsRow w.heap.size E K (.slice a n c) n ((List.range n).flatMap cc) ∧ (∀ i, i < n → (cc i).length = K) ∧
  (∀ (i : Nat) (h : i < es.length), At w w.heap.size es[i] (cc i)) ∧ Below w.heap.size w w'
/-- Copied as far as the k-th. -/
def Fills (w0 : World) (base : Nat) (wr : World) (E K : Nat) (es : List T) (n k : Nat) (v : Value) : Prop :=
  ∃ (cc : Nat → List Value) (RR : Nat → List Row), (∀ i, i < n → (cc i).length = K) ∧ wr.ownsRow base E K v n ((List.range n).flatMap cc) ∧ (∀ (i : Nat) (h : i < es.length), i < k → Own wr base ownM mkS es[i] (cc i) (RR i)) ∧
    (∀ (i : Nat) (h : i < es.length), k ≤ i → At w0 base es[i] (cc i)) ∧ Apart (((List.range k).flatMap RR) ++ [⟨E, K, v, n⟩])
def ListOwn (E K : Nat) (es : List T) (n : Nat) (w : World) (e : Ending) (w' : World) : Prop := ∃ (a : Option Addr) (c : Nat) (R : List Row), e = .returned (.slice a n c) ∧ Own w' w.heap.size ownM mkS (.lst E K es) [.slice a n c] R ∧ Apart R ∧ Below w.heap.size w w'
theorem Fills.done {w0 w wr : World} {E K : Nat} {es : List T} {n c : Nat} {a : Option Addr} (h : Fills w0 w.heap.size wr E K es n n (.slice a n c)) (hl : n = es.length) (hn : n ≤ 1152921504606846976) (hb : Below w.heap.size w wr) : ListOwn E K es n w (.returned (.slice a n c)) wr := by
  obtain ⟨cc, RR, hcc, hown, helt, _, hap⟩ := h
  subst hl
  exact ⟨a, c, _, rfl, .lst E K _ es _ cc RR hn hown (fun i hi => ⟨hcc i hi, fun j hj => flat_get hcc i j hi hj⟩) (fun i hi => helt i hi hi) (fun h => by cases h), hap, hb⟩
theorem fill_step {w0 wr S W1 W2 : World} {base E K g n c k : Nat} {es : List T} {cc : Nat → List Value} {RR : Nat → List Row} {cs : List Value} {R : List Row}
    (hcc : ∀ i, i < n → (cc i).length = K) (hown : wr.ownsRow base E K (.slice (some ⟨g, 0, none⟩) n c) n ((List.range n).flatMap cc)) (helt : ∀ (i : Nat) (h : i < es.length), i < k → Own wr base ownM mkS es[i] (cc i) (RR i))
    (hold : ∀ (i : Nat) (h : i < es.length), k ≤ i → At w0 base es[i] (cc i)) (hap : Apart (((List.range k).flatMap RR) ++ [⟨E, K, .slice (some ⟨g, 0, none⟩) n c, n⟩])) (hk : k < n) (hl : n = es.length)
    (hS : Below wr.heap.size wr S) (h1 : Below S.heap.size S W1) (ho : Own W1 S.heap.size ownM mkS (es[k]'(by omega)) cs R) (hR : Apart R) (hcs : cs.length = K)
    (hg : W1.grownBy W2 (some g)) (hown2 : W2.ownsRow base E K (.slice (some ⟨g, 0, none⟩) n c) n ((List.range n).flatMap (fun i => if i = k then cs else cc i))) : Fills w0 base W2 E K es n (k + 1) (.slice (some ⟨g, 0, none⟩) n c) := by
  obtain ⟨hap1, hap2⟩ := apart_last hap
  have hgl := hown.lt g rfl
  have hzS := hS.size
  have hin : Within base wr.heap.size ((List.range k).flatMap RR) := fun r hr => by
    obtain ⟨i, hi, hr⟩ := List.mem_flatMap.1 hr
    have hi' : i < k := by simpa using hi
    exact (helt i (by omega) hi').within r hr
  have hRin := ho.within
  have h1' : Below wr.heap.size wr W1 := hS.trans (h1.mono hzS)
  have hsameR : ∀ i, i < k → (if i = k then R else RR i) = RR i := fun i hi => if_neg (by omega)
  refine ⟨fun i => if i = k then cs else cc i, fun i => if i = k then R else RR i, fun i hi => ?_, hown2, fun i h hi => ?_, fun i h hi => ?_, ?_⟩
  · show (if i = k then cs else cc i).length = K
    by_cases e : i = k
    · rw [if_pos e]; exact hcs
    · rw [if_neg e]; exact hcc i hi
  · show Own W2 base ownM mkS es[i] (if i = k then cs else cc i) (if i = k then R else RR i)
    by_cases e : i = k
    · subst e
      rw [if_pos rfl, if_pos rfl]
      refine (ho.base (by omega)).kept hg (fun r hr q hq e2 => ?_)
      have := (hRin r hr q hq).1
      injection e2 with e2; omega
    · rw [if_neg e, if_neg e]
      refine ((helt i h (by omega)).later h1').kept hg (fun r hr q hq e2 => ?_)
      exact hap2 r (List.mem_flatMap.2 ⟨i, by simp; omega, hr⟩) q hq e2
  · show At w0 base es[i] (if i = k then cs else cc i)
    rw [if_neg (by omega)]
    exact hold i h (by omega)
  · rw [List.range_succ, List.flatMap_append, flat_congr hsameR]
    simp only [List.flatMap_cons, List.flatMap_nil, List.append_nil, if_true]
    unfold Apart
    rw [List.pairwise_append, List.pairwise_append]
    refine ⟨⟨hap1, hR, fun x hx y hy q hq e => ?_⟩, List.pairwise_singleton _ _, fun x hx y hy q hq e => ?_⟩
    · have := (hin x hx q hq).2; have := (hRin y hy q e).1; omega
    · simp at hy; subst hy
      rcases List.mem_append.1 hx with hx | hx
      · exact hap2 x hx q hq e
      · have h5 := (hRin x hx q hq).1
        have e3 : some g = some q := e
        injection e3 with e3; omega
theorem set8_list (pre post : List Value) (a0 a1 a2 a3 a4 a5 a6 a7 b0 b1 b2 b3 b4 b5 b6 b7 : Value) (k : Nat) (hk : pre.length = k * 8) : (((((((((pre ++ [a0, a1, a2, a3, a4, a5, a6, a7] ++ post).set (k * 8) b0).set (k * 8 + 1) b1).set (k * 8 + 2) b2).set (k * 8 + 3) b3).set (k * 8 + 4) b4).set (k * 8 + 5) b5).set (k * 8 + 6) b6).set (k * 8 + 7) b7) = pre ++ [b0, b1, b2, b3, b4, b5, b6, b7] ++ post := by
  have e : ∀ (x : List Value) (j : Nat) (v : Value), (pre ++ x).set (k * 8 + j) v = pre ++ x.set j v := fun x j v => by
    rw [List.set_append, if_neg (by omega), hk]; congr 2; omega
  have e0 : ∀ (x : List Value) (v : Value), (pre ++ x).set (k * 8) v = pre ++ x.set 0 v := fun x v => e x 0 v
  rw [List.append_assoc, e0, e, e, e, e, e, e, e, List.append_assoc]
  simp
theorem stored8 {w : World} {base : Nat} {e : TypeId} {g n cap : Nat} {xs : List Value} (h : w.ownsRow base e 8 (.slice (some ⟨g, 0, none⟩) n cap) n xs) (k : Nat) (v0 v1 v2 v3 v4 v5 v6 v7 : Value) :
    ((((((((w.setCell ⟨g, k * 8, none⟩ v0).setCell ⟨g, k * 8 + 1, none⟩ v1).setCell ⟨g, k * 8 + 2, none⟩ v2).setCell ⟨g, k * 8 + 3, none⟩ v3).setCell ⟨g, k * 8 + 4, none⟩ v4).setCell ⟨g, k * 8 + 5, none⟩ v5).setCell ⟨g, k * 8 + 6, none⟩ v6).setCell ⟨g, k * 8 + 7, none⟩ v7).ownsRow base e 8 (.slice (some ⟨g, 0, none⟩) n cap) n ((((((((xs.set (k * 8) v0).set (k * 8 + 1) v1).set (k * 8 + 2) v2).set (k * 8 + 3) v3).set (k * 8 + 4) v4).set (k * 8 + 5) v5).set (k * 8 + 6) v6).set (k * 8 + 7) v7) := ((((((((h.stored (k * 8) v0).1.stored (k * 8 + 1) v1).1.stored (k * 8 + 2) v2).1.stored (k * 8 + 3) v3).1.stored (k * 8 + 4) v4).1.stored (k * 8 + 5) v5).1.stored (k * 8 + 6) v6).1.stored (k * 8 + 7) v7).1
theorem put8_grown (w : World) (g k : Nat) (v0 v1 v2 v3 v4 v5 v6 v7 : Value) : w.grownBy ((((((((w.setCell ⟨g, k * 8, none⟩ v0).setCell ⟨g, k * 8 + 1, none⟩ v1).setCell ⟨g, k * 8 + 2, none⟩ v2).setCell ⟨g, k * 8 + 3, none⟩ v3).setCell ⟨g, k * 8 + 4, none⟩ v4).setCell ⟨g, k * 8 + 5, none⟩ v5).setCell ⟨g, k * 8 + 6, none⟩ v6).setCell ⟨g, k * 8 + 7, none⟩ v7) (some g) := (grown_again (grown_again (grown_again (grown_again (grown_again (grown_again (grown_again (cell_grown _ g _ _) (cell_grown _ g _ _)) (cell_grown _ g _ _)) (cell_grown _ g _ _)) (cell_grown _ g _ _)) (cell_grown _ g _ _)) (cell_grown _ g _ _)) (cell_grown _ g _ _))
theorem put8_own {w : World} {base : Nat} {e : TypeId} {g n cap k : Nat} {cc : Nat → List Value} (hcc : ∀ i, i < n → (cc i).length = 8) (h : w.ownsRow base e 8 (.slice (some ⟨g, 0, none⟩) n cap) n ((List.range n).flatMap cc)) (hk : k < n) (v0 v1 v2 v3 v4 v5 v6 v7 : Value) :
    ((((((((w.setCell ⟨g, k * 8, none⟩ v0).setCell ⟨g, k * 8 + 1, none⟩ v1).setCell ⟨g, k * 8 + 2, none⟩ v2).setCell ⟨g, k * 8 + 3, none⟩ v3).setCell ⟨g, k * 8 + 4, none⟩ v4).setCell ⟨g, k * 8 + 5, none⟩ v5).setCell ⟨g, k * 8 + 6, none⟩ v6).setCell ⟨g, k * 8 + 7, none⟩ v7).ownsRow base e 8 (.slice (some ⟨g, 0, none⟩) n cap) n ((List.range n).flatMap (fun i => if i = k then [v0, v1, v2, v3, v4, v5, v6, v7] else cc i)) := by
  obtain ⟨pre, post, e1, e2, e3⟩ := flat_split hcc hk
  have h1 := stored8 h k v0 v1 v2 v3 v4 v5 v6 v7
  rw [e3]
  rw [e1] at h1
  have hl := hcc k hk
  match hck : cc k, hl with
  | [a0, a1, a2, a3, a4, a5, a6, a7], _ =>
    rw [hck] at h1
    rw [set8_list pre post a0 a1 a2 a3 a4 a5 a6 a7 v0 v1 v2 v3 v4 v5 v6 v7 k e2] at h1
    exact h1
theorem set9_list (pre post : List Value) (a0 a1 a2 a3 a4 a5 a6 a7 a8 b0 b1 b2 b3 b4 b5 b6 b7 b8 : Value) (k : Nat) (hk : pre.length = k * 9) : ((((((((((pre ++ [a0, a1, a2, a3, a4, a5, a6, a7, a8] ++ post).set (k * 9) b0).set (k * 9 + 1) b1).set (k * 9 + 2) b2).set (k * 9 + 3) b3).set (k * 9 + 4) b4).set (k * 9 + 5) b5).set (k * 9 + 6) b6).set (k * 9 + 7) b7).set (k * 9 + 8) b8) = pre ++ [b0, b1, b2, b3, b4, b5, b6, b7, b8] ++ post := by
  have e : ∀ (x : List Value) (j : Nat) (v : Value), (pre ++ x).set (k * 9 + j) v = pre ++ x.set j v := fun x j v => by
    rw [List.set_append, if_neg (by omega), hk]; congr 2; omega
  have e0 : ∀ (x : List Value) (v : Value), (pre ++ x).set (k * 9) v = pre ++ x.set 0 v := fun x v => e x 0 v
  rw [List.append_assoc, e0, e, e, e, e, e, e, e, e, List.append_assoc]
  simp
theorem stored9 {w : World} {base : Nat} {e : TypeId} {g n cap : Nat} {xs : List Value} (h : w.ownsRow base e 9 (.slice (some ⟨g, 0, none⟩) n cap) n xs) (k : Nat) (v0 v1 v2 v3 v4 v5 v6 v7 v8 : Value) :
    (((((((((w.setCell ⟨g, k * 9, none⟩ v0).setCell ⟨g, k * 9 + 1, none⟩ v1).setCell ⟨g, k * 9 + 2, none⟩ v2).setCell ⟨g, k * 9 + 3, none⟩ v3).setCell ⟨g, k * 9 + 4, none⟩ v4).setCell ⟨g, k * 9 + 5, none⟩ v5).setCell ⟨g, k * 9 + 6, none⟩ v6).setCell ⟨g, k * 9 + 7, none⟩ v7).setCell ⟨g, k * 9 + 8, none⟩ v8).ownsRow base e 9 (.slice (some ⟨g, 0, none⟩) n cap) n (((((((((xs.set (k * 9) v0).set (k * 9 + 1) v1).set (k * 9 + 2) v2).set (k * 9 + 3) v3).set (k * 9 + 4) v4).set (k * 9 + 5) v5).set (k * 9 + 6) v6).set (k * 9 + 7) v7).set (k * 9 + 8) v8) := (((((((((h.stored (k * 9) v0).1.stored (k * 9 + 1) v1).1.stored (k * 9 + 2) v2).1.stored (k * 9 + 3) v3).1.stored (k * 9 + 4) v4).1.stored (k * 9 + 5) v5).1.stored (k * 9 + 6) v6).1.stored (k * 9 + 7) v7).1.stored (k * 9 + 8) v8).1
theorem put9_grown (w : World) (g k : Nat) (v0 v1 v2 v3 v4 v5 v6 v7 v8 : Value) : w.grownBy (((((((((w.setCell ⟨g, k * 9, none⟩ v0).setCell ⟨g, k * 9 + 1, none⟩ v1).setCell ⟨g, k * 9 + 2, none⟩ v2).setCell ⟨g, k * 9 + 3, none⟩ v3).setCell ⟨g, k * 9 + 4, none⟩ v4).setCell ⟨g, k * 9 + 5, none⟩ v5).setCell ⟨g, k * 9 + 6, none⟩ v6).setCell ⟨g, k * 9 + 7, none⟩ v7).setCell ⟨g, k * 9 + 8, none⟩ v8) (some g) := (grown_again (grown_again (grown_again (grown_again (grown_again (grown_again (grown_again (grown_again (cell_grown _ g _ _) (cell_grown _ g _ _)) (cell_grown _ g _ _)) (cell_grown _ g _ _)) (cell_grown _ g _ _)) (cell_grown _ g _ _)) (cell_grown _ g _ _)) (cell_grown _ g _ _)) (cell_grown _ g _ _))
theorem put9_own {w : World} {base : Nat} {e : TypeId} {g n cap k : Nat} {cc : Nat → List Value} (hcc : ∀ i, i < n → (cc i).length = 9) (h : w.ownsRow base e 9 (.slice (some ⟨g, 0, none⟩) n cap) n ((List.range n).flatMap cc)) (hk : k < n) (v0 v1 v2 v3 v4 v5 v6 v7 v8 : Value) :
    (((((((((w.setCell ⟨g, k * 9, none⟩ v0).setCell ⟨g, k * 9 + 1, none⟩ v1).setCell ⟨g, k * 9 + 2, none⟩ v2).setCell ⟨g, k * 9 + 3, none⟩ v3).setCell ⟨g, k * 9 + 4, none⟩ v4).setCell ⟨g, k * 9 + 5, none⟩ v5).setCell ⟨g, k * 9 + 6, none⟩ v6).setCell ⟨g, k * 9 + 7, none⟩ v7).setCell ⟨g, k * 9 + 8, none⟩ v8).ownsRow base e 9 (.slice (some ⟨g, 0, none⟩) n cap) n ((List.range n).flatMap (fun i => if i = k then [v0, v1, v2, v3, v4, v5, v6, v7, v8] else cc i)) := by
  obtain ⟨pre, post, e1, e2, e3⟩ := flat_split hcc hk
  have h1 := stored9 h k v0 v1 v2 v3 v4 v5 v6 v7 v8
  rw [e3]
  rw [e1] at h1
  have hl := hcc k hk
  match hck : cc k, hl with
  | [a0, a1, a2, a3, a4, a5, a6, a7, a8], _ =>
    rw [hck] at h1
    rw [set9_list pre post a0 a1 a2 a3 a4 a5 a6 a7 a8 v0 v1 v2 v3 v4 v5 v6 v7 v8 k e2] at h1
    exact h1
set_option maxHeartbeats 1000000 in
set_option maxRecDepth 100000 in
theorem cloneV_any (L : List Val) (a : Option Addr) (n c : Nat) (w : World) (hwt : L.length + wts (L.map Val.tr) ≤ 1048576) (h1 : VLs w w.heap.size L a n) :
    Calls Tryz.prog 147 #[.slice a n c] w fun e w' => CloneP 59 8 (L.map Val.tr) n w e w' := by
  obtain ⟨i0, hi, hz0, hz1, hz2⟩ := info_parts infoV
  obtain ⟨hl, _, b, o, cc, hao, hc, he⟩ := h1
  have hll := hl
  rw [List.length_map] at hll
  have hn : n ≤ 1048576 := by omega
  have hnil := fun W : World => Lib.run_eql_slice_nil (P := Tryz.prog) W 56 59 a n c 0 0 Tryz.underlying56
  cases a with
  | none =>
    simp only [Option.isNone_none] at hnil
    obtain rfl : n = 0 := by
      by_cases h : 0 < n
      · have := (hao h).1; cases this
      · omega
    have hfin : Hid (CloneP 59 8 (L.map Val.tr) 0 w (.returned (.slice none 0 0)) w) := ⟨none, 0, cc, rfl, World.ownsRow_nil _ _ _ _, fun i hi => by omega, fun i h => by rw [← hl] at h; omega, Below.refl _ _⟩
    clear hc he hao
    replace hl := Lib.hid hl
    replace hll := Lib.hid hll
    go_enter Tryz.func147, Tryz.ntmps147
    go_wp2_with fail
    go_ret
    exact hfin.out
  | some ad =>
    simp only [Option.isNone_some] at hnil
    have hlen := flat_len (fun i hi => (hc i hi).1)
    have hnews : Hid (∀ j u, ((List.range n).flatMap cc)[j]? = some u → w.cell? (ad.add j) = some u) := fun j u hj => by
      have hjl : j < n * 8 := by
        rcases Nat.lt_or_ge j (n * 8) with h | h
        · exact h
        · rw [List.getElem?_eq_none (by omega)] at hj; cases hj
      have hdm := Nat.div_add_mod j 8
      have hi' : j / 8 < n := Nat.div_lt_of_lt_mul (by omega)
      have hr' : j % 8 < 8 := Nat.mod_lt _ (by omega)
      have e1 := flat_get (fun i hi => (hc i hi).1) (j / 8) (j % 8) hi' hr'
      rw [show j / 8 * 8 + j % 8 = j by omega] at e1
      have e2 := (hc _ hi').2 _ hr'
      rw [show o + (j / 8 * 8 + j % 8) = o + j by omega] at e2
      obtain ⟨e3, _⟩ := hao (by omega)
      injection e3 with e3
      rw [e3, ← hj, e1, ← e2]
      congr 1
      unfold Addr.add
      split
      · rename_i h0; rw [h0]; rfl
      · rfl
    have hone : Hid (∀ u ∈ (List.range n).flatMap cc, u.oneCell' = true) := fun u hu => by
      obtain ⟨i, hi, hu⟩ := List.mem_flatMap.1 hu
      exact (he i (by rw [← hl]; simpa using hi)).one u hu
    have hE : ∀ (i : Nat) (h : i < (L.map Val.tr).length), At w w.heap.size (L.map Val.tr)[i] (cc i) := he
    obtain ⟨S, hS⟩ : ∃ S, S = w.alloc (.cells #[] 59) := ⟨_, rfl⟩
    have hbS : Below w.heap.size w S := by rw [hS]; exact (Below.refl _ _).alloc (Nat.le_refl _) _
    have hown0 : Hid (S.ownsRow w.heap.size 59 8 (.slice (some ⟨w.heap.size, 0, none⟩) 0 0) 0 []) := by
      show S.ownsRow _ _ _ _ _ _
      rw [hS]; exact World.ownsRow_made _ _ _ (Nat.le_refl _) (by unfold maxLen; omega) rfl
    have hnewsS : Hid (∀ j u, ((List.range n).flatMap cc)[j]? = some u → S.cell? (ad.add j) = some u) := fun j u hj => by
      have h1 := hnews.out j u hj
      have hb : (ad.add j).block < w.heap.size := by
        have h0 : 0 < n := by
          by_cases h : 0 < n
          · exact h
          · obtain rfl : n = 0 := by omega
            simp at hj
        obtain ⟨e3, e4⟩ := hao h0
        injection e3 with e3
        rw [e3]; unfold Addr.add; split <;> exact e4
      exact (hbS.cell hb).trans h1
    have hcc : Hid (∀ i, i < n → (cc i).length = 8) := fun i hi => (hc i hi).1
    replace hE := Lib.hid hE
    have hzS := hbS.size
    replace hS := Lib.hid hS
    replace hbS := Lib.hid hbS
    replace hlen := Lib.hid hlen
    replace hl := Lib.hid hl
    replace hll := Lib.hid hll
    clear hc he hao hnews
    go_enter Tryz.func147, Tryz.ntmps147
    go_wp2_with (first | (rw [← hS.out]) | (at_builtin; refine wpList_append_own_at _ rfl _ _ 56 rfl w.heap.size 59 i0 _ 8 112 Tryz.underlying56 hi hz0 hz1 hz2 rfl (by decide) _ 0 [] rfl hown0.out ad n c ((List.range n).flatMap cc) rfl hlen.out hnewsS.out hone.out (by unfold maxLen; omega) (by omega) hzS ?_))
    intro v' W2 hown2 hgrow2 _ _
    obtain ⟨a', c', rfl⟩ := shape_of hown2
    have hfin : Hid (CloneP 59 8 (L.map Val.tr) n w (.returned (.slice a' n c')) W2) := ⟨a', c', cc, rfl, hown2, hcc.out, hE.out, hbS.out.grown hgrow2 hzS (fun q hq => (hown0.out.lt q hq).1)⟩
    clear hown2 hgrow2
    go_wp2_with fail
    go_ret
    exact hfin.out
set_option maxHeartbeats 1000000 in
set_option maxRecDepth 100000 in
theorem cloneF_any (L : List Fld) (a : Option Addr) (n c : Nat) (w : World) (hwt : L.length + wts (L.map Fld.tr) ≤ 1048576) (h1 : FLs w w.heap.size L a n) :
    Calls Tryz.prog 148 #[.slice a n c] w fun e w' => CloneP 61 9 (L.map Fld.tr) n w e w' := by
  obtain ⟨i0, hi, hz0, hz1, hz2⟩ := info_parts infoF
  obtain ⟨hl, _, b, o, cc, hao, hc, he⟩ := h1
  have hll := hl
  rw [List.length_map] at hll
  have hn : n ≤ 1048576 := by omega
  have hnil := fun W : World => Lib.run_eql_slice_nil (P := Tryz.prog) W 51 61 a n c 0 0 Tryz.underlying51
  cases a with
  | none =>
    simp only [Option.isNone_none] at hnil
    obtain rfl : n = 0 := by
      by_cases h : 0 < n
      · have := (hao h).1; cases this
      · omega
    have hfin : Hid (CloneP 61 9 (L.map Fld.tr) 0 w (.returned (.slice none 0 0)) w) := ⟨none, 0, cc, rfl, World.ownsRow_nil _ _ _ _, fun i hi => by omega, fun i h => by rw [← hl] at h; omega, Below.refl _ _⟩
    clear hc he hao
    replace hl := Lib.hid hl
    replace hll := Lib.hid hll
    go_enter Tryz.func148, Tryz.ntmps148
    go_wp2_with fail
    go_ret
    exact hfin.out
  | some ad =>
    simp only [Option.isNone_some] at hnil
    have hlen := flat_len (fun i hi => (hc i hi).1)
    have hnews : Hid (∀ j u, ((List.range n).flatMap cc)[j]? = some u → w.cell? (ad.add j) = some u) := fun j u hj => by
      have hjl : j < n * 9 := by
        rcases Nat.lt_or_ge j (n * 9) with h | h
        · exact h
        · rw [List.getElem?_eq_none (by omega)] at hj; cases hj
      have hdm := Nat.div_add_mod j 9
      have hi' : j / 9 < n := Nat.div_lt_of_lt_mul (by omega)
      have hr' : j % 9 < 9 := Nat.mod_lt _ (by omega)
      have e1 := flat_get (fun i hi => (hc i hi).1) (j / 9) (j % 9) hi' hr'
      rw [show j / 9 * 9 + j % 9 = j by omega] at e1
      have e2 := (hc _ hi').2 _ hr'
      rw [show o + (j / 9 * 9 + j % 9) = o + j by omega] at e2
      obtain ⟨e3, _⟩ := hao (by omega)
      injection e3 with e3
      rw [e3, ← hj, e1, ← e2]
      congr 1
      unfold Addr.add
      split
      · rename_i h0; rw [h0]; rfl
      · rfl
    have hone : Hid (∀ u ∈ (List.range n).flatMap cc, u.oneCell' = true) := fun u hu => by
      obtain ⟨i, hi, hu⟩ := List.mem_flatMap.1 hu
      exact (he i (by rw [← hl]; simpa using hi)).one u hu
    have hE : ∀ (i : Nat) (h : i < (L.map Fld.tr).length), At w w.heap.size (L.map Fld.tr)[i] (cc i) := he
    obtain ⟨S, hS⟩ : ∃ S, S = w.alloc (.cells #[] 61) := ⟨_, rfl⟩
    have hbS : Below w.heap.size w S := by rw [hS]; exact (Below.refl _ _).alloc (Nat.le_refl _) _
    have hown0 : Hid (S.ownsRow w.heap.size 61 9 (.slice (some ⟨w.heap.size, 0, none⟩) 0 0) 0 []) := by
      show S.ownsRow _ _ _ _ _ _
      rw [hS]; exact World.ownsRow_made _ _ _ (Nat.le_refl _) (by unfold maxLen; omega) rfl
    have hnewsS : Hid (∀ j u, ((List.range n).flatMap cc)[j]? = some u → S.cell? (ad.add j) = some u) := fun j u hj => by
      have h1 := hnews.out j u hj
      have hb : (ad.add j).block < w.heap.size := by
        have h0 : 0 < n := by
          by_cases h : 0 < n
          · exact h
          · obtain rfl : n = 0 := by omega
            simp at hj
        obtain ⟨e3, e4⟩ := hao h0
        injection e3 with e3
        rw [e3]; unfold Addr.add; split <;> exact e4
      exact (hbS.cell hb).trans h1
    have hcc : Hid (∀ i, i < n → (cc i).length = 9) := fun i hi => (hc i hi).1
    replace hE := Lib.hid hE
    have hzS := hbS.size
    replace hS := Lib.hid hS
    replace hbS := Lib.hid hbS
    replace hlen := Lib.hid hlen
    replace hl := Lib.hid hl
    replace hll := Lib.hid hll
    clear hc he hao hnews
    go_enter Tryz.func148, Tryz.ntmps148
    go_wp2_with (first | (rw [← hS.out]) | (at_builtin; refine wpList_append_own_at _ rfl _ _ 51 rfl w.heap.size 61 i0 _ 9 128 Tryz.underlying51 hi hz0 hz1 hz2 rfl (by decide) _ 0 [] rfl hown0.out ad n c ((List.range n).flatMap cc) rfl hlen.out hnewsS.out hone.out (by unfold maxLen; omega) (by omega) hzS ?_))
    intro v' W2 hown2 hgrow2 _ _
    obtain ⟨a', c', rfl⟩ := shape_of hown2
    have hfin : Hid (CloneP 61 9 (L.map Fld.tr) n w (.returned (.slice a' n c')) W2) := ⟨a', c', cc, rfl, hown2, hcc.out, hE.out, hbS.out.grown hgrow2 hzS (fun q hq => (hown0.out.lt q hq).1)⟩
    clear hown2 hgrow2
    go_wp2_with fail
    go_ret
    exact hfin.out
def OneOwnV (v : Val) (w : World) (e : Ending) (w' : World) : Prop := ∃ (q : VP) (R : List Row), e = .returned (.agg #[.int .u8 v.kind, .int .i64 v.n, .string v.s, .slice q.la q.ln q.lc, .slice q.fa q.fn q.fc, .int .u8 v.elem, .string v.key, .bool v.hk]) ∧ Own w' w.heap.size ownM mkS v.tr (q.cells v) R ∧ Apart R ∧ Below w.heap.size w w'
def CopyV (v : Val) : Prop := v.tr.wt ≤ 1048576 → ∀ (q : VP) (w : World), VAt w w.heap.size v q →
  Calls Tryz.prog 17 #[.agg #[.int .u8 v.kind, .int .i64 v.n, .string v.s, .slice q.la q.ln q.lc, .slice q.fa q.fn q.fc, .int .u8 v.elem, .string v.key, .bool v.hk]] w fun e w' => OneOwnV v w e w'
set_option maxHeartbeats 2000000 in
set_option maxRecDepth 100000 in
theorem eachV_any (L : List Val) (hC : ∀ v ∈ L, CopyV v) (a : Option Addr) (n c : Nat) (w : World) (hwt : L.length + wts (L.map Val.tr) ≤ 1048576) (h1 : VLs w w.heap.size L a n) :
    Calls Tryz.prog 130 #[.slice a n c, .func (.func 17) #[] #[]] w fun e w' => ListOwn 59 8 (L.map Val.tr) n w e w' := by
  have hl := h1.len.1
  have hll := hl
  rw [List.length_map] at hll
  have hn : n ≤ 1048576 := by omega
  have cK := cloneV_any L a n c w hwt h1
  obtain ⟨es, hes⟩ : ∃ es, es = L.map Val.tr := ⟨_, rfl⟩
  rw [← hes] at hl cK ⊢ hwt
  replace cK := Lib.hid cK
  replace hC := Lib.hid hC
  replace hwt := Lib.hid hwt
  replace hl := Lib.hid hl
  replace hll := Lib.hid hll
  replace hes := Lib.hid hes
  clear h1
  go_enter Tryz.func130, Tryz.ntmps130
  go_wp2_with (go_at_call 147; refine cK.out.mono ?_)
  rintro e W0 ⟨a0, c0, cc0, rfl, hown0, hcc0, hE0, hb0⟩
  have hF0 : Hid (Fills w w.heap.size W0 59 8 es n 0 (.slice a0 n c0)) := ⟨cc0, fun _ => [], hcc0, hown0, fun i _ hi => by omega, fun i h _ => hE0 i h, by simp [Apart]⟩
  replace hb0 := Lib.hid hb0
  clear hown0 hcc0 hE0 cK
  go_wp2_with fail
  go_loopw [12] (fun i wr => ∃ k : Nat, k ≤ n ∧ i = .int .i64 (k : Nat) ∧ Fills w w.heap.size wr 59 8 es n k (.slice a0 n c0) ∧ Below w.heap.size w wr) (fun i _ => n - (intOf i).toNat)
  case atStart => exact ⟨0, Nat.zero_le _, rfl, hF0.out, hb0.out⟩
  case round =>
    obtain ⟨k, hk, rfl, hfi, hb⟩ := hrel
    by_cases hlt : k < n
    · have hlt9 : Hid (k + 1 ≤ n) := hlt
      obtain ⟨cc, RR, hcc, hown, helt, hold, hap⟩ := hfi
      have hke : k < es.length := by have := hl.out; omega
      obtain ⟨v, hvL, hgt⟩ : ∃ v, L[k]? = some v ∧ es[k] = v.tr := by
        have hkl : k < L.length := by have := hll.out; omega
        refine ⟨L[k], List.getElem?_eq_getElem hkl, ?_⟩
        have : es[k]? = some (L[k]).tr := by rw [hes.out, List.getElem?_map, List.getElem?_eq_getElem hkl]; rfl
        rw [List.getElem?_eq_getElem hke] at this
        exact Option.some.inj this
      have hwv : v.tr.wt ≤ 1048576 := by
        have := wts_mem (List.getElem_mem hke)
        rw [hgt] at this
        have := hwt.out; omega
      have hck := hold k hke (Nat.le_refl k)
      rw [hgt] at hck
      obtain ⟨q1, hq1, hv1⟩ := hck.val
      obtain ⟨g, hg0⟩ : ∃ g, a0 = some ⟨g, 0, none⟩ := by
        rcases hown.2 with ⟨_, h0⟩ | ⟨g, cap, cur, e1, _⟩
        · omega
        · injection e1 with e1; exact ⟨g, e1⟩
      subst hg0
      have hgl := hown.lt g rfl
      have hcell : ∀ j, j < 8 → wr.cell? ⟨g, k * 8 + j, none⟩ = (q1.cells v)[j]? := fun j hj => by
        rw [hown.cellAt (k * 8 + j) (by omega), flat_get hcc k j hlt hj, hq1]
      have x0 : wr.cell? ⟨g, k * 8, none⟩ = some (.int .u8 v.kind) := hcell 0 (by omega)
      have x1 : wr.cell? ⟨g, k * 8 + 1, none⟩ = some (.int .i64 v.n) := hcell 1 (by omega)
      have x2 : wr.cell? ⟨g, k * 8 + 2, none⟩ = some (.string v.s) := hcell 2 (by omega)
      have x3 : wr.cell? ⟨g, k * 8 + 3, none⟩ = some (.slice q1.la q1.ln q1.lc) := hcell 3 (by omega)
      have x4 : wr.cell? ⟨g, k * 8 + 4, none⟩ = some (.slice q1.fa q1.fn q1.fc) := hcell 4 (by omega)
      have x5 : wr.cell? ⟨g, k * 8 + 5, none⟩ = some (.int .u8 v.elem) := hcell 5 (by omega)
      have x6 : wr.cell? ⟨g, k * 8 + 6, none⟩ = some (.string v.key) := hcell 6 (by omega)
      have x7 : wr.cell? ⟨g, k * 8 + 7, none⟩ = some (.bool v.hk) := hcell 7 (by omega)
      obtain ⟨S, hS⟩ : ∃ S, S = wr.alloc (.cells #[.int .u8 v.kind, .int .i64 v.n, .string v.s, .slice q1.la q1.ln q1.lc, .slice q1.fa q1.fn q1.fc, .int .u8 v.elem, .string v.key, .bool v.hk] 59) := ⟨_, rfl⟩
      have hbS : Below wr.heap.size wr S := by rw [hS]; exact (Below.refl _ _).alloc (Nat.le_refl _) _
      have hzS : S.heap.size = wr.heap.size + 1 := by rw [hS]; simp
      have hrS : S.heap[wr.heap.size]? = some (.cells #[.int .u8 v.kind, .int .i64 v.n, .string v.s, .slice q1.la q1.ln q1.lc, .slice q1.fa q1.fn q1.fc, .int .u8 v.elem, .string v.key, .bool v.hk] 59 (0, 0)) := by rw [hS]; exact heap_alloc_new wr _
      have y0 : S.cell? ⟨wr.heap.size, 0, none⟩ = some (.int .u8 v.kind) := by simp [World.cell?, hrS]
      have y1 : S.cell? ⟨wr.heap.size, 1, none⟩ = some (.int .i64 v.n) := by simp [World.cell?, hrS]
      have y2 : S.cell? ⟨wr.heap.size, 2, none⟩ = some (.string v.s) := by simp [World.cell?, hrS]
      have y3 : S.cell? ⟨wr.heap.size, 3, none⟩ = some (.slice q1.la q1.ln q1.lc) := by simp [World.cell?, hrS]
      have y4 : S.cell? ⟨wr.heap.size, 4, none⟩ = some (.slice q1.fa q1.fn q1.fc) := by simp [World.cell?, hrS]
      have y5 : S.cell? ⟨wr.heap.size, 5, none⟩ = some (.int .u8 v.elem) := by simp [World.cell?, hrS]
      have y6 : S.cell? ⟨wr.heap.size, 6, none⟩ = some (.string v.key) := by simp [World.cell?, hrS]
      have y7 : S.cell? ⟨wr.heap.size, 7, none⟩ = some (.bool v.hk) := by simp [World.cell?, hrS]
      have hzb := hb.size
      have cC := hC.out v (List.mem_of_getElem? hvL) hwv q1 S ((hv1.kept (hb.trans (hbS.mono hzb))).mono (by omega))
      replace cC := Lib.hid cC
      replace hS := Lib.hid hS
      replace hrS := Lib.hid hrS
      replace hbS := Lib.hid hbS
      replace hb := Lib.hid hb
      replace hcc := Lib.hid hcc
      replace hown := Lib.hid hown
      replace helt := Lib.hid helt
      replace hold := Lib.hid hold
      replace hap := Lib.hid hap
      replace hgt := Lib.hid hgt
      clear hcell hck hv1 hq1 hvL
      go_wp2_with (first | (rw [← hS.out]) | (go_at_call 17; refine cC.out.mono ?_))
      rintro e W1 ⟨q', R, rfl, ho, hR, hb1⟩
      have hz1 := hb1.size
      have hown1 : W1.ownsRow w.heap.size 59 8 (.slice (some ⟨g, 0, none⟩) n c0) n ((List.range n).flatMap cc) := hown.out.kept (grown_none (hbS.out.trans (hb1.mono hbS.out.size))) (Classical.em _)
      obtain ⟨z0, r0⟩ := own_at hown1 (k * 8) (by omega)
      have f0 := hown1.frozenAt (k * 8)
      obtain ⟨z1, r1⟩ := own_at hown1 (k * 8 + 1) (by omega)
      have f1 := hown1.frozenAt (k * 8 + 1)
      obtain ⟨z2, r2⟩ := own_at hown1 (k * 8 + 2) (by omega)
      have f2 := hown1.frozenAt (k * 8 + 2)
      obtain ⟨z3, r3⟩ := own_at hown1 (k * 8 + 3) (by omega)
      have f3 := hown1.frozenAt (k * 8 + 3)
      obtain ⟨z4, r4⟩ := own_at hown1 (k * 8 + 4) (by omega)
      have f4 := hown1.frozenAt (k * 8 + 4)
      obtain ⟨z5, r5⟩ := own_at hown1 (k * 8 + 5) (by omega)
      have f5 := hown1.frozenAt (k * 8 + 5)
      obtain ⟨z6, r6⟩ := own_at hown1 (k * 8 + 6) (by omega)
      have f6 := hown1.frozenAt (k * 8 + 6)
      obtain ⟨z7, r7⟩ := own_at hown1 (k * 8 + 7) (by omega)
      have f7 := hown1.frozenAt (k * 8 + 7)
      have hown2 := put8_own hcc.out hown1 hlt (.int .u8 v.kind) (.int .i64 v.n) (.string v.s) (.slice q'.la q'.ln q'.lc) (.slice q'.fa q'.fn q'.fc) (.int .u8 v.elem) (.string v.key) (.bool v.hk)
      have hgr := put8_grown W1 g k (.int .u8 v.kind) (.int .i64 v.n) (.string v.s) (.slice q'.la q'.ln q'.lc) (.slice q'.fa q'.fn q'.fc) (.int .u8 v.elem) (.string v.key) (.bool v.hk)
      have hfi2 : Hid (Fills w w.heap.size ((((((((W1.setCell ⟨g, k * 8, none⟩ (.int .u8 v.kind)).setCell ⟨g, k * 8 + 1, none⟩ (.int .i64 v.n)).setCell ⟨g, k * 8 + 2, none⟩ (.string v.s)).setCell ⟨g, k * 8 + 3, none⟩ (.slice q'.la q'.ln q'.lc)).setCell ⟨g, k * 8 + 4, none⟩ (.slice q'.fa q'.fn q'.fc)).setCell ⟨g, k * 8 + 5, none⟩ (.int .u8 v.elem)).setCell ⟨g, k * 8 + 6, none⟩ (.string v.key)).setCell ⟨g, k * 8 + 7, none⟩ (.bool v.hk)) 59 8 es n (k + 1) (.slice (some ⟨g, 0, none⟩) n c0)) := fill_step hcc.out hown.out helt.out hold.out hap.out hlt hl.out hbS.out hb1 (by rw [hgt.out]; exact ho) hR rfl hgr hown2
      have hb2 : Hid (Below w.heap.size w ((((((((W1.setCell ⟨g, k * 8, none⟩ (.int .u8 v.kind)).setCell ⟨g, k * 8 + 1, none⟩ (.int .i64 v.n)).setCell ⟨g, k * 8 + 2, none⟩ (.string v.s)).setCell ⟨g, k * 8 + 3, none⟩ (.slice q'.la q'.ln q'.lc)).setCell ⟨g, k * 8 + 4, none⟩ (.slice q'.fa q'.fn q'.fc)).setCell ⟨g, k * 8 + 5, none⟩ (.int .u8 v.elem)).setCell ⟨g, k * 8 + 6, none⟩ (.string v.key)).setCell ⟨g, k * 8 + 7, none⟩ (.bool v.hk))) := ((hb.out.trans (hbS.out.mono hzb)).trans (hb1.mono (by omega))).grown hgr (by omega) (fun q hq => by injection hq with hq; omega)
      replace hown1 := Lib.hid hown1
      replace hb1 := Lib.hid hb1
      clear hown2 hgr ho hR cC
      go_wp2_with fail
      go_roundw
      case rel => exact ⟨k + 1, hlt9.out, by go_num, hfi2.out, hb2.out⟩
      case measure => simp [intOf]; have := hlt9.out; omega
    · obtain rfl : k = n := by omega
      have hfin : Hid (ListOwn 59 8 es k w (.returned (.slice a0 k c0)) wr) := hfi.done hl.out (by omega) hb
      replace hfi := Lib.hid hfi
      replace hb := Lib.hid hb
      go_wp2_with fail
      go_ret
      exact hfin.out
def OneOwnF (v : Fld) (w : World) (e : Ending) (w' : World) : Prop := ∃ (q : VP) (R : List Row), e = .returned (.agg #[.string v.name, .int .u8 v.value.kind, .int .i64 v.value.n, .string v.value.s, .slice q.la q.ln q.lc, .slice q.fa q.fn q.fc, .int .u8 v.value.elem, .string v.value.key, .bool v.value.hk]) ∧ Own w' w.heap.size ownM mkS v.tr (q.fcells v) R ∧ Apart R ∧ Below w.heap.size w w'
def CopyF (v : Fld) : Prop := v.tr.wt ≤ 1048576 → ∀ (q : VP) (w : World), FAt w w.heap.size v q →
  Calls Tryz.prog 132 #[.agg #[.string v.name, .int .u8 v.value.kind, .int .i64 v.value.n, .string v.value.s, .slice q.la q.ln q.lc, .slice q.fa q.fn q.fc, .int .u8 v.value.elem, .string v.value.key, .bool v.value.hk]] w fun e w' => OneOwnF v w e w'
set_option maxHeartbeats 2000000 in
set_option maxRecDepth 100000 in
theorem copyF_of (v : Fld) (hV : CopyV v.value) : CopyF v := by
  intro hwt q w h1
  have h9 := wt_fld v
  obtain ⟨S1, hS1⟩ : ∃ S1, S1 = w.alloc (.cells #[.string v.name, .int .u8 v.value.kind, .int .i64 v.value.n, .string v.value.s, .slice q.la q.ln q.lc, .slice q.fa q.fn q.fc, .int .u8 v.value.elem, .string v.value.key, .bool v.value.hk] 61) := ⟨_, rfl⟩
  have hb1 : Below w.heap.size w S1 := by rw [hS1]; exact (Below.refl _ _).alloc (Nat.le_refl _) _
  have hr1 : S1.heap[w.heap.size]? = some (.cells #[.string v.name, .int .u8 v.value.kind, .int .i64 v.value.n, .string v.value.s, .slice q.la q.ln q.lc, .slice q.fa q.fn q.fc, .int .u8 v.value.elem, .string v.value.key, .bool v.value.hk] 61 (0, 0)) := by rw [hS1]; exact heap_alloc_new w _
  have hz1 : S1.heap.size = w.heap.size + 1 := by rw [hS1]; simp
  obtain ⟨S, hS⟩ : ∃ S, S = S1.alloc (.cells #[.string ⟨#[]⟩, .int .u8 0, .int .i64 0, .string ⟨#[]⟩, .slice none 0 0, .slice none 0 0, .int .u8 0, .string ⟨#[]⟩, .bool false] 61) := ⟨_, rfl⟩
  have hb2 : Below S1.heap.size S1 S := by rw [hS]; exact (Below.refl _ _).alloc (Nat.le_refl _) _
  have hr2 : S.heap[w.heap.size + 1]? = some (.cells #[.string ⟨#[]⟩, .int .u8 0, .int .i64 0, .string ⟨#[]⟩, .slice none 0 0, .slice none 0 0, .int .u8 0, .string ⟨#[]⟩, .bool false] 61 (0, 0)) := by rw [hS, ← hz1]; exact heap_alloc_new S1 _
  have hr3 : S.heap[w.heap.size]? = some (.cells #[.string v.name, .int .u8 v.value.kind, .int .i64 v.value.n, .string v.value.s, .slice q.la q.ln q.lc, .slice q.fa q.fn q.fc, .int .u8 v.value.elem, .string v.value.key, .bool v.value.hk] 61 (0, 0)) := (hb2.block _ (by omega)).trans hr1
  have hbS : Below w.heap.size w S := hb1.trans (hb2.mono hb1.size)
  have hzS : S.heap.size = w.heap.size + 2 := by rw [hS]; simp [hz1]
  have hW : Hid (S = _) := hS.trans (by rw [hS1])
  have x0 : S.cell? ⟨w.heap.size, 0, none⟩ = some (.string v.name) := by simp [World.cell?, hr3]
  have x1 : S.cell? ⟨w.heap.size, 1, none⟩ = some (.int .u8 v.value.kind) := by simp [World.cell?, hr3]
  have x2 : S.cell? ⟨w.heap.size, 2, none⟩ = some (.int .i64 v.value.n) := by simp [World.cell?, hr3]
  have x3 : S.cell? ⟨w.heap.size, 3, none⟩ = some (.string v.value.s) := by simp [World.cell?, hr3]
  have x4 : S.cell? ⟨w.heap.size, 4, none⟩ = some (.slice q.la q.ln q.lc) := by simp [World.cell?, hr3]
  have x5 : S.cell? ⟨w.heap.size, 5, none⟩ = some (.slice q.fa q.fn q.fc) := by simp [World.cell?, hr3]
  have x6 : S.cell? ⟨w.heap.size, 6, none⟩ = some (.int .u8 v.value.elem) := by simp [World.cell?, hr3]
  have x7 : S.cell? ⟨w.heap.size, 7, none⟩ = some (.string v.value.key) := by simp [World.cell?, hr3]
  have x8 : S.cell? ⟨w.heap.size, 8, none⟩ = some (.bool v.value.hk) := by simp [World.cell?, hr3]
  clear hS hS1 hb1 hb2 hr1 hz1
  have cV : Hid (∀ W, Below S.heap.size S W → Calls Tryz.prog 17 #[.agg #[.int .u8 v.value.kind, .int .i64 v.value.n, .string v.value.s, .slice q.la q.ln q.lc, .slice q.fa q.fn q.fc, .int .u8 v.value.elem, .string v.value.key, .bool v.value.hk]] W fun e w' => OneOwnV v.value W e w') := fun W hW =>
    hV (by omega) q W ((h1.val.kept (hbS.trans (hW.mono hbS.size))).mono (Nat.le_trans hbS.size hW.size))
  replace h1 := Lib.hid h1
  replace hbS := Lib.hid hbS
  replace hr2 := Lib.hid hr2
  replace hr3 := Lib.hid hr3
  clear hV hwt h9
  go_enter Tryz.func132, Tryz.ntmps132
  go_wp2_with (first | (rw [← hW.out]) | fail)
  go_region_held3 (fun V => V.cell? ⟨w.heap.size, 0, none⟩ = some (.string v.name) ∧ V.cell? ⟨w.heap.size, 1, none⟩ = some (.int .u8 v.value.kind) ∧ V.cell? ⟨w.heap.size, 2, none⟩ = some (.int .i64 v.value.n) ∧ V.cell? ⟨w.heap.size, 3, none⟩ = some (.string v.value.s) ∧ V.cell? ⟨w.heap.size, 4, none⟩ = some (.slice q.la q.ln q.lc) ∧ V.cell? ⟨w.heap.size, 5, none⟩ = some (.slice q.fa q.fn q.fc) ∧ V.cell? ⟨w.heap.size, 6, none⟩ = some (.int .u8 v.value.elem) ∧ V.cell? ⟨w.heap.size, 7, none⟩ = some (.string v.value.key) ∧ V.cell? ⟨w.heap.size, 8, none⟩ = some (.bool v.value.hk)) (first | go_keep | exact ⟨x0, x1, x2, x3, x4, x5, x6, x7, x8⟩)
    (first
      | (go_at_call 17; refine (cV.out _ (drew_low _)).mono ?_; rintro e W1 ⟨q', R1, rfl, o1, a1, b1⟩; have hbS1 := Lib.hid ((drew_low S).trans (b1.mono (by simp))); replace x0 := (hbS1.out.cell (p := ⟨w.heap.size, 0, none⟩) (by show w.heap.size < _; omega)).trans x0; replace x1 := (hbS1.out.cell (p := ⟨w.heap.size, 1, none⟩) (by show w.heap.size < _; omega)).trans x1; replace x2 := (hbS1.out.cell (p := ⟨w.heap.size, 2, none⟩) (by show w.heap.size < _; omega)).trans x2; replace x3 := (hbS1.out.cell (p := ⟨w.heap.size, 3, none⟩) (by show w.heap.size < _; omega)).trans x3; replace x4 := (hbS1.out.cell (p := ⟨w.heap.size, 4, none⟩) (by show w.heap.size < _; omega)).trans x4; replace x5 := (hbS1.out.cell (p := ⟨w.heap.size, 5, none⟩) (by show w.heap.size < _; omega)).trans x5; replace x6 := (hbS1.out.cell (p := ⟨w.heap.size, 6, none⟩) (by show w.heap.size < _; omega)).trans x6; replace x7 := (hbS1.out.cell (p := ⟨w.heap.size, 7, none⟩) (by show w.heap.size < _; omega)).trans x7; replace x8 := (hbS1.out.cell (p := ⟨w.heap.size, 8, none⟩) (by show w.heap.size < _; omega)).trans x8; have hzb1 := hbS1.out.size; have hr9 := Lib.hid ((hbS1.out.block (w.heap.size + 1) (by omega)).trans hr2.out); have r0 : W1.cell? ⟨w.heap.size + 1, 0, none⟩ = some (.string ⟨#[]⟩) := (by simp [World.cell?, hr9.out]); have f0 : W1.frozen? ⟨w.heap.size + 1, 0, none⟩ = false := (by simp [World.frozen?, hr9.out]); have r1 : W1.cell? ⟨w.heap.size + 1, 1, none⟩ = some (.int .u8 0) := (by simp [World.cell?, hr9.out]); have f1 : W1.frozen? ⟨w.heap.size + 1, 1, none⟩ = false := (by simp [World.frozen?, hr9.out]); have r2 : W1.cell? ⟨w.heap.size + 1, 2, none⟩ = some (.int .i64 0) := (by simp [World.cell?, hr9.out]); have f2 : W1.frozen? ⟨w.heap.size + 1, 2, none⟩ = false := (by simp [World.frozen?, hr9.out]); have r3 : W1.cell? ⟨w.heap.size + 1, 3, none⟩ = some (.string ⟨#[]⟩) := (by simp [World.cell?, hr9.out]); have f3 : W1.frozen? ⟨w.heap.size + 1, 3, none⟩ = false := (by simp [World.frozen?, hr9.out]); have r4 : W1.cell? ⟨w.heap.size + 1, 4, none⟩ = some (.slice none 0 0) := (by simp [World.cell?, hr9.out]); have f4 : W1.frozen? ⟨w.heap.size + 1, 4, none⟩ = false := (by simp [World.frozen?, hr9.out]); have r5 : W1.cell? ⟨w.heap.size + 1, 5, none⟩ = some (.slice none 0 0) := (by simp [World.cell?, hr9.out]); have f5 : W1.frozen? ⟨w.heap.size + 1, 5, none⟩ = false := (by simp [World.frozen?, hr9.out]); have r6 : W1.cell? ⟨w.heap.size + 1, 6, none⟩ = some (.int .u8 0) := (by simp [World.cell?, hr9.out]); have f6 : W1.frozen? ⟨w.heap.size + 1, 6, none⟩ = false := (by simp [World.frozen?, hr9.out]); have r7 : W1.cell? ⟨w.heap.size + 1, 7, none⟩ = some (.string ⟨#[]⟩) := (by simp [World.cell?, hr9.out]); have f7 : W1.frozen? ⟨w.heap.size + 1, 7, none⟩ = false := (by simp [World.frozen?, hr9.out]); have r8 : W1.cell? ⟨w.heap.size + 1, 8, none⟩ = some (.bool false) := (by simp [World.cell?, hr9.out]); have f8 : W1.frozen? ⟨w.heap.size + 1, 8, none⟩ = false := (by simp [World.frozen?, hr9.out]); replace o1 := Lib.hid o1; replace a1 := Lib.hid a1; replace b1 := Lib.hid b1))
  have hg5 : Hid ((((((((((W1.setCell ⟨w.heap.size + 1, 0, none⟩ (.string v.name)).setCell ⟨w.heap.size + 1, 1, none⟩ (.int .u8 v.value.kind)).setCell ⟨w.heap.size + 1, 2, none⟩ (.int .i64 v.value.n)).setCell ⟨w.heap.size + 1, 3, none⟩ (.string v.value.s)).setCell ⟨w.heap.size + 1, 4, none⟩ (.slice q'.la q'.ln q'.lc)).setCell ⟨w.heap.size + 1, 5, none⟩ (.slice q'.fa q'.fn q'.fc)).setCell ⟨w.heap.size + 1, 6, none⟩ (.int .u8 v.value.elem)).setCell ⟨w.heap.size + 1, 7, none⟩ (.string v.value.key)).setCell ⟨w.heap.size + 1, 8, none⟩ (.bool v.value.hk)).heap[w.heap.size + 1]? = some (.cells #[.string v.name, .int .u8 v.value.kind, .int .i64 v.value.n, .string v.value.s, .slice q'.la q'.ln q'.lc, .slice q'.fa q'.fn q'.fc, .int .u8 v.value.elem, .string v.value.key, .bool v.value.hk] 61 (0, 0))) := set9_row hr9.out _ _ _ _ _ _ _ _ _
  have hgr : W1.grownBy (((((((((W1.setCell ⟨w.heap.size + 1, 0, none⟩ (.string v.name)).setCell ⟨w.heap.size + 1, 1, none⟩ (.int .u8 v.value.kind)).setCell ⟨w.heap.size + 1, 2, none⟩ (.int .i64 v.value.n)).setCell ⟨w.heap.size + 1, 3, none⟩ (.string v.value.s)).setCell ⟨w.heap.size + 1, 4, none⟩ (.slice q'.la q'.ln q'.lc)).setCell ⟨w.heap.size + 1, 5, none⟩ (.slice q'.fa q'.fn q'.fc)).setCell ⟨w.heap.size + 1, 6, none⟩ (.int .u8 v.value.elem)).setCell ⟨w.heap.size + 1, 7, none⟩ (.string v.value.key)).setCell ⟨w.heap.size + 1, 8, none⟩ (.bool v.value.hk)) (some (w.heap.size + 1)) := set9_grown W1 (w.heap.size + 1) _ _ _ _ _ _ _ _ _
  have oL := (o1.out.base (show w.heap.size ≤ S.drew.heap.size from hbS.out.size)).kept hgr (fun r hr k hk e => by
    have h5 : S.heap.size ≤ k := (o1.out.within r hr k hk).1
    injection e with e; omega)
  have hfin : Hid (OneOwnF v w (.returned (.agg #[.string v.name, .int .u8 v.value.kind, .int .i64 v.value.n, .string v.value.s, .slice q'.la q'.ln q'.lc, .slice q'.fa q'.fn q'.fc, .int .u8 v.value.elem, .string v.value.key, .bool v.value.hk])) (((((((((W1.setCell ⟨w.heap.size + 1, 0, none⟩ (.string v.name)).setCell ⟨w.heap.size + 1, 1, none⟩ (.int .u8 v.value.kind)).setCell ⟨w.heap.size + 1, 2, none⟩ (.int .i64 v.value.n)).setCell ⟨w.heap.size + 1, 3, none⟩ (.string v.value.s)).setCell ⟨w.heap.size + 1, 4, none⟩ (.slice q'.la q'.ln q'.lc)).setCell ⟨w.heap.size + 1, 5, none⟩ (.slice q'.fa q'.fn q'.fc)).setCell ⟨w.heap.size + 1, 6, none⟩ (.int .u8 v.value.elem)).setCell ⟨w.heap.size + 1, 7, none⟩ (.string v.value.key)).setCell ⟨w.heap.size + 1, 8, none⟩ (.bool v.value.hk))) :=
    ⟨q', R1, rfl, Own.fld h1.out.k0 oL, a1.out, (hbS.out.trans (hbS1.out.mono hbS.out.size)).grown hgr (by omega) (fun k hk => by injection hk with hk; omega)⟩
  clear hgr oL r0 f0 r1 f1 r2 f2 r3 f3 r4 f4 r5 f5 r6 f6 r7 f7 r8 f8
  go_wp2_with fail
  exact bodyPost_ret (results_cell1 (fn := Tryz.f132) (p := 2) (ty := 61) (by kernel_rfl) _ _ _ _ _ _ _ rfl hg5.out Tryz.underlying61 rfl size_fld) rfl hfin.out
set_option maxHeartbeats 2000000 in
set_option maxRecDepth 100000 in
theorem eachF_any (L : List Fld) (hC : ∀ v ∈ L, CopyF v) (a : Option Addr) (n c : Nat) (w : World) (hwt : L.length + wts (L.map Fld.tr) ≤ 1048576) (h1 : FLs w w.heap.size L a n) :
    Calls Tryz.prog 131 #[.slice a n c, .func (.func 132) #[] #[]] w fun e w' => ListOwn 61 9 (L.map Fld.tr) n w e w' := by
  have hl := h1.len.1
  have hll := hl
  rw [List.length_map] at hll
  have hn : n ≤ 1048576 := by omega
  have cK := cloneF_any L a n c w hwt h1
  obtain ⟨es, hes⟩ : ∃ es, es = L.map Fld.tr := ⟨_, rfl⟩
  rw [← hes] at hl cK ⊢ hwt
  replace cK := Lib.hid cK
  replace hC := Lib.hid hC
  replace hwt := Lib.hid hwt
  replace hl := Lib.hid hl
  replace hll := Lib.hid hll
  replace hes := Lib.hid hes
  clear h1
  go_enter Tryz.func131, Tryz.ntmps131
  go_wp2_with (go_at_call 148; refine cK.out.mono ?_)
  rintro e W0 ⟨a0, c0, cc0, rfl, hown0, hcc0, hE0, hb0⟩
  have hF0 : Hid (Fills w w.heap.size W0 61 9 es n 0 (.slice a0 n c0)) := ⟨cc0, fun _ => [], hcc0, hown0, fun i _ hi => by omega, fun i h _ => hE0 i h, by simp [Apart]⟩
  replace hb0 := Lib.hid hb0
  clear hown0 hcc0 hE0 cK
  go_wp2_with fail
  go_loopw [12] (fun i wr => ∃ k : Nat, k ≤ n ∧ i = .int .i64 (k : Nat) ∧ Fills w w.heap.size wr 61 9 es n k (.slice a0 n c0) ∧ Below w.heap.size w wr) (fun i _ => n - (intOf i).toNat)
  case atStart => exact ⟨0, Nat.zero_le _, rfl, hF0.out, hb0.out⟩
  case round =>
    obtain ⟨k, hk, rfl, hfi, hb⟩ := hrel
    by_cases hlt : k < n
    · have hlt9 : Hid (k + 1 ≤ n) := hlt
      obtain ⟨cc, RR, hcc, hown, helt, hold, hap⟩ := hfi
      have hke : k < es.length := by have := hl.out; omega
      obtain ⟨v, hvL, hgt⟩ : ∃ v, L[k]? = some v ∧ es[k] = v.tr := by
        have hkl : k < L.length := by have := hll.out; omega
        refine ⟨L[k], List.getElem?_eq_getElem hkl, ?_⟩
        have : es[k]? = some (L[k]).tr := by rw [hes.out, List.getElem?_map, List.getElem?_eq_getElem hkl]; rfl
        rw [List.getElem?_eq_getElem hke] at this
        exact Option.some.inj this
      have hwv : v.tr.wt ≤ 1048576 := by
        have := wts_mem (List.getElem_mem hke)
        rw [hgt] at this
        have := hwt.out; omega
      have hck := hold k hke (Nat.le_refl k)
      rw [hgt] at hck
      obtain ⟨q1, hq1, hk0, hv0⟩ := hck.fld
      have hv1 := FAt.mk hk0 hv0
      obtain ⟨g, hg0⟩ : ∃ g, a0 = some ⟨g, 0, none⟩ := by
        rcases hown.2 with ⟨_, h0⟩ | ⟨g, cap, cur, e1, _⟩
        · omega
        · injection e1 with e1; exact ⟨g, e1⟩
      subst hg0
      have hgl := hown.lt g rfl
      have hcell : ∀ j, j < 9 → wr.cell? ⟨g, k * 9 + j, none⟩ = (q1.fcells v)[j]? := fun j hj => by
        rw [hown.cellAt (k * 9 + j) (by omega), flat_get hcc k j hlt hj, hq1]
      have x0 : wr.cell? ⟨g, k * 9, none⟩ = some (.string v.name) := hcell 0 (by omega)
      have x1 : wr.cell? ⟨g, k * 9 + 1, none⟩ = some (.int .u8 v.value.kind) := hcell 1 (by omega)
      have x2 : wr.cell? ⟨g, k * 9 + 2, none⟩ = some (.int .i64 v.value.n) := hcell 2 (by omega)
      have x3 : wr.cell? ⟨g, k * 9 + 3, none⟩ = some (.string v.value.s) := hcell 3 (by omega)
      have x4 : wr.cell? ⟨g, k * 9 + 4, none⟩ = some (.slice q1.la q1.ln q1.lc) := hcell 4 (by omega)
      have x5 : wr.cell? ⟨g, k * 9 + 5, none⟩ = some (.slice q1.fa q1.fn q1.fc) := hcell 5 (by omega)
      have x6 : wr.cell? ⟨g, k * 9 + 6, none⟩ = some (.int .u8 v.value.elem) := hcell 6 (by omega)
      have x7 : wr.cell? ⟨g, k * 9 + 7, none⟩ = some (.string v.value.key) := hcell 7 (by omega)
      have x8 : wr.cell? ⟨g, k * 9 + 8, none⟩ = some (.bool v.value.hk) := hcell 8 (by omega)
      obtain ⟨S, hS⟩ : ∃ S, S = wr.alloc (.cells #[.string v.name, .int .u8 v.value.kind, .int .i64 v.value.n, .string v.value.s, .slice q1.la q1.ln q1.lc, .slice q1.fa q1.fn q1.fc, .int .u8 v.value.elem, .string v.value.key, .bool v.value.hk] 61) := ⟨_, rfl⟩
      have hbS : Below wr.heap.size wr S := by rw [hS]; exact (Below.refl _ _).alloc (Nat.le_refl _) _
      have hzS : S.heap.size = wr.heap.size + 1 := by rw [hS]; simp
      have hrS : S.heap[wr.heap.size]? = some (.cells #[.string v.name, .int .u8 v.value.kind, .int .i64 v.value.n, .string v.value.s, .slice q1.la q1.ln q1.lc, .slice q1.fa q1.fn q1.fc, .int .u8 v.value.elem, .string v.value.key, .bool v.value.hk] 61 (0, 0)) := by rw [hS]; exact heap_alloc_new wr _
      have y0 : S.cell? ⟨wr.heap.size, 0, none⟩ = some (.string v.name) := by simp [World.cell?, hrS]
      have y1 : S.cell? ⟨wr.heap.size, 1, none⟩ = some (.int .u8 v.value.kind) := by simp [World.cell?, hrS]
      have y2 : S.cell? ⟨wr.heap.size, 2, none⟩ = some (.int .i64 v.value.n) := by simp [World.cell?, hrS]
      have y3 : S.cell? ⟨wr.heap.size, 3, none⟩ = some (.string v.value.s) := by simp [World.cell?, hrS]
      have y4 : S.cell? ⟨wr.heap.size, 4, none⟩ = some (.slice q1.la q1.ln q1.lc) := by simp [World.cell?, hrS]
      have y5 : S.cell? ⟨wr.heap.size, 5, none⟩ = some (.slice q1.fa q1.fn q1.fc) := by simp [World.cell?, hrS]
      have y6 : S.cell? ⟨wr.heap.size, 6, none⟩ = some (.int .u8 v.value.elem) := by simp [World.cell?, hrS]
      have y7 : S.cell? ⟨wr.heap.size, 7, none⟩ = some (.string v.value.key) := by simp [World.cell?, hrS]
      have y8 : S.cell? ⟨wr.heap.size, 8, none⟩ = some (.bool v.value.hk) := by simp [World.cell?, hrS]
      have hzb := hb.size
      have cC := hC.out v (List.mem_of_getElem? hvL) hwv q1 S ((hv1.kept (hb.trans (hbS.mono hzb))).mono (by omega))
      replace cC := Lib.hid cC
      replace hS := Lib.hid hS
      replace hrS := Lib.hid hrS
      replace hbS := Lib.hid hbS
      replace hb := Lib.hid hb
      replace hcc := Lib.hid hcc
      replace hown := Lib.hid hown
      replace helt := Lib.hid helt
      replace hold := Lib.hid hold
      replace hap := Lib.hid hap
      replace hgt := Lib.hid hgt
      clear hcell hck hv1 hq1 hvL
      go_wp2_with (first | (rw [← hS.out]) | (go_at_call 132; refine cC.out.mono ?_))
      rintro e W1 ⟨q', R, rfl, ho, hR, hb1⟩
      have hz1 := hb1.size
      have hown1 : W1.ownsRow w.heap.size 61 9 (.slice (some ⟨g, 0, none⟩) n c0) n ((List.range n).flatMap cc) := hown.out.kept (grown_none (hbS.out.trans (hb1.mono hbS.out.size))) (Classical.em _)
      obtain ⟨z0, r0⟩ := own_at hown1 (k * 9) (by omega)
      have f0 := hown1.frozenAt (k * 9)
      obtain ⟨z1, r1⟩ := own_at hown1 (k * 9 + 1) (by omega)
      have f1 := hown1.frozenAt (k * 9 + 1)
      obtain ⟨z2, r2⟩ := own_at hown1 (k * 9 + 2) (by omega)
      have f2 := hown1.frozenAt (k * 9 + 2)
      obtain ⟨z3, r3⟩ := own_at hown1 (k * 9 + 3) (by omega)
      have f3 := hown1.frozenAt (k * 9 + 3)
      obtain ⟨z4, r4⟩ := own_at hown1 (k * 9 + 4) (by omega)
      have f4 := hown1.frozenAt (k * 9 + 4)
      obtain ⟨z5, r5⟩ := own_at hown1 (k * 9 + 5) (by omega)
      have f5 := hown1.frozenAt (k * 9 + 5)
      obtain ⟨z6, r6⟩ := own_at hown1 (k * 9 + 6) (by omega)
      have f6 := hown1.frozenAt (k * 9 + 6)
      obtain ⟨z7, r7⟩ := own_at hown1 (k * 9 + 7) (by omega)
      have f7 := hown1.frozenAt (k * 9 + 7)
      obtain ⟨z8, r8⟩ := own_at hown1 (k * 9 + 8) (by omega)
      have f8 := hown1.frozenAt (k * 9 + 8)
      have hown2 := put9_own hcc.out hown1 hlt (.string v.name) (.int .u8 v.value.kind) (.int .i64 v.value.n) (.string v.value.s) (.slice q'.la q'.ln q'.lc) (.slice q'.fa q'.fn q'.fc) (.int .u8 v.value.elem) (.string v.value.key) (.bool v.value.hk)
      have hgr := put9_grown W1 g k (.string v.name) (.int .u8 v.value.kind) (.int .i64 v.value.n) (.string v.value.s) (.slice q'.la q'.ln q'.lc) (.slice q'.fa q'.fn q'.fc) (.int .u8 v.value.elem) (.string v.value.key) (.bool v.value.hk)
      have hfi2 : Hid (Fills w w.heap.size (((((((((W1.setCell ⟨g, k * 9, none⟩ (.string v.name)).setCell ⟨g, k * 9 + 1, none⟩ (.int .u8 v.value.kind)).setCell ⟨g, k * 9 + 2, none⟩ (.int .i64 v.value.n)).setCell ⟨g, k * 9 + 3, none⟩ (.string v.value.s)).setCell ⟨g, k * 9 + 4, none⟩ (.slice q'.la q'.ln q'.lc)).setCell ⟨g, k * 9 + 5, none⟩ (.slice q'.fa q'.fn q'.fc)).setCell ⟨g, k * 9 + 6, none⟩ (.int .u8 v.value.elem)).setCell ⟨g, k * 9 + 7, none⟩ (.string v.value.key)).setCell ⟨g, k * 9 + 8, none⟩ (.bool v.value.hk)) 61 9 es n (k + 1) (.slice (some ⟨g, 0, none⟩) n c0)) := fill_step hcc.out hown.out helt.out hold.out hap.out hlt hl.out hbS.out hb1 (by rw [hgt.out]; exact ho) hR rfl hgr hown2
      have hb2 : Hid (Below w.heap.size w (((((((((W1.setCell ⟨g, k * 9, none⟩ (.string v.name)).setCell ⟨g, k * 9 + 1, none⟩ (.int .u8 v.value.kind)).setCell ⟨g, k * 9 + 2, none⟩ (.int .i64 v.value.n)).setCell ⟨g, k * 9 + 3, none⟩ (.string v.value.s)).setCell ⟨g, k * 9 + 4, none⟩ (.slice q'.la q'.ln q'.lc)).setCell ⟨g, k * 9 + 5, none⟩ (.slice q'.fa q'.fn q'.fc)).setCell ⟨g, k * 9 + 6, none⟩ (.int .u8 v.value.elem)).setCell ⟨g, k * 9 + 7, none⟩ (.string v.value.key)).setCell ⟨g, k * 9 + 8, none⟩ (.bool v.value.hk))) := ((hb.out.trans (hbS.out.mono hzb)).trans (hb1.mono (by omega))).grown hgr (by omega) (fun q hq => by injection hq with hq; omega)
      replace hown1 := Lib.hid hown1
      replace hb1 := Lib.hid hb1
      clear hown2 hgr ho hR cC
      go_wp2_with fail
      go_roundw
      case rel => exact ⟨k + 1, hlt9.out, by go_num, hfi2.out, hb2.out⟩
      case measure => simp [intOf]; have := hlt9.out; omega
    · obtain rfl : k = n := by omega
      have hfin : Hid (ListOwn 61 9 es k w (.returned (.slice a0 k c0)) wr) := hfi.done hl.out (by omega) hb
      replace hfi := Lib.hid hfi
      replace hb := Lib.hid hb
      go_wp2_with fail
      go_ret
      exact hfin.out
set_option maxRecDepth 100000 in
theorem copyValues_any (L : List Val) (hC : ∀ v ∈ L, CopyV v) (a : Option Addr) (n c : Nat) (w : World) (hwt : L.length + wts (L.map Val.tr) ≤ 1048576) (h1 : VLs w w.heap.size L a n) :
    Calls Tryz.prog 79 #[.slice a n c] w fun e w' => ListOwn 59 8 (L.map Val.tr) n w e w' := by
  have cE := Lib.hid (eachV_any L hC a n c w hwt h1)
  clear hwt h1 hC
  go_enter Tryz.func79, Tryz.ntmps79
  go_wp2_with (go_at_call 130; refine cE.out.mono ?_)
  rintro e W0 ⟨a0, c0, R, rfl, h⟩
  have hfin : Hid (ListOwn 59 8 (L.map Val.tr) n w (.returned (.slice a0 n c0)) W0) := ⟨a0, c0, R, rfl, h⟩
  clear h cE
  go_wp2_with fail
  go_ret
  exact hfin.out
set_option maxRecDepth 100000 in
theorem copyFields_any (L : List Fld) (hC : ∀ v ∈ L, CopyF v) (a : Option Addr) (n c : Nat) (w : World) (hwt : L.length + wts (L.map Fld.tr) ≤ 1048576) (h1 : FLs w w.heap.size L a n) :
    Calls Tryz.prog 80 #[.slice a n c] w fun e w' => ListOwn 61 9 (L.map Fld.tr) n w e w' := by
  have cE := Lib.hid (eachF_any L hC a n c w hwt h1)
  clear hwt h1 hC
  go_enter Tryz.func80, Tryz.ntmps80
  go_wp2_with (go_at_call 131; refine cE.out.mono ?_)
  rintro e W0 ⟨a0, c0, R, rfl, h⟩
  have hfin : Hid (ListOwn 61 9 (L.map Fld.tr) n w (.returned (.slice a0 n c0)) W0) := ⟨a0, c0, R, rfl, h⟩
  clear h cE
  go_wp2_with fail
  go_ret
  exact hfin.out
set_option maxHeartbeats 2000000 in
set_option maxRecDepth 100000 in
theorem copyV_of (v : Val) (hL : ∀ x ∈ v.L, CopyV x) (hF : ∀ f ∈ v.F, CopyF f) : CopyV v := by
  intro hwt q w h1
  have h9 := wt_val v
  obtain ⟨S1, hS1⟩ : ∃ S1, S1 = w.alloc (.cells #[.int .u8 v.kind, .int .i64 v.n, .string v.s, .slice q.la q.ln q.lc, .slice q.fa q.fn q.fc, .int .u8 v.elem, .string v.key, .bool v.hk] 59) := ⟨_, rfl⟩
  have hb1 : Below w.heap.size w S1 := by rw [hS1]; exact (Below.refl _ _).alloc (Nat.le_refl _) _
  have hr1 : S1.heap[w.heap.size]? = some (.cells #[.int .u8 v.kind, .int .i64 v.n, .string v.s, .slice q.la q.ln q.lc, .slice q.fa q.fn q.fc, .int .u8 v.elem, .string v.key, .bool v.hk] 59 (0, 0)) := by rw [hS1]; exact heap_alloc_new w _
  have hz1 : S1.heap.size = w.heap.size + 1 := by rw [hS1]; simp
  obtain ⟨S, hS⟩ : ∃ S, S = S1.alloc (.cells #[.int .u8 0, .int .i64 0, .string ⟨#[]⟩, .slice none 0 0, .slice none 0 0, .int .u8 0, .string ⟨#[]⟩, .bool false] 59) := ⟨_, rfl⟩
  have hb2 : Below S1.heap.size S1 S := by rw [hS]; exact (Below.refl _ _).alloc (Nat.le_refl _) _
  have hr2 : S.heap[w.heap.size + 1]? = some (.cells #[.int .u8 0, .int .i64 0, .string ⟨#[]⟩, .slice none 0 0, .slice none 0 0, .int .u8 0, .string ⟨#[]⟩, .bool false] 59 (0, 0)) := by rw [hS, ← hz1]; exact heap_alloc_new S1 _
  have hr3 : S.heap[w.heap.size]? = some (.cells #[.int .u8 v.kind, .int .i64 v.n, .string v.s, .slice q.la q.ln q.lc, .slice q.fa q.fn q.fc, .int .u8 v.elem, .string v.key, .bool v.hk] 59 (0, 0)) := (hb2.block _ (by omega)).trans hr1
  have hbS : Below w.heap.size w S := hb1.trans (hb2.mono hb1.size)
  have hzS : S.heap.size = w.heap.size + 2 := by rw [hS]; simp [hz1]
  have hW : Hid (S = _) := hS.trans (by rw [hS1])
  have x0 : S.cell? ⟨w.heap.size, 0, none⟩ = some (.int .u8 v.kind) := by simp [World.cell?, hr3]
  have x1 : S.cell? ⟨w.heap.size, 1, none⟩ = some (.int .i64 v.n) := by simp [World.cell?, hr3]
  have x2 : S.cell? ⟨w.heap.size, 2, none⟩ = some (.string v.s) := by simp [World.cell?, hr3]
  have x3 : S.cell? ⟨w.heap.size, 3, none⟩ = some (.slice q.la q.ln q.lc) := by simp [World.cell?, hr3]
  have x4 : S.cell? ⟨w.heap.size, 4, none⟩ = some (.slice q.fa q.fn q.fc) := by simp [World.cell?, hr3]
  have x5 : S.cell? ⟨w.heap.size, 5, none⟩ = some (.int .u8 v.elem) := by simp [World.cell?, hr3]
  have x6 : S.cell? ⟨w.heap.size, 6, none⟩ = some (.string v.key) := by simp [World.cell?, hr3]
  have x7 : S.cell? ⟨w.heap.size, 7, none⟩ = some (.bool v.hk) := by simp [World.cell?, hr3]
  clear hS hS1 hb1 hb2 hr1 hz1
  have cL : Hid (∀ W, Below S.heap.size S W → Calls Tryz.prog 79 #[.slice q.la q.ln q.lc] W fun e w' => ListOwn 59 8 (v.L.map Val.tr) q.ln W e w') := fun W hW =>
    copyValues_any v.L hL q.la q.ln q.lc W (by omega) ((h1.L.kept (hbS.trans (hW.mono hbS.size))).mono (Nat.le_trans hbS.size hW.size))
  have cF : Hid (∀ W, Below S.heap.size S W → Calls Tryz.prog 80 #[.slice q.fa q.fn q.fc] W fun e w' => ListOwn 61 9 (v.F.map Fld.tr) q.fn W e w') := fun W hW =>
    copyFields_any v.F hF q.fa q.fn q.fc W (by omega) ((h1.F.kept (hbS.trans (hW.mono hbS.size))).mono (Nat.le_trans hbS.size hW.size))
  replace h1 := Lib.hid h1
  replace hbS := Lib.hid hbS
  have hfr : ∀ j, S.frozen? ⟨w.heap.size, j, none⟩ = false := fun j => by simp [World.frozen?, hr3]
  have f3 := hfr 3
  have f4 := hfr 4
  replace hfr := Lib.hid hfr
  replace hr2 := Lib.hid hr2
  replace hr3 := Lib.hid hr3
  replace hwt := Lib.hid hwt
  replace h9 := Lib.hid h9
  clear hL hF
  go_enter Tryz.func17, Tryz.ntmps17
  go_wp2_with (first | (rw [← hW.out]) | fail)
  go_region_with (first
      | (go_at_call 79; refine (cL.out _ (drew_low _)).mono ?_; rintro e W1 ⟨a1, c1, R1, rfl, o1, p1, b1⟩; have hbS1 := Lib.hid ((drew_low S).trans (b1.mono (by simp))); replace x0 := (hbS1.out.cell (p := ⟨w.heap.size, 0, none⟩) (by show w.heap.size < _; omega)).trans x0; replace x1 := (hbS1.out.cell (p := ⟨w.heap.size, 1, none⟩) (by show w.heap.size < _; omega)).trans x1; replace x2 := (hbS1.out.cell (p := ⟨w.heap.size, 2, none⟩) (by show w.heap.size < _; omega)).trans x2; replace x3 := (hbS1.out.cell (p := ⟨w.heap.size, 3, none⟩) (by show w.heap.size < _; omega)).trans x3; replace x4 := (hbS1.out.cell (p := ⟨w.heap.size, 4, none⟩) (by show w.heap.size < _; omega)).trans x4; replace x5 := (hbS1.out.cell (p := ⟨w.heap.size, 5, none⟩) (by show w.heap.size < _; omega)).trans x5; replace x6 := (hbS1.out.cell (p := ⟨w.heap.size, 6, none⟩) (by show w.heap.size < _; omega)).trans x6; replace x7 := (hbS1.out.cell (p := ⟨w.heap.size, 7, none⟩) (by show w.heap.size < _; omega)).trans x7; replace f3 := (hbS1.out.frozen (p := ⟨w.heap.size, 3, none⟩) (by show w.heap.size < _; omega)).trans f3; replace f4 := (hbS1.out.frozen (p := ⟨w.heap.size, 4, none⟩) (by show w.heap.size < _; omega)).trans f4; have hzb1 := hbS1.out.size; replace o1 := Lib.hid o1; replace p1 := Lib.hid p1; replace b1 := Lib.hid b1)
      | (go_at_call 80; refine (cF.out _ hbS1.out).mono ?_; rintro e W2 ⟨a2, c2, R2, rfl, o2, p2, b2⟩; have hbS2 := Lib.hid (hbS1.out.trans (b2.mono (by omega))); replace x0 := (b2.cell (p := ⟨w.heap.size, 0, none⟩) (by show w.heap.size < _; omega)).trans x0; replace x1 := (b2.cell (p := ⟨w.heap.size, 1, none⟩) (by show w.heap.size < _; omega)).trans x1; replace x2 := (b2.cell (p := ⟨w.heap.size, 2, none⟩) (by show w.heap.size < _; omega)).trans x2; replace x3 := (b2.cell (p := ⟨w.heap.size, 3, none⟩) (by show w.heap.size < _; omega)).trans x3; replace x4 := (b2.cell (p := ⟨w.heap.size, 4, none⟩) (by show w.heap.size < _; omega)).trans x4; replace x5 := (b2.cell (p := ⟨w.heap.size, 5, none⟩) (by show w.heap.size < _; omega)).trans x5; replace x6 := (b2.cell (p := ⟨w.heap.size, 6, none⟩) (by show w.heap.size < _; omega)).trans x6; replace x7 := (b2.cell (p := ⟨w.heap.size, 7, none⟩) (by show w.heap.size < _; omega)).trans x7; replace f3 := (b2.frozen (p := ⟨w.heap.size, 3, none⟩) (by show w.heap.size < _; omega)).trans f3; replace f4 := (b2.frozen (p := ⟨w.heap.size, 4, none⟩) (by show w.heap.size < _; omega)).trans f4; have hzb2 := hbS2.out.size; have hr9 := Lib.hid ((hbS2.out.block (w.heap.size + 1) (by omega)).trans hr2.out); have hr8 := Lib.hid ((hbS2.out.block w.heap.size (by omega)).trans hr3.out); replace o2 := Lib.hid o2; replace p2 := Lib.hid p2; replace b2 := Lib.hid b2))
  all_goals
    obtain ⟨W3, hW3⟩ : ∃ W3, W3 = ((W2.setCell ⟨w.heap.size, 3, none⟩ (.slice a1 q.ln c1)).setCell ⟨w.heap.size, 4, none⟩ (.slice a2 q.fn c2)) := ⟨_, rfl⟩
    have hg3 : W2.grownBy W3 (some w.heap.size) := by rw [hW3]; exact grown_again (cell_grown _ w.heap.size _ _) (cell_grown _ w.heap.size _ _)
    have hz3 := hg3.size
    have hs8 : W3.heap[w.heap.size]? = some (.cells #[.int .u8 v.kind, .int .i64 v.n, .string v.s, .slice a1 q.ln c1, .slice a2 q.fn c2, .int .u8 v.elem, .string v.key, .bool v.hk] 59 (0, 0)) := by rw [hW3]; exact blk_set (blk_set hr8.out 3 (.slice a1 q.ln c1)) 4 (.slice a2 q.fn c2)
    have hs9 : W3.heap[w.heap.size + 1]? = some (.cells #[.int .u8 0, .int .i64 0, .string ⟨#[]⟩, .slice none 0 0, .slice none 0 0, .int .u8 0, .string ⟨#[]⟩, .bool false] 59 (0, 0)) := (hg3.block (w.heap.size + 1) (by omega) (fun e => by injection e with e; omega)).trans hr9.out
    clear x0 x1 x2 x3 x4 x5 x6 x7 f3 f4
    have y0 : W3.cell? ⟨w.heap.size, 0, none⟩ = some (.int .u8 v.kind) := by simp [World.cell?, hs8]
    have y1 : W3.cell? ⟨w.heap.size, 1, none⟩ = some (.int .i64 v.n) := by simp [World.cell?, hs8]
    have y2 : W3.cell? ⟨w.heap.size, 2, none⟩ = some (.string v.s) := by simp [World.cell?, hs8]
    have y3 : W3.cell? ⟨w.heap.size, 3, none⟩ = some (.slice a1 q.ln c1) := by simp [World.cell?, hs8]
    have y4 : W3.cell? ⟨w.heap.size, 4, none⟩ = some (.slice a2 q.fn c2) := by simp [World.cell?, hs8]
    have y5 : W3.cell? ⟨w.heap.size, 5, none⟩ = some (.int .u8 v.elem) := by simp [World.cell?, hs8]
    have y6 : W3.cell? ⟨w.heap.size, 6, none⟩ = some (.string v.key) := by simp [World.cell?, hs8]
    have y7 : W3.cell? ⟨w.heap.size, 7, none⟩ = some (.bool v.hk) := by simp [World.cell?, hs8]
    have r0 : W3.cell? ⟨w.heap.size + 1, 0, none⟩ = some (.int .u8 0) := by simp [World.cell?, hs9]
    have f0 : W3.frozen? ⟨w.heap.size + 1, 0, none⟩ = false := by simp [World.frozen?, hs9]
    have r1 : W3.cell? ⟨w.heap.size + 1, 1, none⟩ = some (.int .i64 0) := by simp [World.cell?, hs9]
    have f1 : W3.frozen? ⟨w.heap.size + 1, 1, none⟩ = false := by simp [World.frozen?, hs9]
    have r2 : W3.cell? ⟨w.heap.size + 1, 2, none⟩ = some (.string ⟨#[]⟩) := by simp [World.cell?, hs9]
    have f2 : W3.frozen? ⟨w.heap.size + 1, 2, none⟩ = false := by simp [World.frozen?, hs9]
    have r3 : W3.cell? ⟨w.heap.size + 1, 3, none⟩ = some (.slice none 0 0) := by simp [World.cell?, hs9]
    have f3 : W3.frozen? ⟨w.heap.size + 1, 3, none⟩ = false := by simp [World.frozen?, hs9]
    have r4 : W3.cell? ⟨w.heap.size + 1, 4, none⟩ = some (.slice none 0 0) := by simp [World.cell?, hs9]
    have f4 : W3.frozen? ⟨w.heap.size + 1, 4, none⟩ = false := by simp [World.frozen?, hs9]
    have r5 : W3.cell? ⟨w.heap.size + 1, 5, none⟩ = some (.int .u8 0) := by simp [World.cell?, hs9]
    have f5 : W3.frozen? ⟨w.heap.size + 1, 5, none⟩ = false := by simp [World.frozen?, hs9]
    have r6 : W3.cell? ⟨w.heap.size + 1, 6, none⟩ = some (.string ⟨#[]⟩) := by simp [World.cell?, hs9]
    have f6 : W3.frozen? ⟨w.heap.size + 1, 6, none⟩ = false := by simp [World.frozen?, hs9]
    have r7 : W3.cell? ⟨w.heap.size + 1, 7, none⟩ = some (.bool false) := by simp [World.cell?, hs9]
    have f7 : W3.frozen? ⟨w.heap.size + 1, 7, none⟩ = false := by simp [World.frozen?, hs9]
    have hg5 : Hid (((((((((W3.setCell ⟨w.heap.size + 1, 0, none⟩ (.int .u8 v.kind)).setCell ⟨w.heap.size + 1, 1, none⟩ (.int .i64 v.n)).setCell ⟨w.heap.size + 1, 2, none⟩ (.string v.s)).setCell ⟨w.heap.size + 1, 3, none⟩ (.slice a1 q.ln c1)).setCell ⟨w.heap.size + 1, 4, none⟩ (.slice a2 q.fn c2)).setCell ⟨w.heap.size + 1, 5, none⟩ (.int .u8 v.elem)).setCell ⟨w.heap.size + 1, 6, none⟩ (.string v.key)).setCell ⟨w.heap.size + 1, 7, none⟩ (.bool v.hk)).heap[w.heap.size + 1]? = some (.cells #[.int .u8 v.kind, .int .i64 v.n, .string v.s, .slice a1 q.ln c1, .slice a2 q.fn c2, .int .u8 v.elem, .string v.key, .bool v.hk] 59 (0, 0))) := set8_row hs9 _ _ _ _ _ _ _ _
    have hgr : W3.grownBy ((((((((W3.setCell ⟨w.heap.size + 1, 0, none⟩ (.int .u8 v.kind)).setCell ⟨w.heap.size + 1, 1, none⟩ (.int .i64 v.n)).setCell ⟨w.heap.size + 1, 2, none⟩ (.string v.s)).setCell ⟨w.heap.size + 1, 3, none⟩ (.slice a1 q.ln c1)).setCell ⟨w.heap.size + 1, 4, none⟩ (.slice a2 q.fn c2)).setCell ⟨w.heap.size + 1, 5, none⟩ (.int .u8 v.elem)).setCell ⟨w.heap.size + 1, 6, none⟩ (.string v.key)).setCell ⟨w.heap.size + 1, 7, none⟩ (.bool v.hk)) (some (w.heap.size + 1)) := set8_grown W3 (w.heap.size + 1) _ _ _ _ _ _ _ _
    have oL := (((o1.out.base (show w.heap.size ≤ S.drew.heap.size from hbS.out.size)).later b2.out).kept hg3 (fun r hr k hk e => by
      have h5 : S.heap.size ≤ k := (o1.out.within r hr k hk).1
      injection e with e; omega)).kept hgr (fun r hr k hk e => by
      have h5 : S.heap.size ≤ k := (o1.out.within r hr k hk).1
      injection e with e; omega)
    have oF := ((o2.out.base (show w.heap.size ≤ W1.heap.size by omega)).kept hg3 (fun r hr k hk e => by
      have h5 : W1.heap.size ≤ k := (o2.out.within r hr k hk).1
      injection e with e; omega)).kept hgr (fun r hr k hk e => by
      have h5 : W1.heap.size ≤ k := (o2.out.within r hr k hk).1
      injection e with e; omega)
    have hfin : Hid (OneOwnV v w (.returned (.agg #[.int .u8 v.kind, .int .i64 v.n, .string v.s, .slice a1 q.ln c1, .slice a2 q.fn c2, .int .u8 v.elem, .string v.key, .bool v.hk])) ((((((((W3.setCell ⟨w.heap.size + 1, 0, none⟩ (.int .u8 v.kind)).setCell ⟨w.heap.size + 1, 1, none⟩ (.int .i64 v.n)).setCell ⟨w.heap.size + 1, 2, none⟩ (.string v.s)).setCell ⟨w.heap.size + 1, 3, none⟩ (.slice a1 q.ln c1)).setCell ⟨w.heap.size + 1, 4, none⟩ (.slice a2 q.fn c2)).setCell ⟨w.heap.size + 1, 5, none⟩ (.int .u8 v.elem)).setCell ⟨w.heap.size + 1, 6, none⟩ (.string v.key)).setCell ⟨w.heap.size + 1, 7, none⟩ (.bool v.hk))) :=
      ⟨⟨a1, q.ln, c1, a2, q.fn, c2⟩, R1 ++ R2, rfl, Own.val (q := ⟨a1, q.ln, c1, a2, q.fn, c2⟩) h1.out oL oF, p1.out.append p2.out o1.out.within o2.out.within, ((hbS.out.trans (hbS2.out.mono hbS.out.size)).grown hg3 (by omega) (fun k hk => by injection hk with hk; omega)).grown hgr (by omega) (fun k hk => by injection hk with hk; omega)⟩
    replace hW3 := Lib.hid hW3
    replace hs8 := Lib.hid hs8
    replace hs9 := Lib.hid hs9
    clear hgr oL oF hg3
    rw [← hW3.out]
    go_wp2_with fail
    exact bodyPost_ret (results_cell1 (fn := Tryz.f17) (p := 2) (ty := 59) (by kernel_rfl) _ _ _ _ _ _ _ rfl hg5.out Tryz.underlying59 rfl size_val) rfl hfin.out
theorem copyV_any (v : Val) : CopyV v := Val.ind (fun _ _ _ _ _ _ _ _ hL hF => copyV_of _ hL (fun f hf => copyF_of f (hF f hf))) v
theorem copyF_any (v : Fld) : CopyF v := copyF_of v (copyV_any _)
end Go.Proofs.YtehcbicngbibgaaGreatDoor
