/- A list of trees that is made one by one, each in memory of its own. -/
import Derived.Test.YtehcbicngbibgaaGreatDoorZSz
import Derived.Maps.AppendAt
import Derived.Laws.MakeOwn
namespace Go.Proofs.YtehcbicngbibgaaGreatDoor
open Go Go.RowKit

theorem flat_len {cc : Nat → List Value} {K : Nat} : ∀ {n : Nat}, (∀ i, i < n → (cc i).length = K) → ((List.range n).flatMap cc).length = n * K
  | 0, _ => by simp
  | n + 1, h => by
    rw [List.range_succ, List.flatMap_append, List.length_append, flat_len (fun i hi => h i (by omega))]
    simp [h n (by omega), Nat.add_mul]
theorem flat_get {cc : Nat → List Value} {K : Nat} : ∀ {n : Nat}, (∀ i, i < n → (cc i).length = K) → ∀ i j, i < n → j < K → ((List.range n).flatMap cc)[i * K + j]? = (cc i)[j]?
  | 0, _, i, j, hi, _ => by omega
  | n + 1, h, i, j, hi, hj => by
    have hl := flat_len (fun i hi => h i (show i < n + 1 by omega) : ∀ i, i < n → (cc i).length = K)
    rw [List.range_succ, List.flatMap_append]
    rcases Nat.lt_succ_iff_lt_or_eq.1 hi with hi | rfl
    · have hlt : i * K + j < n * K := by
        have : (i + 1) * K ≤ n * K := Nat.mul_le_mul_right K hi
        rw [Nat.add_mul] at this; omega
      rw [List.getElem?_append_left (by omega)]
      exact flat_get (fun i hi => h i (by omega)) i j hi hj
    · rw [List.getElem?_append_right (by omega), hl]
      simp
theorem flat_congr {α : Type} {f g : Nat → List α} {n : Nat} (h : ∀ i, i < n → f i = g i) : (List.range n).flatMap f = (List.range n).flatMap g := by
  rw [List.flatMap_def, List.flatMap_def, List.map_congr_left fun i hi => h i (List.mem_range.1 hi)]

/-- The first k of the trees es lie in v, from block base on. -/
def Grows (base : Nat) (wr : World) (m : Mode) (mk : Nat → List Value) (E K : Nat) (es : List T) (k : Nat) (v : Value) : Prop :=
  base ≤ wr.heap.size ∧ ∃ (cc : Nat → List Value) (RR : Nat → List Row), (∀ i, i < k → (cc i).length = K) ∧ wr.ownsRow base E K v k ((List.range k).flatMap cc) ∧
    (∀ (i : Nat) (h : i < es.length), i < k → Own wr base m mk es[i] (cc i) (RR i)) ∧ Apart (((List.range k).flatMap RR) ++ [⟨E, K, v, k⟩])
theorem Grows.start {base : Nat} {wr : World} {m : Mode} {mk : Nat → List Value} {E K : Nat} {es : List T} {v : Value} (hb : base ≤ wr.heap.size) (ho : wr.ownsRow base E K v 0 []) : Grows base wr m mk E K es 0 v :=
  ⟨hb, fun _ => [], fun _ => [], fun i hi => by omega, ho, fun i _ hi => by omega, by simp [Apart]⟩
theorem apart_last {R : List Row} {a : Row} (h : Apart (R ++ [a])) : Apart R ∧ ∀ r ∈ R, ∀ k, r.v.ownBlock = some k → a.v.ownBlock ≠ some k := by
  unfold Apart at h
  rw [List.pairwise_append] at h
  exact ⟨h.1, fun r hr => h.2.2 r hr a (by simp)⟩
/-- What is written below base leaves it. -/
theorem Grows.kept {base : Nat} {w w' : World} {m : Mode} {mk : Nat → List Value} {E K : Nat} {es : List T} {k : Nat} {v : Value} {row : Option Nat} (h : Grows base w m mk E K es k v) (hg : w.grownBy w' row) (hrow : ∀ q, row = some q → q < base) (hlow : ∀ lo, m.sh = some lo → ∀ q, row = some q → lo ≤ q := by intro _ h; cases h) : Grows base w' m mk E K es k v := by
  obtain ⟨hb, cc, RR, hcc, hown, helt, hap⟩ := h
  refine ⟨Nat.le_trans hb hg.size, cc, RR, hcc, hown.kept hg ?_, fun i h hi => (helt i h hi).kept hg (fun r hr q hq e => ?_) hlow, hap⟩
  · cases e : v.ownBlock with
    | none => exact .inl rfl
    | some q => exact .inr (fun e2 => by have := (hown.lt q e).1; have := hrow q e2.symm; omega)
  · have := ((helt i h hi).within r hr q hq).1
    have := hrow q e; omega
theorem grows_step {base : Nat} {wr w1 w2 : World} {m : Mode} {mk : Nat → List Value} {E K : Nat} {es : List T} {k : Nat} {v v' : Value} {cc : Nat → List Value} {RR : Nat → List Row} {cs : List Value} {R : List Row}
    (hz : base ≤ wr.heap.size) (hcc : ∀ i, i < k → (cc i).length = K) (hown : wr.ownsRow base E K v k ((List.range k).flatMap cc)) (helt : ∀ (i : Nat) (h : i < es.length), i < k → Own wr base m mk es[i] (cc i) (RR i))
    (hap : Apart (((List.range k).flatMap RR) ++ [⟨E, K, v, k⟩])) (hk : k < es.length) (h1 : Below wr.heap.size wr w1) (ho : Own w1 wr.heap.size m mk es[k] cs R) (hR : Apart R) (hcs : cs.length = K) (o : Obj)
    (hg : (w1.alloc o).grownBy w2 v.ownBlock) (hl : v'.ownBlock = v.ownBlock ∨ v'.ownBlock = some (w1.heap.size + 1)) (hown2 : w2.ownsRow base E K v' (k + 1) ((List.range k).flatMap cc ++ cs))
    (hlow : ∀ lo, m.sh = some lo → lo ≤ base := by intro _ h; cases h) : Grows base w2 m mk E K es (k + 1) v' := by
  obtain ⟨hap1, hap2⟩ := apart_last hap
  have hz1 := h1.size
  have hza : (w1.alloc o).heap.size = w1.heap.size + 1 := by simp
  have hal : Below w1.heap.size w1 (w1.alloc o) := (Below.refl _ _).alloc (Nat.le_refl _) _
  have hvlt := hown.lt
  have hlow' : ∀ lo, m.sh = some lo → ∀ q, v.ownBlock = some q → lo ≤ q := fun lo h q hq => Nat.le_trans (hlow lo h) (hvlt q hq).1
  have hin : Within base wr.heap.size ((List.range k).flatMap RR) := fun r hr => by
    obtain ⟨i, hi, hr⟩ := List.mem_flatMap.1 hr
    have hi' : i < k := by simpa using hi
    exact (helt i (by omega) hi').within r hr
  have hRin := ho.within
  have hsame : ∀ i, i < k → (if i < k then cc i else cs) = cc i := fun i hi => if_pos hi
  have hsameR : ∀ i, i < k → (if i < k then RR i else R) = RR i := fun i hi => if_pos hi
  have hgz := hg.size
  refine ⟨by omega, fun i => if i < k then cc i else cs, fun i => if i < k then RR i else R, fun i hi => ?_, ?_, fun i h hi => ?_, ?_⟩
  · show (if i < k then cc i else cs).length = K
    by_cases e : i < k
    · rw [if_pos e]; exact hcc i e
    · rw [if_neg e]; exact hcs
  · rw [List.range_succ, List.flatMap_append, flat_congr hsame]
    simpa using hown2
  · show Own w2 base m mk es[i] (if i < k then cc i else cs) (if i < k then RR i else R)
    by_cases e : i < k
    · rw [if_pos e, if_pos e]
      refine (((helt i h e).later h1).later hal).kept hg (fun r hr q hq => ?_) hlow'
      exact hap2 r (List.mem_flatMap.2 ⟨i, by simpa using e, hr⟩) q hq
    · obtain rfl : i = k := by omega
      rw [if_neg e, if_neg e]
      refine ((ho.base hz).later hal).kept hg (fun r hr q hq e2 => ?_) hlow'
      have := (hRin r hr q hq).1
      have := (hvlt q e2).2
      omega
  · rw [List.range_succ, List.flatMap_append, flat_congr hsameR]
    simp only [List.flatMap_cons, List.flatMap_nil, List.append_nil, Nat.lt_irrefl, if_false]
    unfold Apart
    rw [List.pairwise_append, List.pairwise_append]
    refine ⟨⟨hap1, hR, fun x hx y hy q hq e => ?_⟩, List.pairwise_singleton _ _, fun x hx y hy q hq e => ?_⟩
    · have := (hin x hx q hq).2; have := (hRin y hy q e).1; omega
    · simp at hy; subst hy
      rcases List.mem_append.1 hx with hx | hx
      · rcases hl with hl | hl
        · exact hap2 x hx q hq (hl.symm.trans e)
        · have := (hin x hx q hq).2
          have e3 : some q = some (w1.heap.size + 1) := e.symm.trans hl
          injection e3 with e3; omega
      · have h5 := hRin x hx q hq
        rcases hl with hl | hl
        · have := (hvlt q (hl.symm.trans e)).2; omega
        · have e3 : some q = some (w1.heap.size + 1) := e.symm.trans hl
          injection e3 with e3; omega
/-- .. and what was there ahead stays. -/
def Grow (w wr : World) (m : Mode) (mk : Nat → List Value) (E K : Nat) (es : List T) (k : Nat) (v : Value) : Prop := Below w.heap.size w wr ∧ Grows w.heap.size wr m mk E K es k v
theorem Grow.start {w wr : World} {m : Mode} {mk : Nat → List Value} {E K : Nat} {es : List T} {v : Value} (hb : Below w.heap.size w wr) (ho : wr.ownsRow w.heap.size E K v 0 []) : Grow w wr m mk E K es 0 v := ⟨hb, Grows.start hb.size ho⟩
theorem grow_step {w wr w1 w2 : World} {m : Mode} {mk : Nat → List Value} {E K : Nat} {es : List T} {k : Nat} {v v' : Value} {cc : Nat → List Value} {RR : Nat → List Row} {cs : List Value} {R : List Row}
    (hb : Below w.heap.size w wr) (hcc : ∀ i, i < k → (cc i).length = K) (hown : wr.ownsRow w.heap.size E K v k ((List.range k).flatMap cc)) (helt : ∀ (i : Nat) (h : i < es.length), i < k → Own wr w.heap.size m mk es[i] (cc i) (RR i))
    (hap : Apart (((List.range k).flatMap RR) ++ [⟨E, K, v, k⟩])) (hk : k < es.length) (h1 : Below wr.heap.size wr w1) (ho : Own w1 wr.heap.size m mk es[k] cs R) (hR : Apart R) (hcs : cs.length = K) (o : Obj)
    (hg : (w1.alloc o).grownBy w2 v.ownBlock) (hl : v'.ownBlock = v.ownBlock ∨ v'.ownBlock = some (w1.heap.size + 1)) (hown2 : w2.ownsRow w.heap.size E K v' (k + 1) ((List.range k).flatMap cc ++ cs))
    (hlow : ∀ lo, m.sh = some lo → lo ≤ w.heap.size := by intro _ h; cases h) : Grow w w2 m mk E K es (k + 1) v' := by
  have hz := hb.size
  have hz1 := h1.size
  have hza : (w1.alloc o).heap.size = w1.heap.size + 1 := by simp
  have hal : Below w1.heap.size w1 (w1.alloc o) := (Below.refl _ _).alloc (Nat.le_refl _) _
  have hvlt := hown.lt
  exact ⟨((hb.trans (h1.mono hz)).trans (hal.mono (by omega))).grown hg (by omega) (fun q hq => (hvlt q hq).1), grows_step hz hcc hown helt hap hk h1 ho hR hcs o hg hl hown2 hlow⟩
/-- All of them, without a mark behind. -/
theorem Grows.done {base : Nat} {wr : World} {m : Mode} {mk : Nat → List Value} {E K : Nat} {es : List T} {v : Value} (h : Grows base wr m mk E K es es.length v) (hm : m.sp = false) (hn : es.length ≤ 1152921504606846976) : ∃ R, Own wr base m mk (.lst E K es) [v] R ∧ Apart R := by
  obtain ⟨_, cc, RR, hcc, hown, helt, hap⟩ := h
  exact ⟨_, .lst E K v es _ cc RR hn hown (fun i hi => ⟨hcc i hi, fun j hj => flat_get hcc i j hi hj⟩) (fun i hi => helt i hi hi) (fun h => by rw [hm] at h; cases h), hap⟩
theorem ownsRow_cut {w : World} {base e size g n cap : Nat} {xs ys : List Value} (h : w.ownsRow base e size (.slice (some ⟨g, 0, none⟩) (n + 1) cap) (n + 1) (xs ++ ys)) (hx : xs.length = n * size) : w.ownsRow base e size (.slice (some ⟨g, 0, none⟩) n cap) n xs := by
  refine ⟨hx, .inr ?_⟩
  rcases h.2 with ⟨h0, _⟩ | ⟨g', cap', cur, e1, e2, e3, e4, e5, e6, e7⟩
  · simp at h0
  · injection e1 with a1 _ a3
    injection a1 with a1
    injection a1 with a1
    subst a1 a3
    refine ⟨g, cap, cur, rfl, e2, e3, by omega, e5, e6, ?_⟩
    have : (cur.toList.take ((n + 1) * size)).take (n * size) = (xs ++ ys).take (n * size) := by rw [e7]
    rw [List.take_take, Nat.min_eq_left (Nat.mul_le_mul_right size (Nat.le_succ n))] at this
    rw [this, ← hx, List.take_left']
    rfl
theorem ownsRow_cap {w : World} {base e size g n cap : Nat} {xs : List Value} (h : w.ownsRow base e size (.slice (some ⟨g, 0, none⟩) n cap) n xs) : n ≤ cap ∧ cap ≤ maxLen := by
  rcases h.2 with ⟨h0, _⟩ | ⟨g', cap', cur, e1, _, _, e4, e5, _⟩
  · simp at h0
  · injection e1 with _ _ a3
    omega
/-- All of them, a mark put behind, and cut off. -/
theorem grow_mark {w wr w2 : World} {mk : Nat → List Value} {E K g cap : Nat} {es : List T} {v : Value} {cc : Nat → List Value} {RR : Nat → List Row}
    (hb : Below w.heap.size w wr) (hcc : ∀ i, i < es.length → (cc i).length = K) (hown : wr.ownsRow w.heap.size E K v es.length ((List.range es.length).flatMap cc)) (helt : ∀ (i : Nat) (h : i < es.length), i < es.length → Own wr w.heap.size twinM mk es[i] (cc i) (RR i))
    (hap : Apart (((List.range es.length).flatMap RR) ++ [⟨E, K, v, es.length⟩])) (o : Obj) (hmk : (mk E).length = K) (hn : es.length ≤ 1152921504606846976)
    (hg : (wr.alloc o).grownBy w2 v.ownBlock) (hl : (Value.slice (some ⟨g, 0, none⟩) (es.length + 1) cap).ownBlock = v.ownBlock ∨ (Value.slice (some ⟨g, 0, none⟩) (es.length + 1) cap).ownBlock = some (wr.heap.size + 1))
    (hown2 : w2.ownsRow w.heap.size E K (.slice (some ⟨g, 0, none⟩) (es.length + 1) cap) (es.length + 1) ((List.range es.length).flatMap cc ++ mk E)) :
    ∃ R, Own w2 w.heap.size twinM mk (.lst E K es) [.slice (some ⟨g, 0, none⟩) es.length cap] R ∧ Apart R ∧ Below w.heap.size w w2 := by
  obtain ⟨hap1, hap2⟩ := apart_last hap
  have hz := hb.size
  have hza : (wr.alloc o).heap.size = wr.heap.size + 1 := by simp
  have hal : Below wr.heap.size wr (wr.alloc o) := (Below.refl _ _).alloc (Nat.le_refl _) _
  have hvlt := hown.lt
  have hin : Within w.heap.size wr.heap.size ((List.range es.length).flatMap RR) := fun r hr => by
    obtain ⟨i, hi, hr⟩ := List.mem_flatMap.1 hr
    have hi' : i < es.length := by simpa using hi
    exact (helt i hi' hi').within r hr
  have hfl := flat_len hcc
  refine ⟨_, .lst E K (.slice (some ⟨g, 0, none⟩) es.length cap) es _ cc RR hn (ownsRow_cut hown2 hfl) (fun i hi => ⟨hcc i hi, fun j hj => flat_get hcc i j hi hj⟩) (fun i hi => ?_) (fun _ => ⟨g, cap, rfl, ?_, hmk, fun j hj => ?_⟩), ?_, ?_⟩
  · refine ((helt i hi hi).later hal).kept hg (fun r hr q hq => ?_)
    exact hap2 r (List.mem_flatMap.2 ⟨i, by simpa using hi, hr⟩) q hq
  · rcases hown2.2 with ⟨h0, _⟩ | ⟨g', cap', cur, e1, e2, e3, e4, _⟩
    · simp at h0
    · injection e1 with _ _ a3
      omega
  · rw [hown2.cellAt (es.length * K + j) (by rw [Nat.add_mul]; omega), List.getElem?_append_right (by omega), hfl]
    congr 1; omega
  · unfold Apart
    rw [List.pairwise_append]
    refine ⟨hap1, List.pairwise_singleton _ _, fun x hx y hy q hq e => ?_⟩
    simp at hy; subst hy
    have e' : (Value.slice (some ⟨g, 0, none⟩) (es.length + 1) cap).ownBlock = some q := e
    rcases hl with hl | hl
    · exact hap2 x hx q hq (hl.symm.trans e')
    · have := (hin x hx q hq).2
      have e3 : some q = some (wr.heap.size + 1) := e'.symm.trans hl
      injection e3 with e3; omega
  · exact (hb.trans (hal.mono (by omega))).grown hg (by omega) (fun q hq => (hvlt q hq).1)
end Go.Proofs.YtehcbicngbibgaaGreatDoor
