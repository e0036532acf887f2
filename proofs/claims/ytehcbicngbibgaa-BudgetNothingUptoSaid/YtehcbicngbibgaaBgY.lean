/- What Least says of a document and itself, of one and none: plain laws, then the contracts. -/
import Derived.Test.YtehcbicngbibgaaBgL
import Derived.Test.YtehcbicngbibgaaBgX
import Derived.Test.YtehcbicngbibgaaBgN
namespace Go.Proofs.Ytehcbicngbibgaa
open Go Go.RowKit Go.Maps

theorem seek_self {S : List Seat} (hn : (ids S).Nodup) {s : Seat} (hs : s ∈ S) : seek S s.id = some s := by
  induction S with
  | nil => cases hs
  | cons x S ih =>
    unfold ids at hn ih
    rw [List.map_cons, List.nodup_cons] at hn
    unfold seek
    rw [List.find?_cons]
    rcases List.mem_cons.1 hs with rfl | h
    · simp
    · have : (x.id == s.id) = false := by
        simp; intro e; exact hn.1 (by rw [e]; exact List.mem_map_of_mem h)
      rw [this]
      exact ih hn.2 h
/-- A seat's row is the list's, or a number in it. -/
theorem rows_in {w : World} {B : Nat} {v : Value} {row : Int} {S : List Seat} (h : Flat w B v row S) : ∀ s ∈ S, s.row = row ∨ s.row ∈ ids S := by
  induction h with
  | mk ao b o n cap row N F hn hao hc hrow hk ih =>
    intro s hs
    obtain ⟨i, hi, hs⟩ := List.mem_flatMap.1 hs
    have hi' := List.mem_range.1 hi
    rcases List.mem_cons.1 hs with rfl | hs
    · exact .inl (hrow i hi').1
    · have sub : ∀ x ∈ N i :: F i, x.id ∈ ids ((List.range n).flatMap fun i => N i :: F i) := fun x hx => List.mem_map_of_mem (List.mem_flatMap.2 ⟨i, hi, hx⟩)
      rcases ih i hi' s hs with e | e
      · rw [e]; exact .inr (sub _ (List.mem_cons_self ..))
      · obtain ⟨t, ht, e⟩ := List.mem_map.1 e
        rw [← e]; exact .inr (sub t (List.mem_cons_of_mem _ ht))
theorem Flat.goods {w : World} {B : Nat} {v : Value} {row : Int} {S : List Seat} (h : Flat w B v row S) : ∀ s ∈ S, s.good := by
  induction h with
  | mk ao b o n cap row N F hn hao hc hrow hk ih =>
    intro s hs
    obtain ⟨i, hi, hs⟩ := List.mem_flatMap.1 hs
    have hi' := List.mem_range.1 hi
    rcases List.mem_cons.1 hs with rfl | hs
    · exact (hrow i hi').2.2
    · exact ih i hi' s hs
theorem ids_flat (n : Nat) (N : Nat → Seat) (F : Nat → List Seat) : ids ((List.range n).flatMap fun i => N i :: F i) = (List.range n).flatMap fun i => ids (N i :: F i) := by
  unfold ids; rw [List.map_flatMap]
theorem nodup_parts {n : Nat} {N : Nat → Seat} {F : Nat → List Seat} (h : (ids ((List.range n).flatMap fun i => N i :: F i)).Nodup) :
    (∀ i, i < n → (ids (N i :: F i)).Nodup) ∧ ∀ i j, i < j → j < n → ∀ x, x ∈ ids (N i :: F i) → x ∈ ids (N j :: F j) → False := by
  rw [ids_flat, List.nodup_iff_pairwise_ne, List.pairwise_flatMap] at h
  refine ⟨fun i hi => List.nodup_iff_pairwise_ne.2 (h.1 i (List.mem_range.2 hi)), fun i j hij hj x h1 h2 => ?_⟩
  have h3 := List.pairwise_iff_getElem.1 h.2 i j (by simp; omega) (by simpa using hj) hij
  simp only [List.getElem_range] at h3
  exact h3 x h1 x h2 rfl
/-- Of one row, the places rise. -/
theorem rows_rise {w : World} {B : Nat} {v : Value} {row : Int} {S : List Seat} (h : Flat w B v row S) : (ids S).Nodup → row ∉ ids S → S.Pairwise (fun s t => s.row = t.row → s.pos < t.pos) := by
  induction h with
  | mk ao b o n cap row N F hn hao hc hrow hk ih =>
    intro hnd hro
    obtain ⟨d1, d2⟩ := nodup_parts hnd
    have sub : ∀ i, i < n → ∀ x ∈ ids (N i :: F i), x ∈ ids ((List.range n).flatMap fun i => N i :: F i) := fun i hi x hx => by
      rw [ids_flat]; exact List.mem_flatMap.2 ⟨i, List.mem_range.2 hi, hx⟩
    have low : ∀ i, i < n → ∀ x ∈ F i, x.row ∈ ids (N i :: F i) := fun i hi x hx => by
      rcases rows_in (hk i hi) x hx with e | e
      · rw [e]; exact List.mem_map_of_mem (List.mem_cons_self ..)
      · obtain ⟨t, ht, e⟩ := List.mem_map.1 e
        rw [← e]; exact List.mem_map_of_mem (List.mem_cons_of_mem _ ht)
    rw [List.pairwise_flatMap]
    constructor
    · intro i hi
      have hi' := List.mem_range.1 hi
      have hd := d1 i hi'
      rw [List.pairwise_cons]
      refine ⟨fun t ht e => ?_, ih i hi' ?_ ?_⟩
      · exfalso
        have h1 := low i hi' t ht
        rw [← e, (hrow i hi').1] at h1
        exact hro (sub i hi' _ h1)
      · exact (List.nodup_cons.1 (show ((N i).id :: ids (F i)).Nodup from hd)).2
      · exact (List.nodup_cons.1 (show ((N i).id :: ids (F i)).Nodup from hd)).1
    · rw [List.pairwise_iff_getElem]
      intro i j hi hj hij x hx y hy e
      simp only [List.getElem_range] at hx hy
      simp at hi hj
      rcases List.mem_cons.1 hx with rfl | hx <;> rcases List.mem_cons.1 hy with rfl | hy
      · rw [(hrow i hi).2.1, (hrow j hj).2.1]; exact hij
      · exfalso
        have h1 := low j hj y hy
        rw [← e, (hrow i hi).1] at h1
        exact hro (sub j hj _ h1)
      · exfalso
        have h1 := low i hi x hx
        rw [e, (hrow j hj).1] at h1
        exact hro (sub i hi _ h1)
      · exfalso
        have h1 := low i hi x hx
        rw [e] at h1
        exact d2 i j hij hj _ h1 (low j hj y hy)
theorem rowsOf_self {S : List Seat} (hn : (ids S).Nodup) (r : Int) : rowsOf S S r = (S.filter fun s => decide (s.row = r)).map fun s => (s.pos : Int) := by
  unfold rowsOf
  have : ∀ T : List Seat, (∀ s ∈ T, s ∈ S) → (T.filterMap fun s => if s.row = r then rowItem S s else none) = (T.filter fun s => decide (s.row = r)).map fun s => (s.pos : Int) := by
    intro T
    induction T with
    | nil => intro _; rfl
    | cons x T ih =>
      intro h
      have hx : rowItem S x = some (x.pos : Int) := by unfold rowItem; rw [seek_self hn (h x (List.mem_cons_self ..))]; simp
      have ih' := ih (fun s hs => h s (List.mem_cons_of_mem _ hs))
      by_cases e : x.row = r
      · simp [e, hx, ih']
      · simp [e, ih']
  exact this S (fun _ h => h)
theorem patL_sorted (xs : List Int) : Sorted xs → patL xs = xs := by
  induction xs using snoc_ind with
  | nil => intro _; rfl
  | snoc l x ih =>
    intro h
    unfold Sorted at h
    rw [List.pairwise_append] at h
    rw [patL_snoc, ih h.1]
    have : pidx l x = l.length := by
      unfold pidx
      rw [List.findIdx_eq_length]
      intro y hy
      have := h.2.2 y hy x (by simp)
      simp; omega
    unfold pstep
    rw [this]; simp
theorem delta_self {w : World} {B : Nat} {v : Value} {row : Int} {S : List Seat} (h : Flat w B v row S) (hn : (ids S).Nodup) (hr : row ∉ ids S) (r : Int) : delta (rowsOf S S r) = 0 := by
  unfold delta
  rw [patL_sorted, Int.sub_self]
  unfold Sorted
  rw [rowsOf_self hn, List.pairwise_map]
  refine ((rows_rise h hn hr).filter (fun s => decide (s.row = r))).imp_of_mem (fun {a b} ha hb hab => ?_)
  have h1 := (List.mem_filter.1 ha).2
  have h2 := (List.mem_filter.1 hb).2
  simp at h1 h2
  have := hab (h1.trans h2.symm)
  omega
theorem filter_none {α : Type} (p : α → Bool) (l : List α) (h : ∀ a ∈ l, p a = false) : (l.filter p).length = 0 := by
  rw [List.length_eq_zero_iff, List.filter_eq_nil_iff]
  intro a ha
  rw [h a ha]; exact Bool.false_ne_true
theorem made_self {S : List Seat} (hn : (ids S).Nodup) : made S S = 0 := filter_none _ _ fun s hs => by rw [seek_self hn hs]; rfl
theorem moved_self {S : List Seat} (hn : (ids S).Nodup) : moved S S = 0 := filter_none _ _ fun s hs => by rw [seek_self hn hs]; simp
theorem gone_self {S : List Seat} (hn : (ids S).Nodup) : gone S S = 0 := filter_none _ _ fun s hs => by rw [seek_self hn hs]; simp
theorem zero_sum {α : Type} : ∀ S : List α, (S.map fun _ => (0 : Nat)).sum = 0
  | [] => rfl
  | _ :: S => by rw [List.map_cons, List.sum_cons, zero_sum S]
theorem att_self {S : List Seat} (hn : (ids S).Nodup) : att S S = 0 := by
  unfold att
  have : (S.map fun s => if s.tag.toList = [] ∨ (seek S s.id).isSome then 0 else s.an) = S.map fun _ => 0 := List.map_congr_left fun s hs => by
    rw [seek_self hn hs]; simp
  rw [this]
  exact zero_sum S
theorem att_le (A S : List Seat) : att A S ≤ (S.map fun s => 1 + s.an).sum := by
  unfold att
  induction S with
  | nil => simp
  | cons x S ih =>
    simp only [List.map_cons, List.sum_cons]
    split <;> omega
theorem len_le (S : List Seat) : S.length ≤ (S.map fun s => 1 + s.an).sum := by
  induction S with
  | nil => simp
  | cons x S ih => simp only [List.map_cons, List.sum_cons, List.length_cons]; omega
theorem filter_all {α : Type} (p : α → Bool) (l : List α) (h : ∀ a ∈ l, p a = true) : (l.filter p).length = l.length := by
  rw [List.filter_eq_self.2 h]
theorem made_nil (S : List Seat) : made [] S = S.length := filter_all _ _ fun _ _ => rfl
theorem moved_nil (S : List Seat) : moved [] S = 0 := filter_none _ _ fun _ _ => rfl
theorem rowsOf_nil (S : List Seat) (r : Int) : rowsOf [] S r = [] := by
  unfold rowsOf
  rw [List.filterMap_eq_nil_iff]
  intro s _
  split <;> rfl
theorem gone_nil {w : World} {B : Nat} {ao : Option Addr} {n cap : Nat} {S : List Seat} (h : Flat w B (.slice ao n cap) 0 S) (hg : ∀ s ∈ S, 1 ≤ s.id) : gone [] S = n := by
  generalize hv : Value.slice ao n cap = v at h
  generalize hz : (0 : Int) = z at h
  cases h with
  | mk ao' b o n' cap' row N F hn hao hc hrow hk =>
    injection hv with e1 e2 e3
    subst e1 e2 e3 hz
    have key : ∀ m, m ≤ n → gone [] ((List.range m).flatMap fun i => N i :: F i) = m := by
      intro m
      induction m with
      | zero => intro _; rfl
      | succ m ih =>
        intro hm
        have ih' := ih (by omega)
        unfold gone at ih' ⊢
        rw [List.range_succ, List.flatMap_append, List.filter_append, List.length_append, ih']
        simp only [List.flatMap_cons, List.flatMap_nil, List.append_nil]
        rw [List.filter_cons]
        have h0 : ((F m).filter fun s => (seek [] s.id).isNone && (s.row == 0 || (seek [] s.row).isSome)).length = 0 := by
          refine filter_none _ _ fun s hs => ?_
          have hge : 1 ≤ s.row := by
            have mem : ∀ x ∈ N m :: F m, 1 ≤ x.id := fun x hx => hg x (List.mem_flatMap.2 ⟨m, List.mem_range.2 (by omega), hx⟩)
            rcases rows_in (hk m (by omega)) s hs with e | e
            · rw [e]; exact mem _ (List.mem_cons_self ..)
            · obtain ⟨t, ht, e⟩ := List.mem_map.1 e
              rw [← e]; exact mem t (List.mem_cons_of_mem _ ht)
          have : (s.row == 0) = false := by simp; omega
          rw [this]; simp [seek]
        have h1 : ((seek [] (N m).id).isNone && ((N m).row == 0 || (seek [] (N m).row).isSome)) = true := by
          rw [(hrow m (by omega)).1]; simp [seek]
        rw [if_pos h1, List.length_cons, h0]
    exact key n (Nat.le_refl _)
theorem sum_zero {vis : List Int} {f : Int → Int} (h : ∀ r, f r = 0) : (vis.map f).sum = 0 := by
  induction vis with
  | nil => rfl
  | cons a l ih => simp [ih, h]

/-- What is asked of a document ahead of Least. -/
structure DocAt (w : World) (ao : Option Addr) (n cap : Nat) (S : List Seat) (AN : Seat → Nat → ByteArray) (AL : Seat → Nat → Val) : Prop where
  flat : Flat w w.heap.size (.slice ao n cap) 0 S
  nodup : (ids S).Nodup
  pos : ∀ s ∈ S, 1 ≤ s.id
  sum : (S.map fun s => 1 + s.an).sum ≤ 1048576
  fields : ∀ s ∈ S, FieldsAt w w.heap.size s.aa s.an (AN s) (AL s)
  names : ∀ s ∈ S, ∀ i j, i < j → j < s.an → (AN s i).toList ≠ (AN s j).toList
  vals : ∀ s ∈ S, ∀ i, i < s.an → Refl w w.heap.size (AL s i)
theorem DocAt.wfRow {w : World} {ao : Option Addr} {n cap : Nat} {S : List Seat} {AN : Seat → Nat → ByteArray} {AL : Seat → Nat → Val} (h : DocAt w ao n cap S AN AL) : ∀ s ∈ S, (Lit.int .i64 s.row).wf = true := fun s hs => by
  rcases rows_in h.flat s hs with e | e
  · rw [e]; rfl
  · obtain ⟨t, ht, e⟩ := List.mem_map.1 e
    rw [← e]; exact h.flat.goods t ht
theorem DocAt.zero_out {w : World} {ao : Option Addr} {n cap : Nat} {S : List Seat} {AN : Seat → Nat → ByteArray} {AL : Seat → Nat → Val} (h : DocAt w ao n cap S AN AL) : (0 : Int) ∉ ids S := fun e => by
  obtain ⟨t, ht, e⟩ := List.mem_map.1 e
  have := h.pos t ht
  omega
theorem Refl.kept {w w' : World} {B : Nat} {q : Val} (h : Refl w B q) (hb : Below B w w') : Refl w' B q := fun W h1 h2 => h W (hb.trans h1) h2
theorem Refl.mono {w : World} {B B' : Nat} {q : Val} (h : Refl w B q) (hB : B ≤ B') : Refl w B' q := fun W h1 h2 => h W (h1.mono hB) (Nat.le_trans hB h2)
theorem FieldsAt.mono {w : World} {B B' : Nat} {ao : Option Addr} {n : Nat} {N : Nat → ByteArray} {L : Nat → Val} (h : FieldsAt w B ao n N L) (hB : B ≤ B') : FieldsAt w B' ao n N L :=
  ⟨h.le, fun h0 => by
    obtain ⟨b, o, e1, e2, e3⟩ := h.at_ h0
    exact ⟨b, o, e1, Nat.lt_of_lt_of_le e2 hB, e3⟩⟩
theorem DocAt.kept {w w' : World} {ao : Option Addr} {n cap : Nat} {S : List Seat} {AN : Seat → Nat → ByteArray} {AL : Seat → Nat → Val} (h : DocAt w ao n cap S AN AL) (hb : Below w.heap.size w w') : DocAt w' ao n cap S AN AL :=
  ⟨(h.flat.kept hb).mono hb.size, h.nodup, h.pos, h.sum, fun s hs => ((h.fields s hs).kept hb).mono hb.size, h.names, fun s hs i hi => ((h.vals s hs i hi).kept hb).mono hb.size⟩

theorem least_self {w : World} {ao : Option Addr} {n cap : Nat} {S : List Seat} {AN : Seat → Nat → ByteArray} {AL : Seat → Nat → Val} (h : DocAt w ao n cap S AN AL) :
    Calls Try.prog 6 #[.slice ao n cap, .slice ao n cap] w fun e w' => e = .returned (.agg #[.int .i64 0, .int .i64 0, .int .i64 0, .int .i64 0, .int .i64 0]) ∧ Below w.heap.size w w' := by
  have hl : S.length ≤ 1048576 := Nat.le_trans (len_le S) h.sum
  refine (least2_any AN AL _ _ S S w h.flat h.flat h.nodup h.nodup hl hl h.flat.goods h.flat.goods h.wfRow h.wfRow h.fields h.names h.vals (by rw [att_self h.nodup]; omega) (fun s hs o ho => ?_)).mono fun e w' ⟨vis, hn, hm, he, hb⟩ => ⟨?_, hb⟩
  · rw [seek_self h.nodup hs] at ho; injection ho with ho; subst ho; exact ⟨rfl, rfl, rfl, rfl, rfl⟩
  · rw [he, made_self h.nodup, moved_self h.nodup, gone_self h.nodup, att_self h.nodup, sum_zero (fun r => delta_self h.flat h.nodup h.zero_out r)]
    rfl
theorem least_new {w : World} {ao : Option Addr} {n cap : Nat} {S : List Seat} {AN : Seat → Nat → ByteArray} {AL : Seat → Nat → Val} (h : DocAt w ao n cap S AN AL) :
    Calls Try.prog 6 #[.slice none 0 0, .slice ao n cap] w fun e w' => e = .returned (.agg #[.int .i64 (S.length : Nat), .int .i64 0, .int .i64 (att [] S : Nat), .int .i64 (S.length : Nat), .int .i64 0]) ∧ Below w.heap.size w w' := by
  have hl : S.length ≤ 1048576 := Nat.le_trans (len_le S) h.sum
  refine (least2_any AN AL _ _ [] S w (Flat.none w _ 0) h.flat (by simp) h.nodup (by simp) hl (by simp) h.flat.goods (by simp) h.wfRow h.fields h.names h.vals (by have := att_le [] S; have := h.sum; omega) (fun s hs o ho => by simp [seek] at ho)).mono fun e w' ⟨vis, hn, hm, he, hb⟩ => ⟨?_, hb⟩
  have hv : vis = [] := by
    cases vis with
    | nil => rfl
    | cons r l => exact absurd ((hm r).1 (by simp)) (by rw [rowsOf_nil]; simp)
  subst hv
  rw [he, made_nil, moved_nil]
  have : gone S [] = 0 := rfl
  rw [this]
  simp
theorem least_gone {w : World} {ao : Option Addr} {n cap : Nat} {S : List Seat} {AN : Seat → Nat → ByteArray} {AL : Seat → Nat → Val} (h : DocAt w ao n cap S AN AL) :
    Calls Try.prog 6 #[.slice ao n cap, .slice none 0 0] w fun e w' => e = .returned (.agg #[.int .i64 0, .int .i64 0, .int .i64 0, .int .i64 0, .int .i64 (n : Nat)]) ∧ Below w.heap.size w w' := by
  have hl : S.length ≤ 1048576 := Nat.le_trans (len_le S) h.sum
  refine (least2_any AN AL _ _ S [] w h.flat (Flat.none w _ 0) h.nodup (by simp) hl (by simp) h.flat.goods (by simp) h.wfRow (by simp) (by simp) (by simp) (by simp) (by simp [att]) (by simp)).mono fun e w' ⟨vis, hn, hm, he, hb⟩ => ⟨?_, hb⟩
  have hv : vis = [] := by
    cases vis with
    | nil => rfl
    | cons r l => exact absurd ((hm r).1 (by simp)) (by simp [rowsOf])
  subst hv
  rw [he, gone_nil h.flat h.pos]
  rfl
theorem least_none (w : World) :
    Calls Try.prog 6 #[.slice none 0 0, .slice none 0 0] w fun e w' => e = .returned (.agg #[.int .i64 0, .int .i64 0, .int .i64 0, .int .i64 0, .int .i64 0]) ∧ Below w.heap.size w w' := by
  refine (least_any _ _ [] [] w (Flat.none w _ 0) (Flat.none w _ 0) (by simp) (by simp) (by simp) (by simp) (by simp) (by simp) (by simp) (by simp) (by simp) (by simp) (by simp)).mono fun e w' ⟨vis, hn, hm, he, hb⟩ => ⟨?_, hb⟩
  have hv : vis = [] := by
    cases vis with
    | nil => rfl
    | cons r l => exact absurd ((hm r).1 (by simp)) (by simp [rowsOf])
  subst hv
  rw [he]
  rfl
end Go.Proofs.Ytehcbicngbibgaa
