/- The chapter's moves: the walk of lives. -/
import Derived.Test.YtehcbicngbibgaaBgV
namespace Go.Proofs.Ytehcbicngbibgaa
open Go Go.RowKit Go.Maps

theorem Flat.mono {w : World} {B B' : Nat} {v : Value} {row : Int} {S : List Seat} (h : Flat w B v row S) (hB : B ≤ B') : Flat w B' v row S := by
  induction h with
  | mk ao b o n cap row N F hn hao hc hrow hk ih =>
    exact Flat.mk ao b o n cap row N F hn (fun h0 => ⟨(hao h0).1, Nat.lt_of_lt_of_le (hao h0).2 hB⟩) hc hrow ih
theorem Flat.none (w : World) (B : Nat) (row : Int) : Flat w B (.slice .none 0 0) row [] :=
  Flat.mk .none 0 0 0 0 row (fun _ => zs) (fun _ => []) (by omega) (fun h => by omega) (fun i hi => by omega) (fun i hi => by omega) (fun i hi => by omega)

def leafS (id : Int) (text : ByteArray) (pos : Nat) : Seat := ⟨id, ⟨#[]⟩, text, .none, 0, 0, .none, 0, 0, 1, pos⟩
def hostS (b : Nat) : Seat := ⟨1, ⟨#[97]⟩, ⟨#[]⟩, .none, 0, 0, some ⟨b, 0, .none⟩, 3, 3, 0, 0⟩
def docA (b : Nat) : List Seat := [hostS b, leafS 2 ⟨#[120]⟩ 0, leafS 3 ⟨#[121]⟩ 1, leafS 4 ⟨#[122]⟩ 2]
def docB (b : Nat) : List Seat := [hostS b, leafS 4 ⟨#[122]⟩ 0, leafS 2 ⟨#[120]⟩ 1, leafS 3 ⟨#[121]⟩ 2]
/-- A host with three texts, in memory. -/
theorem flat_doc (w : World) (b h B : Nat) (i1 i2 i3 : Int) (t1 t2 t3 : ByteArray) (hb : b < B) (hh : h < B) (g1 : (Lit.int .i64 i1).wf = true) (g2 : (Lit.int .i64 i2).wf = true) (g3 : (Lit.int .i64 i3).wf = true)
    (hk : w.heap[b]? = some (.cells #[.int .i64 i1, .string ⟨#[]⟩, .string t1, .slice .none 0 0, .slice .none 0 0, .int .i64 i2, .string ⟨#[]⟩, .string t2, .slice .none 0 0, .slice .none 0 0, .int .i64 i3, .string ⟨#[]⟩, .string t3, .slice .none 0 0, .slice .none 0 0] 32 (0, 0)))
    (hd : w.heap[h]? = some (.cells #[.int .i64 1, .string ⟨#[97]⟩, .string ⟨#[]⟩, .slice .none 0 0, .slice (some ⟨b, 0, .none⟩) 3 3] 32 (0, 0))) :
    Flat w B (.slice (some ⟨h, 0, .none⟩) 1 1) 0 [hostS b, leafS i1 t1 0, leafS i2 t2 1, leafS i3 t3 2] := by
  have kids : Flat w B (.slice (some ⟨b, 0, .none⟩) 3 3) 1 [leafS i1 t1 0, leafS i2 t2 1, leafS i3 t3 2] := by
    refine Flat.mk (some ⟨b, 0, .none⟩) b 0 3 3 1 (fun i => match i with | 0 => leafS i1 t1 0 | 1 => leafS i2 t2 1 | _ => leafS i3 t3 2) (fun _ => []) (by omega) (fun _ => ⟨rfl, hb⟩) (fun i hi j hj => ?_) (fun i hi => ?_) (fun i hi => ?_)
    · rcases (by omega : i = 0 ∨ i = 1 ∨ i = 2) with rfl | rfl | rfl <;> rcases (by omega : j = 0 ∨ j = 1 ∨ j = 2 ∨ j = 3 ∨ j = 4) with rfl | rfl | rfl | rfl | rfl <;> simp [World.cell?, hk, Seat.cells, leafS]
    · rcases (by omega : i = 0 ∨ i = 1 ∨ i = 2) with rfl | rfl | rfl
      · exact ⟨rfl, rfl, g1⟩
      · exact ⟨rfl, rfl, g2⟩
      · exact ⟨rfl, rfl, g3⟩
    · rcases (by omega : i = 0 ∨ i = 1 ∨ i = 2) with rfl | rfl | rfl <;> exact Flat.none w B _
  refine Flat.mk (some ⟨h, 0, .none⟩) h 0 1 1 0 (fun _ => hostS b) (fun _ => [leafS i1 t1 0, leafS i2 t2 1, leafS i3 t3 2]) (by omega) (fun _ => ⟨rfl, hh⟩) (fun i hi j hj => ?_) (fun i hi => ?_) (fun i hi => kids)
  · obtain rfl : i = 0 := by omega
    rcases (by omega : j = 0 ∨ j = 1 ∨ j = 2 ∨ j = 3 ∨ j = 4) with rfl | rfl | rfl | rfl | rfl <;> simp [World.cell?, hd, Seat.cells, hostS]
  · obtain rfl : i = 0 := by omega
    exact ⟨rfl, rfl, rfl⟩

theorem two_rows {vis : List Int} (hn : vis.Nodup) (hm : ∀ r, r ∈ vis ↔ (r = 0 ∨ r = 1)) (f : Int → Int) : (vis.map f).sum = f 0 + f 1 := by
  have h0 := (hm 0).2 (.inl rfl)
  have h1 := (hm 1).2 (.inr rfl)
  match vis, hn with
  | [], _ => simp at h0
  | [a], _ => simp at h0 h1; omega
  | [a, b], hn =>
    have ha := (hm a).1 (by simp)
    have hb := (hm b).1 (by simp)
    simp at hn
    rcases ha with rfl | rfl <;> rcases hb with rfl | rfl <;> simp at hn ⊢
    omega
  | a :: b :: c :: l, hn =>
    have ha := (hm a).1 (by simp)
    have hb := (hm b).1 (by simp)
    have hc := (hm c).1 (by simp)
    simp at hn
    omega
theorem rows_ab (a b : Nat) (r : Int) : rowsOf (docA a) (docB b) r = (if r = 0 then [0] else []) ++ (if r = 1 then [2, 0, 1] else []) := by
  have e1 : rowItem (docA a) (hostS b) = some 0 := rfl
  have e2 : rowItem (docA a) (leafS 4 ⟨#[122]⟩ 0) = some 2 := rfl
  have e3 : rowItem (docA a) (leafS 2 ⟨#[120]⟩ 1) = some 0 := rfl
  have e4 : rowItem (docA a) (leafS 3 ⟨#[121]⟩ 2) = some 1 := rfl
  unfold rowsOf docB
  simp only [List.filterMap_cons, List.filterMap_nil, e1, e2, e3, e4, show (hostS b).row = 0 from rfl, show ∀ i t p, (leafS i t p).row = 1 from fun _ _ _ => rfl]
  by_cases h0 : r = 0
  · subst h0; simp
  · by_cases h1 : r = 1
    · subst h1; simp
    · simp [h0, h1, show ¬ (0 : Int) = r from fun h => h0 h.symm, show ¬ (1 : Int) = r from fun h => h1 h.symm]
theorem rows_aa (a : Nat) (r : Int) : rowsOf (docA a) (docA a) r = (if r = 0 then [0] else []) ++ (if r = 1 then [0, 1, 2] else []) := by
  have e1 : rowItem (docA a) (hostS a) = some 0 := rfl
  have e2 : rowItem (docA a) (leafS 2 ⟨#[120]⟩ 0) = some 0 := rfl
  have e3 : rowItem (docA a) (leafS 3 ⟨#[121]⟩ 1) = some 1 := rfl
  have e4 : rowItem (docA a) (leafS 4 ⟨#[122]⟩ 2) = some 2 := rfl
  unfold rowsOf
  rw [show (docA a).filterMap (fun s => if s.row = r then rowItem (docA a) s else none) = [hostS a, leafS 2 ⟨#[120]⟩ 0, leafS 3 ⟨#[121]⟩ 1, leafS 4 ⟨#[122]⟩ 2].filterMap (fun s => if s.row = r then rowItem (docA a) s else none) from rfl]
  simp only [List.filterMap_cons, List.filterMap_nil, e1, e2, e3, e4, show (hostS a).row = 0 from rfl, show ∀ i t p, (leafS i t p).row = 1 from fun _ _ _ => rfl]
  by_cases h0 : r = 0
  · subst h0; simp
  · by_cases h1 : r = 1
    · subst h1; simp
    · simp [h0, h1, show ¬ (0 : Int) = r from fun h => h0 h.symm, show ¬ (1 : Int) = r from fun h => h1 h.symm]
end Go.Proofs.Ytehcbicngbibgaa
