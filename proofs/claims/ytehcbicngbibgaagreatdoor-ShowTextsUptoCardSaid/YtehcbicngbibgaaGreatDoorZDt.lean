/- Values, fields, nodes: the data, and as trees. -/
import Derived.Test.YtehcbicngbibgaaGreatDoorZTr
namespace Go.Proofs.YtehcbicngbibgaaGreatDoor
open Go Go.RowKit

mutual
inductive Val where
  | mk (kind n : Int) (s : ByteArray) (L : List Val) (F : List Fld) (elem : Int) (key : ByteArray) (hk : Bool)
inductive Fld where
  | mk (name : ByteArray) (value : Val)
end
inductive Nd where
  | mk (id : Int) (tag text : ByteArray) (attrs : List Fld) (kids : List Nd)
def Fld.name : Fld → ByteArray | .mk n _ => n
def Fld.value : Fld → Val | .mk _ v => v
def Val.kind : Val → Int | .mk k _ _ _ _ _ _ _ => k
def Val.n : Val → Int | .mk _ n _ _ _ _ _ _ => n
def Val.s : Val → ByteArray | .mk _ _ s _ _ _ _ _ => s
def Val.L : Val → List Val | .mk _ _ _ L _ _ _ _ => L
def Val.F : Val → List Fld | .mk _ _ _ _ F _ _ _ => F
def Val.elem : Val → Int | .mk _ _ _ _ _ e _ _ => e
def Val.key : Val → ByteArray | .mk _ _ _ _ _ _ k _ => k
def Val.hk : Val → Bool | .mk _ _ _ _ _ _ _ h => h
def Nd.id : Nd → Int | .mk i _ _ _ _ => i
def Nd.tag : Nd → ByteArray | .mk _ t _ _ _ => t
def Nd.text : Nd → ByteArray | .mk _ _ t _ _ => t
def Nd.attrs : Nd → List Fld | .mk _ _ _ a _ => a
def Nd.kids : Nd → List Nd | .mk _ _ _ _ k => k

theorem Val.ind {P : Val → Prop} (h : ∀ k n s L F e key hk, (∀ x ∈ L, P x) → (∀ f ∈ F, P f.value) → P (.mk k n s L F e key hk)) (v : Val) : P v :=
  Val.rec (motive_1 := P) (motive_2 := fun f => P f.value) (motive_3 := fun L => ∀ x ∈ L, P x) (motive_4 := fun F => ∀ f ∈ F, P f.value)
    (fun k n s L F e key hk hL hF => h k n s L F e key hk hL hF) (fun _ _ hv => hv) (fun x hx => by cases hx)
    (fun a l ha hl x hx => (List.mem_cons.1 hx).elim (fun e => e ▸ ha) (hl x)) (fun x hx => by cases hx)
    (fun a l ha hl x hx => (List.mem_cons.1 hx).elim (fun e => e ▸ ha) (hl x)) v
theorem Nd.ind {P : Nd → Prop} (h : ∀ i t x a K, (∀ y ∈ K, P y) → P (.mk i t x a K)) (v : Nd) : P v :=
  Nd.rec (motive_1 := P) (motive_2 := fun L => ∀ x ∈ L, P x) (fun i t x a K hK => h i t x a K hK) (fun x hx => by cases hx)
    (fun a l ha hl x hx => (List.mem_cons.1 hx).elim (fun e => e ▸ ha) (hl x)) v

mutual
def Val.tr : Val → T
  | .mk k n s L F e key hk => .obj [.int .u8 k, .int .i64 n, .txt s, .lst 59 8 (trL L), .lst 61 9 (trF F), .int .u8 e, .txt key, .yes hk]
def Fld.tr : Fld → T
  | .mk n v => .obj [.txt n, v.tr]
def trL : List Val → List T
  | [] => []
  | v :: r => v.tr :: trL r
def trF : List Fld → List T
  | [] => []
  | f :: r => f.tr :: trF r
end
theorem trL_map : ∀ L, trL L = L.map Val.tr
  | [] => rfl
  | v :: r => by rw [trL, trL_map r, List.map_cons]
theorem trF_map : ∀ L, trF L = L.map Fld.tr
  | [] => rfl
  | v :: r => by rw [trF, trF_map r, List.map_cons]
mutual
def Nd.tr : Nd → T
  | .mk i t x a K => .obj [.int .i64 i, .txt t, .txt x, .lst 61 9 (a.map Fld.tr), .lst 53 5 (trN K)]
def trN : List Nd → List T
  | [] => []
  | v :: r => v.tr :: trN r
end
theorem trN_map : ∀ L, trN L = L.map Nd.tr
  | [] => rfl
  | v :: r => by rw [trN, trN_map r, List.map_cons]
theorem Val.tr_eq (v : Val) : v.tr = .obj [.int .u8 v.kind, .int .i64 v.n, .txt v.s, .lst 59 8 (v.L.map Val.tr), .lst 61 9 (v.F.map Fld.tr), .int .u8 v.elem, .txt v.key, .yes v.hk] := by
  cases v; rw [Val.tr, trL_map, trF_map]; rfl
theorem Fld.tr_eq (f : Fld) : f.tr = .obj [.txt f.name, f.value.tr] := by cases f; rw [Fld.tr]; rfl
theorem Nd.tr_eq (v : Nd) : v.tr = .obj [.int .i64 v.id, .txt v.tag, .txt v.text, .lst 61 9 (v.attrs.map Fld.tr), .lst 53 5 (v.kids.map Nd.tr)] := by
  cases v; rw [Nd.tr, trN_map]; rfl

/-- Where a value's two lists lie. -/
structure VP where
  la : Option Addr
  ln : Nat
  lc : Nat
  fa : Option Addr
  fn : Nat
  fc : Nat
def VP.cells (q : VP) (v : Val) : List Value := [.int .u8 v.kind, .int .i64 v.n, .string v.s, .slice q.la q.ln q.lc, .slice q.fa q.fn q.fc, .int .u8 v.elem, .string v.key, .bool v.hk]
def VP.fcells (q : VP) (f : Fld) : List Value := .string f.name :: q.cells f.value
/-- Where a node's two lists lie. -/
structure NP where
  aa : Option Addr
  an : Nat
  ac : Nat
  ka : Option Addr
  kn : Nat
  kc : Nat
def NP.cells (q : NP) (v : Nd) : List Value := [.int .i64 v.id, .string v.tag, .string v.text, .slice q.aa q.an q.ac, .slice q.ka q.kn q.kc]
abbrev VLs (w : World) (B : Nat) (L : List Val) (a : Option Addr) (n : Nat) : Prop := LAt w B 8 (L.map Val.tr) a n
abbrev FLs (w : World) (B : Nat) (L : List Fld) (a : Option Addr) (n : Nat) : Prop := LAt w B 9 (L.map Fld.tr) a n
abbrev NLs (w : World) (B : Nat) (L : List Nd) (a : Option Addr) (n : Nat) : Prop := LAt w B 5 (L.map Nd.tr) a n
structure VAt (w : World) (B : Nat) (v : Val) (q : VP) : Prop where
  k1 : (Lit.int .u8 v.kind).wf = true
  k2 : (Lit.int .i64 v.n).wf = true
  k3 : v.s.size ≤ 140737488355328
  k4 : (Lit.int .u8 v.elem).wf = true
  k5 : v.key.size ≤ 140737488355328
  L : VLs w B v.L q.la q.ln
  F : FLs w B v.F q.fa q.fn
structure NAt (w : World) (B : Nat) (v : Nd) (q : NP) : Prop where
  k1 : (Lit.int .i64 v.id).wf = true
  k2 : v.tag.size ≤ 140737488355328
  k3 : v.text.size ≤ 140737488355328
  A : FLs w B v.attrs q.aa q.an
  K : NLs w B v.kids q.ka q.kn
structure FAt (w : World) (B : Nat) (f : Fld) (q : VP) : Prop where
  k0 : f.name.size ≤ 140737488355328
  val : VAt w B f.value q
theorem VAt.kept {w w' : World} {B : Nat} {v : Val} {q : VP} (h : VAt w B v q) (hb : Below B w w') : VAt w' B v q := ⟨h.k1, h.k2, h.k3, h.k4, h.k5, h.L.kept hb, h.F.kept hb⟩
theorem VAt.mono {w : World} {B B' : Nat} {v : Val} {q : VP} (h : VAt w B v q) (hB : B ≤ B') : VAt w B' v q := ⟨h.k1, h.k2, h.k3, h.k4, h.k5, h.L.mono hB, h.F.mono hB⟩
theorem NAt.kept {w w' : World} {B : Nat} {v : Nd} {q : NP} (h : NAt w B v q) (hb : Below B w w') : NAt w' B v q := ⟨h.k1, h.k2, h.k3, h.A.kept hb, h.K.kept hb⟩
theorem NAt.mono {w : World} {B B' : Nat} {v : Nd} {q : NP} (h : NAt w B v q) (hB : B ≤ B') : NAt w B' v q := ⟨h.k1, h.k2, h.k3, h.A.mono hB, h.K.mono hB⟩
theorem FAt.kept {w w' : World} {B : Nat} {v : Fld} {q : VP} (h : FAt w B v q) (hb : Below B w w') : FAt w' B v q := ⟨h.k0, h.val.kept hb⟩
theorem FAt.mono {w : World} {B B' : Nat} {v : Fld} {q : VP} (h : FAt w B v q) (hB : B ≤ B') : FAt w B' v q := ⟨h.k0, h.val.mono hB⟩
theorem At.val {w : World} {B : Nat} {v : Val} {cs : List Value} (h : At w B v.tr cs) : ∃ q : VP, cs = q.cells v ∧ VAt w B v q := by
  rw [Val.tr_eq] at h
  obtain ⟨_, _, rfl, h0, h⟩ := h.cons_inv
  obtain ⟨_, _, rfl, h1, h⟩ := h.cons_inv
  obtain ⟨_, _, rfl, h2, h⟩ := h.cons_inv
  obtain ⟨_, _, rfl, h3, h⟩ := h.cons_inv
  obtain ⟨_, _, rfl, h4, h⟩ := h.cons_inv
  obtain ⟨_, _, rfl, h5, h⟩ := h.cons_inv
  obtain ⟨_, _, rfl, h6, h⟩ := h.cons_inv
  obtain ⟨_, _, rfl, h7, h⟩ := h.cons_inv
  obtain rfl := h.nil_inv
  obtain ⟨rfl, g0⟩ := h0.int_inv
  obtain ⟨rfl, g1⟩ := h1.int_inv
  obtain ⟨rfl, g2⟩ := h2.txt_inv
  obtain ⟨la, lc, rfl, g3⟩ := h3.lst_inv
  obtain ⟨fa, fc, rfl, g4⟩ := h4.lst_inv
  obtain ⟨rfl, g5⟩ := h5.int_inv
  obtain ⟨rfl, g6⟩ := h6.txt_inv
  obtain rfl := h7.yes_inv
  exact ⟨⟨la, _, lc, fa, _, fc⟩, rfl, g0, g1, g2, g5, g6, g3, g4⟩
theorem At.fld {w : World} {B : Nat} {f : Fld} {cs : List Value} (h : At w B f.tr cs) : ∃ q : VP, cs = q.fcells f ∧ f.name.size ≤ 140737488355328 ∧ VAt w B f.value q := by
  rw [Fld.tr_eq] at h
  obtain ⟨_, _, rfl, h0, h⟩ := h.cons_inv
  obtain ⟨_, _, rfl, h1, h⟩ := h.cons_inv
  obtain rfl := h.nil_inv
  obtain ⟨rfl, g0⟩ := h0.txt_inv
  obtain ⟨q, rfl, g1⟩ := h1.val
  exact ⟨q, by simp [VP.fcells], g0, g1⟩
theorem At.nd {w : World} {B : Nat} {v : Nd} {cs : List Value} (h : At w B v.tr cs) : ∃ q : NP, cs = q.cells v ∧ NAt w B v q := by
  rw [Nd.tr_eq] at h
  obtain ⟨_, _, rfl, h0, h⟩ := h.cons_inv
  obtain ⟨_, _, rfl, h1, h⟩ := h.cons_inv
  obtain ⟨_, _, rfl, h2, h⟩ := h.cons_inv
  obtain ⟨_, _, rfl, h3, h⟩ := h.cons_inv
  obtain ⟨_, _, rfl, h4, h⟩ := h.cons_inv
  obtain rfl := h.nil_inv
  obtain ⟨rfl, g0⟩ := h0.int_inv
  obtain ⟨rfl, g1⟩ := h1.txt_inv
  obtain ⟨rfl, g2⟩ := h2.txt_inv
  obtain ⟨aa, ac, rfl, g3⟩ := h3.lst_inv
  obtain ⟨ka, kc, rfl, g4⟩ := h4.lst_inv
  exact ⟨⟨aa, _, ac, ka, _, kc⟩, rfl, g0, g1, g2, g3, g4⟩
theorem VAt.at {w : World} {B : Nat} {v : Val} {q : VP} (h : VAt w B v q) : At w B v.tr (q.cells v) := by
  rw [Val.tr_eq]
  exact .cons _ _ [_] _ (.int _ _ h.k1) (.cons _ _ [_] _ (.int _ _ h.k2) (.cons _ _ [_] _ (.txt _ h.k3) (.cons _ _ [_] _ (h.L.at _) (.cons _ _ [_] _ (h.F.at _) (.cons _ _ [_] _ (.int _ _ h.k4) (.cons _ _ [_] _ (.txt _ h.k5) (.cons _ _ [_] _ (.yes _) .nil)))))))
theorem NAt.at {w : World} {B : Nat} {v : Nd} {q : NP} (h : NAt w B v q) : At w B v.tr (q.cells v) := by
  rw [Nd.tr_eq]
  exact .cons _ _ [_] _ (.int _ _ h.k1) (.cons _ _ [_] _ (.txt _ h.k2) (.cons _ _ [_] _ (.txt _ h.k3) (.cons _ _ [_] _ (h.A.at _) (.cons _ _ [_] _ (h.K.at _) .nil))))
/-- The i-th of a list. -/
theorem VLs.elem {w : World} {B n : Nat} {L : List Val} {a : Option Addr} (h : VLs w B L a n) (i : Nat) (hi : i < n) : ∃ (b o : Nat) (v : Val) (q : VP), a = some ⟨b, o, none⟩ ∧ b < B ∧ L[i]? = some v ∧ (∀ j, j < 8 → w.cell? ⟨b, o + (i * 8 + j), none⟩ = (q.cells v)[j]?) ∧ VAt w B v q := by
  have hn := h.1
  rw [List.length_map] at hn
  obtain ⟨b, o, cc, e1, e2, _, e3, e4⟩ := LAt.elem h i (by rw [List.length_map]; omega)
  rw [List.getElem_map] at e4
  obtain ⟨q, rfl, e5⟩ := e4.val
  exact ⟨b, o, L[i]'(by omega), q, e1, e2, List.getElem?_eq_getElem (by omega), e3, e5⟩
theorem FLs.elem {w : World} {B n : Nat} {L : List Fld} {a : Option Addr} (h : FLs w B L a n) (i : Nat) (hi : i < n) : ∃ (b o : Nat) (f : Fld) (q : VP), a = some ⟨b, o, none⟩ ∧ b < B ∧ L[i]? = some f ∧ (∀ j, j < 9 → w.cell? ⟨b, o + (i * 9 + j), none⟩ = (q.fcells f)[j]?) ∧ FAt w B f q := by
  have hn := h.1
  rw [List.length_map] at hn
  obtain ⟨b, o, cc, e1, e2, _, e3, e4⟩ := LAt.elem h i (by rw [List.length_map]; omega)
  rw [List.getElem_map] at e4
  obtain ⟨q, rfl, e5, e6⟩ := e4.fld
  exact ⟨b, o, L[i]'(by omega), q, e1, e2, List.getElem?_eq_getElem (by omega), e3, ⟨e5, e6⟩⟩
theorem NLs.elem {w : World} {B n : Nat} {L : List Nd} {a : Option Addr} (h : NLs w B L a n) (i : Nat) (hi : i < n) : ∃ (b o : Nat) (v : Nd) (q : NP), a = some ⟨b, o, none⟩ ∧ b < B ∧ L[i]? = some v ∧ (∀ j, j < 5 → w.cell? ⟨b, o + (i * 5 + j), none⟩ = (q.cells v)[j]?) ∧ NAt w B v q := by
  have hn := h.1
  rw [List.length_map] at hn
  obtain ⟨b, o, cc, e1, e2, _, e3, e4⟩ := LAt.elem h i (by rw [List.length_map]; omega)
  rw [List.getElem_map] at e4
  obtain ⟨q, rfl, e5⟩ := e4.nd
  exact ⟨b, o, L[i]'(by omega), q, e1, e2, List.getElem?_eq_getElem (by omega), e3, e5⟩
theorem LAt.len {w : World} {B K n : Nat} {es : List T} {a : Option Addr} (h : LAt w B K es a n) : n = es.length ∧ n ≤ 1152921504606846976 := ⟨h.1, h.2.1⟩
end Go.Proofs.YtehcbicngbibgaaGreatDoor
