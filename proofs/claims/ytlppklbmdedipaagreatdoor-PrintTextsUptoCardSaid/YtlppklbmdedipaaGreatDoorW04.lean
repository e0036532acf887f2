/- PrintTexts, part 4. -/
import Derived.Test.YtlppklbmdedipaaGreatDoorW02
import Derived.Test.YtlppklbmdedipaaGreatDoorW03
import Derived.Lib.ItoaLen
namespace Go.Proofs.YtlppklbmdedipaaGreatDoor
open Go
set_option maxHeartbeats 8000000
set_option maxRecDepth 100000

def spB (l : List UInt8) : Bool := match l.getLast? with | none => false | some c => c != 40 && c != 10
def headNum : List UInt8 → Bool
 | [] => false
 | c :: r => (decide (48 ≤ c.toNat) && decide (c.toNat ≤ 57)) || (c == 45 && match r with | [] => false | d :: _ => decide (48 ≤ d.toNat) && decide (d.toNat ≤ 57))
def nameL (l : List UInt8) : Bool := decide (1 ≤ l.length) && decide (l.length ≤ 4096) && !headNum l && l.all Lx.part
def fours : List (List UInt8) := [[121, 101, 115], [110, 111], [110, 111, 110, 101], [45]]
def nameP (s : ByteArray) : Bool := nameL s.data.toList && !fours.contains s.data.toList
def keysL : List (List UInt8) := [[105, 102], [101, 97, 99, 104], [114, 101, 97, 100], [116, 104, 114, 111, 119], [114, 101, 99], [100, 111], [104, 111, 115, 116], [110, 101, 119], [112, 117, 114, 101], [102, 114, 97, 103], [112, 111, 114, 116, 97, 108], [103, 105, 118, 101], [103, 117, 97, 114, 100], [119, 97, 105, 116]]
def keyP (s : ByteArray) : Bool := keysL.contains s.data.toList
def bareB (x : Ex) (n s args pairs deed : Bool) : Bool := (n || decide (x.n = 0)) && (s || decide (x.s.size = 0)) && (args || decide (x.args.length = 0)) && (pairs || (decide (x.names.length = 0) && decide (x.vals.length = 0))) && decide (x.elem = 0) && decide (x.key.length = 0) && (deed || (decide (x.acts.length = 0) && decide (x.site.size = 0)))
def noneB (x : Ex) : Bool := decide (x.kind = 0) && bareB x false false false false false
def wordE (k : Int) : List UInt8 := if k = 1 then [104, 111, 115, 116] else if k = 2 then [110, 101, 119] else if k = 3 then [112, 117, 114, 101] else if k = 4 then [102, 114, 97, 103] else if k = 5 then [112, 111, 114, 116, 97, 108] else if k = 6 then [103, 105, 118, 101] else if k = 7 then [103, 117, 97, 114, 100] else [119, 97, 105, 116]
def ownE (k : Int) : List ByteArray := if k = 6 then [bs [118, 97, 108, 117, 101]] else if k = 7 then [bs [97, 103, 97, 105, 110], bs [101, 108, 115, 101]] else if k = 8 then [bs [101, 108, 115, 101]] else []
def namedB (x : Ex) (names : List ByteArray) : Bool := decide (x.names = names) && decide (x.vals.length = names.length)
def yesL : List UInt8 := [121, 101, 115]
def noL : List UInt8 := [110, 111]
def siteB (x : Ex) (name : ByteArray) (deeds : Int) : Bool := decide (x.site = name ++ bs (35 :: Lib.itoa deeds))
def mustB (x : Ex) : Bool := decide (x.args.length = 2)

/-! ### The reference's -/
structure RS where
 l : List UInt8
 bad : Bool
 name : ByteArray
 deeds : Int
namespace RS
def put (t : RS) (s : List UInt8) : RS := { t with l := (if spB t.l = true then t.l ++ [32] else t.l) ++ s }
def fin (t : RS) : RS := { t with l := t.l ++ [41] }
def must (t : RS) (ok : Bool) : RS := { t with bad := t.bad || !ok }
def plain (t : RS) (s : ByteArray) : RS := (t.must (nameP s)).put s.data.toList
def deed (t : RS) : RS := { t with deeds := IntKind.i64.wrap (t.deeds + 1) }
def named (x : Ex) (names : List ByteArray) (vals : RS → RS) (t : RS) : RS := vals (t.must (namedB x names))
def elemB (x : Ex) (vals pairs : RS → RS) (t : RS) : RS :=
 if x.elem = 1 ∨ x.elem = 2 ∨ x.elem = 3 then (pairs ((t.plain x.s).put [40])).fin
 else if x.elem = 4 then named x [] vals (t.must (decide (x.s.size = 0)))
 else if x.elem = 5 then named x [] vals (t.plain x.s)
 else if x.elem = 6 then named x (ownE 6) vals (t.plain x.s)
 else if x.elem = 7 then named x (ownE 7) vals (t.must (decide (x.s.size = 0)))
 else named x (ownE 8) vals (t.must (decide (x.s.size = 0)))
def elemOk (x : Ex) : Bool := decide (x.n = 0) && decide (x.acts.length = 0) && decide (x.site.size = 0) && decide (x.key.length ≤ 1)
def keyF (x : Ex) (key : RS → RS) (t : RS) : RS := key (if x.key.length = 0 then t.put [45] else t)
def elem (x : Ex) (args vals key pairs : RS → RS) (t : RS) : RS :=
 if x.elem = 0 ∨ 9 ≤ x.elem then (t.must (elemOk x)).must false
 else args (elemB x vals pairs (keyF x key ((t.must (elemOk x)).put (wordE x.elem))))
def so (word : List UInt8) (x : Ex) (n : Nat) (args : RS → RS) (t : RS) : RS := args ((t.put word).must (bareB x false false true false false && decide (x.args.length = n)))
def pairsF (x : Ex) (pairs : RS → RS) (t : RS) : RS := pairs (t.must (decide (x.names.length = x.vals.length)))
def form (x : Ex) (args vals key acts pairs : RS → RS) (t : RS) : RS :=
 if x.kind = 5 then args ((t.must (bareB x false true true false false && !keyP x.s)).plain x.s)
 else if x.kind = 6 then so [105, 102] x 3 args t
 else if x.kind = 8 then so [114, 101, 97, 100] x 1 args t
 else if x.kind = 9 then so [116, 104, 114, 111, 119] x 1 args t
 else if x.kind = 7 then args (((t.put [101, 97, 99, 104]).must (bareB x false true true false false && decide (x.args.length = 2))).plain x.s)
 else if x.kind = 10 then pairsF x pairs ((t.put [114, 101, 99]).must (bareB x false false false true false))
 else if x.kind = 12 then acts ((((t.put [100, 111]).must (siteB x t.name t.deeds)).must (bareB x false false false false true)).deed)
 else if x.kind = 11 then elem x args vals key (pairsF x pairs) t
 else t.must false
def expr (x : Ex) (args vals key acts pairs : RS → RS) (t : RS) : RS :=
 if x.kind = 0 then (t.must (noneB x)).put [110, 111, 110, 101]
 else if x.kind = 1 then (t.must (bareB x true false false false false)).put (Lib.itoa x.n)
 else if x.kind = 2 then (t.must (bareB x true false false false false && (decide (x.n = 0) || decide (x.n = 1)))).put (if x.n = 1 then yesL else noL)
 else if x.kind = 3 then (t.must (bareB x false true false false false && decide (x.s.size ≤ 4096))).put (quoteL x.s.data.toList)
 else if x.kind = 4 then (t.must (bareB x false true false false false)).plain x.s
 else (form x args vals key acts pairs (t.put [40])).fin
def act (a : Ac) (ex : RS → RS) (t : RS) : RS :=
 (if a.kind = 1 then ex (((t.put [40]).put [115, 101, 116]).plain a.name)
 else if a.kind = 2 then ex (((t.put [40]).put [108, 111, 103]).must (decide (a.name.size = 0)))
 else if a.kind = 3 then ex (((t.put [40]).put [102, 97, 105, 108]).must (decide (a.name.size = 0)))
 else if a.kind = 4 then ((t.put [40]).put [115, 116, 111, 112]).must (decide (a.name.size = 0) && noneB a.expr)
 else (t.put [40]).must false).fin
def lists (x : St) : Bool := decide (x.dos.length = 0) && decide (x.undo.length = 0)
def runs (word : List UInt8) (x : St) (deps dos undo : RS → RS) (t : RS) : RS :=
 let t := (t.put word).must (decide (x.name.size = 0) && decide (x.ctx.size = 0) && noneB x.expr && decide (x.body.length = 0))
 (undo ((dos ((deps (t.put [40])).fin.put [40])).fin.put [40])).fin
def stmt (x : St) (ex deps dos undo body : RS → RS) (t : RS) : RS :=
 (if x.kind = 1 then ex ((((t.put [40]).put [108, 101, 116]).must (decide (x.ctx.size = 0) && decide (x.deps.length = 0) && lists x && decide (x.body.length = 0))).plain x.name)
 else if x.kind = 2 then ex ((((t.put [40]).put [115, 116, 97, 116, 101]).must (decide (x.ctx.size = 0) && decide (x.deps.length = 0) && lists x && decide (x.body.length = 0))).plain x.name)
 else if x.kind = 3 then ex ((deps (((((t.put [40]).put [109, 101, 109, 111]).must (decide (x.ctx.size = 0) && lists x && decide (x.body.length = 0))).plain x.name).put [40])).fin)
 else if x.kind = 4 then ((((t.put [40]).put [117, 115, 101]).must (noneB x.expr && decide (x.deps.length = 0) && lists x && decide (x.body.length = 0))).plain x.name).plain x.ctx
 else if x.kind = 5 then runs [108, 97, 121, 111, 117, 116] x deps dos undo (t.put [40])
 else if x.kind = 6 then runs [101, 102, 102, 101, 99, 116] x deps dos undo (t.put [40])
 else if x.kind = 7 then body (ex (((t.put [40]).put [119, 104, 101, 110]).must (decide (x.name.size = 0) && decide (x.ctx.size = 0) && decide (x.deps.length = 0) && lists x)))
 else (t.put [40]).must false).fin
def start (t : RS) (n : ByteArray) : RS := { t with name := n, deeds := 0 }
def nl (t : RS) : RS := { t with l := t.l ++ [10] }
def comp (c : Co) (body out : RS → RS) (t : RS) : RS :=
 (out (((body (((((t.put [40]).put [99, 111, 109, 112]).plain c.name).plain c.param).start c.name)).put [40]).put [115, 104, 111, 119])).fin.fin.nl
end RS
mutual
def rEx : Ex → RS → RS
 | .mk kind n s args names vals elem key acts site => RS.expr (.mk kind n s args names vals elem key acts site) (rExs args) (rExs vals) (rExs key) (rAcs acts) (rPairs vals names)
def rAc : Ac → RS → RS
 | .mk kind name expr => RS.act (.mk kind name expr) (rEx expr)
def rExs : List Ex → RS → RS
 | [], t => t
 | v :: r, t => rExs r (rEx v t)
def rAcs : List Ac → RS → RS
 | [], t => t
 | v :: r, t => rAcs r (rAc v t)
def rPairs : List Ex → List ByteArray → RS → RS
 | [], _, t => t
 | v :: r, ns, t => match ns with
  | [] => t
  | n :: ns => rPairs r ns (rEx v ((t.put [40]).plain n)).fin
end
mutual
def rSt : St → RS → RS
 | .mk kind name ctx expr deps dos undo body => RS.stmt (.mk kind name ctx expr deps dos undo body) (rEx expr) (rExs deps) (rAcs dos) (rAcs undo) (rSts body)
def rSts : List St → RS → RS
 | [], t => t
 | v :: r, t => rSts r (rSt v t)
end
def rCo (c : Co) (t : RS) : RS := RS.comp c (rSts c.body) (rEx c.out) t
def rCos : List Co → RS → RS
 | [], t => t
 | v :: r, t => rCos r (rCo v t)
theorem rEx_eq (v : Ex) : rEx v = RS.expr v (rExs v.args) (rExs v.vals) (rExs v.key) (rAcs v.acts) (rPairs v.vals v.names) := by cases v; rw [rEx]; rfl
theorem rAc_eq (v : Ac) : rAc v = RS.act v (rEx v.expr) := by cases v; rw [rAc]; rfl
theorem rSt_eq (v : St) : rSt v = RS.stmt v (rEx v.expr) (rExs v.deps) (rAcs v.dos) (rAcs v.undo) (rSts v.body) := by cases v; rw [rSt]; rfl

/-! ### The program's -/
structure PS where
 l : List UInt8
 be : Bool
 bad : Bool
 name : ByteArray
 deeds : Int
namespace PS
def put (t : PS) (s : List UInt8) : PS := { t with l := (if t.be = true then t.l ++ [32] else t.l) ++ s, be := true }
def must (t : PS) (ok : Bool) : PS := { t with bad := t.bad || !ok }
def plain (t : PS) (s : ByteArray) : PS := (t.must (nameP s)).put s.data.toList
def open_ (t : PS) : PS := { t.put [40] with be := false }
def fin (t : PS) : PS := { t with l := t.l ++ [41], be := true }
def round (f : PS → PS) (t : PS) : PS := (f t.open_).fin
def deed (t : PS) : PS := { t with deeds := IntKind.i64.wrap (t.deeds + 1) }
def worse (t : PS) : PS := { t with bad := true }
def named (x : Ex) (names : List ByteArray) (vals : PS → PS) (t : PS) : PS := vals (t.must (namedB x names))
def pairsF (x : Ex) (pairs : PS → PS) (t : PS) : PS := if x.names.length = x.vals.length then pairs t else t.worse
def elemBad (x : Ex) : Bool := decide (x.elem = 0) || decide (9 ≤ x.elem) || decide (x.n ≠ 0) || decide (x.site.size ≠ 0) || decide (0 < x.acts.length) || decide (1 < x.key.length)
def elemP (x : Ex) (pairs vals : PS → PS) (t : PS) : PS :=
 if x.elem = 1 ∨ x.elem = 2 ∨ x.elem = 3 then round (pairsF x pairs) t
 else if x.elem = 4 ∨ x.elem = 5 then named x [] vals t
 else if x.elem = 6 then named x (ownE 6) vals t
 else if x.elem = 7 then named x (ownE 7) vals t
 else named x (ownE 8) vals t
def keyF (x : Ex) (key : PS → PS) (t : PS) : PS := key (if x.key.length = 0 then t.put [45] else t)
def nameF (x : Ex) (t : PS) : PS := if x.elem = 4 ∨ x.elem = 7 ∨ x.elem = 8 then t.must (decide (x.s.size = 0)) else t.plain x.s
def elem (x : Ex) (args vals key pairs : PS → PS) (t : PS) : PS :=
 if elemBad x = true then t.worse else args (elemP x pairs vals (nameF x (keyF x key (t.put (wordE x.elem)))))
def word3 (k : Int) : List UInt8 := if k = 6 then [105, 102] else if k = 9 then [116, 104, 114, 111, 119] else [114, 101, 97, 100]
def form (x : Ex) (args vals key acts pairs : PS → PS) (t : PS) : PS :=
 if x.kind = 11 then elem x args vals key pairs t
 else if x.kind = 12 then (acts (((t.must (siteB x t.name t.deeds)).deed).put [100, 111])).must (bareB x false false false false true)
 else if x.kind = 10 then (pairsF x pairs (t.put [114, 101, 99])).must (bareB x false false false true false)
 else if x.kind = 7 then (args (((t.put [101, 97, 99, 104]).plain x.s).must (decide (x.args.length = 2)))).must (bareB x false true true false false)
 else if x.kind = 5 then (if keyP x.s = true then t.worse.must (bareB x false false false false false) else (args (t.plain x.s)).must (bareB x false true true false false))
 else if x.kind = 6 ∨ x.kind = 8 ∨ x.kind = 9 then (args ((t.put (word3 x.kind)).must (decide (x.args.length = if x.kind = 6 then 3 else 1)))).must (bareB x false false true false false)
 else t.worse.must (bareB x false false false false false)
def expr (x : Ex) (args vals key acts pairs : PS → PS) (t : PS) : PS :=
 if x.kind = 0 then (t.put [110, 111, 110, 101]).must (bareB x false false false false false)
 else if x.kind = 1 then (t.put (Lib.itoa x.n)).must (bareB x true false false false false)
 else if x.kind = 2 then ((t.must (decide (x.n = 0) || decide (x.n = 1))).put (if x.n = 1 then yesL else noL)).must (bareB x true false false false false)
 else if x.kind = 3 then ((t.must (decide (x.s.size ≤ 4096))).put (if x.s.size ≤ 4096 then quoteL x.s.data.toList else [])).must (bareB x false true false false false)
 else if x.kind = 4 then (t.plain x.s).must (bareB x false true false false false)
 else round (form x args vals key acts pairs) t
def act (a : Ac) (ex : PS → PS) : PS → PS := round fun t =>
 if a.kind = 1 then ex ((t.put [115, 101, 116]).plain a.name)
 else if a.kind = 2 then (ex (t.put [108, 111, 103])).must (decide (a.name.size = 0))
 else if a.kind = 3 then (ex (t.put [102, 97, 105, 108])).must (decide (a.name.size = 0))
 else ((t.put [115, 116, 111, 112]).must (decide (a.kind = 4) && noneB a.expr)).must (decide (a.name.size = 0))
def restB (x : St) (name ctx ex deps runs body : Bool) : Bool :=
 (name || decide (x.name.size = 0)) && (ctx || decide (x.ctx.size = 0)) && (ex || noneB x.expr) && (deps || decide (x.deps.length = 0)) && (runs || (decide (x.dos.length = 0) && decide (x.undo.length = 0))) && (body || decide (x.body.length = 0))
def stmt (x : St) (ex deps dos undo body : PS → PS) : PS → PS := round fun t =>
 if x.kind = 1 then (ex ((t.put [108, 101, 116]).plain x.name)).must (restB x true false true false false false)
 else if x.kind = 2 then (ex ((t.put [115, 116, 97, 116, 101]).plain x.name)).must (restB x true false true false false false)
 else if x.kind = 3 then (ex (round deps ((t.put [109, 101, 109, 111]).plain x.name))).must (restB x true false true true false false)
 else if x.kind = 4 then (((t.put [117, 115, 101]).plain x.name).plain x.ctx).must (restB x true true false false false false)
 else if x.kind = 5 then (round undo (round dos (round deps (t.put [108, 97, 121, 111, 117, 116])))).must (restB x false false false true true false)
 else if x.kind = 6 then (round undo (round dos (round deps (t.put [101, 102, 102, 101, 99, 116])))).must (restB x false false false true true false)
 else if x.kind = 7 then (body (ex (t.put [119, 104, 101, 110]))).must (restB x false false true false false true)
 else t.worse.must (restB x false false false false false false)
def start (t : PS) (n : ByteArray) : PS := { t with name := n, deeds := 0, be := false }
def nl (t : PS) : PS := { t with l := t.l ++ [10] }
def comp (c : Co) (body out : PS → PS) (t : PS) : PS :=
 (round (fun t => round (fun t => out (t.put [115, 104, 111, 119])) (body (((t.put [99, 111, 109, 112]).plain c.name).plain c.param))) (t.start c.name)).nl
end PS
mutual
def pEx : Ex → PS → PS
 | .mk kind n s args names vals elem key acts site => PS.expr (.mk kind n s args names vals elem key acts site) (pExs args) (pExs vals) (pExs key) (pAcs acts) (pPairs vals names)
def pAc : Ac → PS → PS
 | .mk kind name expr => PS.act (.mk kind name expr) (pEx expr)
def pExs : List Ex → PS → PS
 | [], t => t
 | v :: r, t => pExs r (pEx v t)
def pAcs : List Ac → PS → PS
 | [], t => t
 | v :: r, t => pAcs r (pAc v t)
def pPairs : List Ex → List ByteArray → PS → PS
 | [], _, t => t
 | v :: r, ns, t => match ns with
  | [] => t
  | n :: ns => pPairs r ns (PS.round (fun t => pEx v (t.plain n)) t)
end
mutual
def pSt : St → PS → PS
 | .mk kind name ctx expr deps dos undo body => PS.stmt (.mk kind name ctx expr deps dos undo body) (pEx expr) (pExs deps) (pAcs dos) (pAcs undo) (pSts body)
def pSts : List St → PS → PS
 | [], t => t
 | v :: r, t => pSts r (pSt v t)
end
def pCo (c : Co) (t : PS) : PS := PS.comp c (pSts c.body) (pEx c.out) t
def pCos : List Co → PS → PS
 | [], t => t
 | v :: r, t => pCos r (pCo v t)
theorem pEx_eq (v : Ex) : pEx v = PS.expr v (pExs v.args) (pExs v.vals) (pExs v.key) (pAcs v.acts) (pPairs v.vals v.names) := by cases v; rw [pEx]; rfl
theorem pAc_eq (v : Ac) : pAc v = PS.act v (pEx v.expr) := by cases v; rw [pAc]; rfl
theorem pSt_eq (v : St) : pSt v = PS.stmt v (pEx v.expr) (pExs v.deps) (pAcs v.dos) (pAcs v.undo) (pSts v.body) := by cases v; rw [pSt]; rfl

/-! ### How long, and what was bad stays bad -/
structure RS.Le (t u : RS) (c : Nat) : Prop where
 lo : t.l.length ≤ u.l.length
 hi : u.l.length ≤ t.l.length + c
 bad : t.bad = true → u.bad = true
theorem RS.Le.refl (t : RS) : RS.Le t t 0 := ⟨Nat.le_refl _, Nat.le_refl _, id⟩
theorem RS.Le.trans {t u v : RS} {a b : Nat} (h : RS.Le t u a) (k : RS.Le u v b) : RS.Le t v (a + b) := ⟨Nat.le_trans h.lo k.lo, by have := h.hi; have := k.hi; omega, fun e => k.bad (h.bad e)⟩
theorem RS.Le.mono {t u : RS} {a b : Nat} (h : RS.Le t u a) (k : a ≤ b) : RS.Le t u b := ⟨h.lo, Nat.le_trans h.hi (by omega), h.bad⟩
theorem RS.Le.put {t u : RS} {a : Nat} (h : RS.Le t u a) (s : List UInt8) : RS.Le t (u.put s) (a + (s.length + 1)) :=
 h.trans ⟨by unfold RS.put; dsimp only; split <;> simp <;> omega, by unfold RS.put; dsimp only; split <;> simp <;> omega, id⟩
theorem RS.Le.must {t u : RS} {a : Nat} (h : RS.Le t u a) (b : Bool) : RS.Le t (u.must b) a := ⟨h.lo, h.hi, fun e => by simp [RS.must, h.bad e]⟩
theorem RS.Le.fin {t u : RS} {a : Nat} (h : RS.Le t u a) : RS.Le t u.fin (a + 1) := h.trans ⟨by simp [RS.fin], by simp [RS.fin], id⟩
theorem RS.Le.plain {t u : RS} {a : Nat} (h : RS.Le t u a) (s : ByteArray) : RS.Le t (u.plain s) (a + (s.size + 1)) := by
 have := (h.must (nameP s)).put s.data.toList
 rw [← size_list] at this
 exact this
theorem RS.Le.deed {t u : RS} {a : Nat} (h : RS.Le t u a) : RS.Le t u.deed a := ⟨h.lo, h.hi, h.bad⟩
theorem RS.Le.keyF {t u : RS} {a k : Nat} (h : RS.Le t u a) (x : Ex) {key : RS → RS} (hk : ∀ v, RS.Le v (key v) k) : RS.Le t (RS.keyF x key u) (a + 2 + k) := by
 unfold RS.keyF
 split
 ·exact (h.put [45]).trans (hk _)
 ·exact (h.trans (hk _)).mono (by omega)
theorem RS.Le.elemB {t u : RS} {a p v : Nat} (h : RS.Le t u a) (x : Ex) {vals pairs : RS → RS} (hv : ∀ u, RS.Le u (vals u) v) (hp : ∀ u, RS.Le u (pairs u) p) (hvp : v ≤ p) : RS.Le t (RS.elemB x vals pairs u) (a + p + x.s.size + 5) := by
 unfold RS.elemB RS.named
 repeat' split
 ·exact (((h.plain x.s).put [40]).trans (hp _)).fin.mono (by simp <;> omega)
 ·exact (((h.must _).must _).trans (hv _)).mono (by omega)
 ·exact (((h.plain x.s).must _).trans (hv _)).mono (by omega)
 ·exact (((h.plain x.s).must _).trans (hv _)).mono (by omega)
 ·exact (((h.must _).must _).trans (hv _)).mono (by omega)
 ·exact (((h.must _).must _).trans (hv _)).mono (by omega)
theorem wordE_len (k : Int) : (wordE k).length ≤ 6 := by
 unfold wordE
 repeat' split
 all_goals decide
theorem RS.form_le (x : Ex) {args vals key acts pairs : RS → RS} {A V K C P : Nat} (hA : ∀ u, RS.Le u (args u) A) (hV : ∀ u, RS.Le u (vals u) V) (hK : ∀ u, RS.Le u (key u) K) (hC : ∀ u, RS.Le u (acts u) C) (hP : ∀ u, RS.Le u (pairs u) P) (hVP : V ≤ P) (t : RS) :
  RS.Le t (RS.form x args vals key acts pairs t) (A + K + C + P + x.s.size + 14) := by
 have r := RS.Le.refl t
 have hw := wordE_len x.elem
 unfold RS.form
 split
 ·exact (((r.must _).plain x.s).trans (hA _)).mono (by omega)
 split
 ·exact (((r.put [105, 102]).must _).trans (hA _)).mono (by simp <;> omega)
 split
 ·exact (((r.put [114, 101, 97, 100]).must _).trans (hA _)).mono (by simp <;> omega)
 split
 ·exact (((r.put [116, 104, 114, 111, 119]).must _).trans (hA _)).mono (by simp <;> omega)
 split
 ·exact ((((r.put [101, 97, 99, 104]).must _).plain x.s).trans (hA _)).mono (by simp <;> omega)
 split
 ·exact ((((r.put [114, 101, 99]).must _).must _).trans (hP _)).mono (by simp <;> omega)
 split
 ·exact (((((r.put [100, 111]).must _).must _).deed).trans (hC _)).mono (by simp <;> omega)
 split
 ·unfold RS.elem
  split
  ·exact ((r.must _).must _).mono (by omega)
  ·exact (((RS.Le.elemB (((r.must _).put (wordE x.elem)).keyF x hK) x hV (fun u => ((RS.Le.refl u).must _).trans (hP _)) (by omega))).trans (hA _)).mono (by omega)
 ·exact (r.must _).mono (by omega)
theorem n64 {n : Int} (h : (Lit.int .i64 n).wf = true) : -9223372036854775808 ≤ n ∧ n ≤ 9223372036854775807 := by
 simpa [Lit.wf, IntKind.min, IntKind.max, IntKind.signed, IntKind.bits] using h
theorem itoa_len (n : Int) (h : (Lit.int .i64 n).wf = true) : (Lib.itoa n).length ≤ 21 := by
 have := n64 h
 exact Lib.itoa_length_le n (by omega) (by omega)
theorem escL_len2 (s : ByteArray) : (quoteL s.data.toList).length ≤ 2 * s.size + 2 := by
 have := escL_len s.data.toList
 have h := size_list s
 unfold quoteL
 simp
 omega
theorem RS.expr_le (x : Ex) (hn : (Lit.int .i64 x.n).wf = true) {args vals key acts pairs : RS → RS} {A V K C P : Nat} (hA : ∀ u, RS.Le u (args u) A) (hV : ∀ u, RS.Le u (vals u) V) (hK : ∀ u, RS.Le u (key u) K) (hC : ∀ u, RS.Le u (acts u) C) (hP : ∀ u, RS.Le u (pairs u) P) (hVP : V ≤ P) (t : RS) :
  RS.Le t (RS.expr x args vals key acts pairs t) (A + K + C + P + 2 * x.s.size + 22) := by
 have r := RS.Le.refl t
 have h1 := itoa_len x.n hn
 have h2 := escL_len2 x.s
 unfold RS.expr
 split
 ·exact ((r.must _).put [110, 111, 110, 101]).mono (by simp <;> omega)
 split
 ·exact ((r.must _).put (Lib.itoa x.n)).mono (by omega)
 split
 ·exact ((r.must _).put _).mono (by split <;> simp [yesL, noL])
 split
 ·exact ((r.must _).put (quoteL x.s.data.toList)).mono (by omega)
 split
 ·exact ((r.must _).plain x.s).mono (by omega)
 ·exact ((r.put [40]).trans (RS.form_le x hA hV hK hC hP hVP _)).fin.mono (by simp <;> omega)
theorem RS.act_le (a : Ac) {ex : RS → RS} {E : Nat} (hE : ∀ u, RS.Le u (ex u) E) (t : RS) : RS.Le t (RS.act a ex t) (E + a.name.size + 9) := by
 have r := RS.Le.refl t
 unfold RS.act
 refine (RS.Le.fin (a := E + a.name.size + 8) ?_)
 split
 ·exact ((((r.put [40]).put [115, 101, 116]).plain a.name).trans (hE _)).mono (by simp <;> omega)
 split
 ·exact ((((r.put [40]).put [108, 111, 103]).must _).trans (hE _)).mono (by simp <;> omega)
 split
 ·exact ((((r.put [40]).put [102, 97, 105, 108]).must _).trans (hE _)).mono (by simp <;> omega)
 split
 ·exact (((r.put [40]).put [115, 116, 111, 112]).must _).mono (by simp <;> omega)
 ·exact ((r.put [40]).must _).mono (by simp <;> omega)
theorem RS.runs_le (word : List UInt8) (hw : word.length ≤ 6) (x : St) {deps dos undo : RS → RS} {D O U : Nat} (hD : ∀ u, RS.Le u (deps u) D) (hO : ∀ u, RS.Le u (dos u) O) (hU : ∀ u, RS.Le u (undo u) U) (t : RS) : RS.Le t (RS.runs word x deps dos undo t) (D + O + U + 16) := by
 unfold RS.runs
 exact (((((((((((RS.Le.refl t).put word).must _).put [40]).trans (hD _)).fin).put [40]).trans (hO _)).fin).put [40]).trans (hU _)).fin.mono (by simp <;> omega)
theorem RS.stmt_le (x : St) {ex deps dos undo body : RS → RS} {E D O U Y : Nat} (hE : ∀ u, RS.Le u (ex u) E) (hD : ∀ u, RS.Le u (deps u) D) (hO : ∀ u, RS.Le u (dos u) O) (hU : ∀ u, RS.Le u (undo u) U) (hY : ∀ u, RS.Le u (body u) Y) (t : RS) :
  RS.Le t (RS.stmt x ex deps dos undo body t) (E + D + O + U + Y + x.name.size + x.ctx.size + 19) := by
 have r := (RS.Le.refl t).put [40]
 unfold RS.stmt
 refine (RS.Le.fin (a := E + D + O + U + Y + x.name.size + x.ctx.size + 18) ?_)
 split
 ·exact ((((r.put [108, 101, 116]).must _).plain x.name).trans (hE _)).mono (by simp <;> omega)
 split
 ·exact ((((r.put [115, 116, 97, 116, 101]).must _).plain x.name).trans (hE _)).mono (by simp <;> omega)
 split
 ·exact (((((((r.put [109, 101, 109, 111]).must _).plain x.name).put [40]).trans (hD _)).fin).trans (hE _)).mono (by simp <;> omega)
 split
 ·exact ((((r.put [117, 115, 101]).must _).plain x.name).plain x.ctx).mono (by simp <;> omega)
 split
 ·exact (r.trans (RS.runs_le [108, 97, 121, 111, 117, 116] (by decide) x hD hO hU _)).mono (by simp <;> omega)
 split
 ·exact (r.trans (RS.runs_le [101, 102, 102, 101, 99, 116] (by decide) x hD hO hU _)).mono (by simp <;> omega)
 split
 ·exact ((((r.put [119, 104, 101, 110]).must _).trans (hE _)).trans (hY _)).mono (by simp <;> omega)
 ·exact (r.must _).mono (by simp <;> omega)
theorem RS.Le.start {t u : RS} {a : Nat} (h : RS.Le t u a) (n : ByteArray) : RS.Le t (u.start n) a := ⟨h.lo, h.hi, h.bad⟩
theorem RS.Le.nl {t u : RS} {a : Nat} (h : RS.Le t u a) : RS.Le t u.nl (a + 1) := h.trans ⟨by simp [RS.nl], by simp [RS.nl], id⟩
theorem RS.comp_le (c : Co) {body out : RS → RS} {Y O : Nat} (hY : ∀ u, RS.Le u (body u) Y) (hO : ∀ u, RS.Le u (out u) O) (t : RS) : RS.Le t (RS.comp c body out t) (Y + O + c.name.size + c.param.size + 23) := by
 unfold RS.comp
 exact ((((((((((((RS.Le.refl t).put [40]).put [99, 111, 109, 112]).plain c.name).plain c.param).start c.name).trans (hY _)).put [40]).put [115, 104, 111, 119]).trans (hO _)).fin).fin).nl.mono (by simp <;> omega)
/-! ### Numbers are in range -/
mutual
def T.ok : T → Bool
 | .int k n => (Lit.int k n).wf
 | .txt _ => true
 | .yes _ => true
 | .obj ps => oks ps
 | .lst _ _ es => oks es
def oks : List T → Bool
 | [] => true
 | t :: r => t.ok && oks r
end
theorem oks_of {l : List T} (h : ∀ t ∈ l, t.ok = true) : oks l = true := by
 induction l with
 | nil => rfl
 | cons t r ih => rw [oks, h t (by simp), ih fun x hx => h x (by simp [hx])]; rfl
theorem oks_mem {l : List T} (h : oks l = true) : ∀ t ∈ l, t.ok = true := by
 induction l with
 | nil => intro t ht; cases ht
 | cons t r ih =>
  rw [oks, Bool.and_eq_true] at h
  intro x hx
  rcases List.mem_cons.1 hx with rfl | hx
  ·exact h.1
  ·exact ih h.2 x hx
theorem At.ok {w : World} {B : Nat} {t : T} {cs : List Value} (h : At w B t cs) : t.ok = true := by
 induction h with
 | int k n h => exact h
 | txt => rfl
 | yes => rfl
 | nil => rfl
 | cons p ps c cs _ _ ih1 ih2 =>
  rw [T.ok] at ih2 ⊢
  rw [oks, ih1, ih2]; rfl
 | lst E K ao b o cap es cc hn hao hc he ih =>
  rw [T.ok]
  refine oks_of fun t ht => ?_
  obtain ⟨i, hi, rfl⟩ := List.getElem_of_mem ht
  exact ih i hi
def ExLen (x : Ex) : Prop := x.tr.ok = true → ∀ t, RS.Le t (rEx x t) (28 * x.tr.wt)
def AcLen (x : Ac) : Prop := x.tr.ok = true → ∀ t, RS.Le t (rAc x t) (28 * x.tr.wt)
theorem rExs_le (L : List Ex) (hS : ∀ v ∈ L, ExLen v) (hok : oks (L.map Ex.tr) = true) : ∀ t, RS.Le t (rExs L t) (28 * wts (L.map Ex.tr)) := by
 induction L with
 | nil => intro t; rw [rExs]; exact (RS.Le.refl t).mono (by omega)
 | cons v r ih =>
  intro t
  rw [List.map_cons, oks, Bool.and_eq_true] at hok
  rw [rExs, List.map_cons, wts]
  exact ((hS v (by simp) hok.1 t).trans (ih (fun x hx => hS x (by simp [hx])) hok.2 _)).mono (by omega)
theorem rAcs_le (L : List Ac) (hS : ∀ v ∈ L, AcLen v) (hok : oks (L.map Ac.tr) = true) : ∀ t, RS.Le t (rAcs L t) (28 * wts (L.map Ac.tr)) := by
 induction L with
 | nil => intro t; rw [rAcs]; exact (RS.Le.refl t).mono (by omega)
 | cons v r ih =>
  intro t
  rw [List.map_cons, oks, Bool.and_eq_true] at hok
  rw [rAcs, List.map_cons, wts]
  exact ((hS v (by simp) hok.1 t).trans (ih (fun x hx => hS x (by simp [hx])) hok.2 _)).mono (by omega)
theorem rPairs_le (L : List Ex) (hS : ∀ v ∈ L, ExLen v) (hok : oks (L.map Ex.tr) = true) : ∀ (N : List ByteArray) (t : RS), RS.Le t (rPairs L N t) (28 * wts (L.map Ex.tr) + 28 * (N.length + wts (N.map T.txt))) := by
 induction L with
 | nil => intro N t; rw [rPairs]; exact (RS.Le.refl t).mono (by omega)
 | cons v r ih =>
  intro N t
  rw [List.map_cons, oks, Bool.and_eq_true] at hok
  cases N with
  | nil => rw [rPairs]; exact (RS.Le.refl t).mono (by omega)
  | cons s N =>
   rw [rPairs, List.map_cons, wts, List.map_cons, wts, T.wt, List.length_cons]
   exact ((((((RS.Le.refl t).put [40]).plain s).trans (hS v (by simp) hok.1 _)).fin).trans (ih (fun x hx => hS x (by simp [hx])) hok.2 N _)).mono (by simp <;> omega)
theorem rEx_le (x : Ex) : ExLen x := by
 refine Ex.both (Q := AcLen) (fun v h1 h2 h3 h4 hok t => ?_) (fun v h hok t => ?_) x
 ·rw [rEx_eq, wt_Ex]
  rw [Ex.tr_eq, T.ok] at hok
  simp only [oks, T.ok, Bool.and_eq_true, Bool.and_true] at hok
  obtain ⟨_, o1, _, o3, _, o5, _, o7, o8⟩ := hok
  exact (RS.expr_le v o1 (rExs_le _ h1 o3) (rExs_le _ h2 o5) (rExs_le _ h3 o7) (rAcs_le _ h4 o8) (rPairs_le _ h2 o5 _) (by omega) t).mono (by omega)
 ·rw [rAc_eq, wt_Ac]
  rw [Ac.tr_eq, T.ok] at hok
  simp only [oks, T.ok, Bool.and_eq_true, Bool.and_true] at hok
  obtain ⟨_, _, o2⟩ := hok
  exact (RS.act_le v (h o2) t).mono (by omega)
theorem rAc_le (x : Ac) : AcLen x := fun hok t => by
 rw [rAc_eq, wt_Ac]
 rw [Ac.tr_eq, T.ok] at hok
 simp only [oks, T.ok, Bool.and_eq_true, Bool.and_true] at hok
 obtain ⟨_, _, o2⟩ := hok
 exact (RS.act_le x (rEx_le _ o2) t).mono (by omega)
def StLen (x : St) : Prop := x.tr.ok = true → ∀ t, RS.Le t (rSt x t) (28 * x.tr.wt)
theorem rSts_le (L : List St) (hS : ∀ v ∈ L, StLen v) (hok : oks (L.map St.tr) = true) : ∀ t, RS.Le t (rSts L t) (28 * wts (L.map St.tr)) := by
 induction L with
 | nil => intro t; rw [rSts]; exact (RS.Le.refl t).mono (by omega)
 | cons v r ih =>
  intro t
  rw [List.map_cons, oks, Bool.and_eq_true] at hok
  rw [rSts, List.map_cons, wts]
  exact ((hS v (by simp) hok.1 t).trans (ih (fun x hx => hS x (by simp [hx])) hok.2 _)).mono (by omega)
theorem rSt_le (x : St) : StLen x := by
 refine St.ind (P := StLen) (fun v h hok t => ?_) x
 rw [rSt_eq, wt_St]
 rw [St.tr_eq, T.ok] at hok
 simp only [oks, T.ok, Bool.and_eq_true, Bool.and_true] at hok
 obtain ⟨_, _, _, o3, o4, o5, o6, o7⟩ := hok
 exact (RS.stmt_le v (rEx_le _ o3) (rExs_le _ (fun x _ => rEx_le x) o4) (rAcs_le _ (fun x _ => rAc_le x) o5) (rAcs_le _ (fun x _ => rAc_le x) o6) (rSts_le _ h o7) t).mono (by omega)
theorem rCos_le (L : List Co) (hok : oks (L.map Co.tr) = true) : ∀ t, RS.Le t (rCos L t) (28 * wts (L.map Co.tr)) := by
 induction L with
 | nil => intro t; rw [rCos]; exact (RS.Le.refl t).mono (by omega)
 | cons v r ih =>
  intro t
  rw [List.map_cons, oks, Bool.and_eq_true] at hok
  rw [rCos, List.map_cons, wts, wt_Co]
  have o := hok.1
  rw [Co.tr_eq, T.ok] at o
  simp only [oks, T.ok, Bool.and_eq_true, Bool.and_true] at o
  obtain ⟨_, _, o2, o3⟩ := o
  exact ((RS.comp_le v (rSts_le _ (fun x _ => rSt_le x) o2) (rEx_le _ o3) t).trans (ih hok.2 _)).mono (by omega)
end Go.Proofs.YtlppklbmdedipaaGreatDoor
