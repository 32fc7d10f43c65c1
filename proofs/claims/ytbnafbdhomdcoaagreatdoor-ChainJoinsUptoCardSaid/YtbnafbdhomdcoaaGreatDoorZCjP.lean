/-
 CjP, without what this claim does not reach.
-/
import Derived.Test.YtbnafbdhomdcoaaGreatDoorZm10
import Derived.Test.YtbnafbdhomdcoaaGreatDoorZm11
import Derived.Test.YtbnafbdhomdcoaaGreatDoorZm12
import Derived.Test.YtbnafbdhomdcoaaGreatDoorZm8
import Derived.Test.YtbnafbdhomdcoaaGreatDoorZm13
namespace Go.Proofs.YtbnafbdhomdcoaaGreatDoor
structure Rq where
 method : ByteArray
 target : ByteArray
 major : Int
 minor : Int
 fields : List Fl
 body : ByteArray
 trailers : List Fl
structure Rs where
 status : Int
 reason : ByteArray
 fields : List Fl
 body : ByteArray
structure Mid where
 kind : Int
 name : ByteArray
 value : ByteArray
 list : List ByteArray
 n : Int
def useA (k : Int) : Bool := decide (k = 1) || decide (k = 2) || decide (k = 3) || decide (k = 7)
def useV (k : Int) : Bool := decide (k = 1) || decide (k = 2) || decide (k = 6) || decide (k = 8) || decide (k = 9)
def useL (k : Int) : Bool := decide (k = 4) || decide (k = 7) || decide (k = 8) || decide (k = 10)
def useN (k : Int) : Bool := decide (k = 5) || decide (k = 8)
def bareM (m : Mid) : Bool := (useA m.kind || decide (m.name.size = 0)) && ((useV m.kind || decide (m.value.size = 0)) && ((useL m.kind || decide (m.list.length = 0)) && (useN m.kind || decide (m.n = 0))))
theorem use_all (k : Int) : (useA k && (useV k && (useL k && useN k))) = false := by
 unfold useA useV useL useN
 by_cases h1 : k = 1 <;> by_cases h2 : k = 2 <;> by_cases h3 : k = 3 <;> by_cases h7 : k = 7 <;> simp_all
def freshL (pre : List ByteArray) : List ByteArray → Bool
 | [] => true
 | s :: r => (isTok s && !isIn pre s) && freshL (pre ++ [s]) r
def ctlB (c : Int) : Bool := decide (c < 32) || decide (c = 127)
def basicOk (s : ByteArray) : Bool := decide (1 ≤ findB s 58) && allB (fun c => !ctlB c) s
def sepB (c : Int) : Bool := decide (c = 32) || decide (c = 9) || decide (c = 44)
def starV : ByteArray := ⟨#[42]⟩
def originOk (n : Nat) (s : ByteArray) : Bool := !decide (s.size = 0) && (isFld s && (allB (fun c => !sepB c) s && !(decide (s = starV) && decide (1 < n))))
def hostOk (s : ByteArray) : Bool := decide (T5.authR s = (s, -1, 0))
def tailB (s : ByteArray) (c : Int) : Bool := decide (0 < s.size) && decide (bt s (s.size - 1) = c)
def prefixOk (s : ByteArray) : Bool := decide (T5.normR s = (s, 0)) && !tailB s 47
def toksO (s : ByteArray) : Option (List ByteArray) := match elems s with
 | none => none
 | some l => if l.all isTok = true then some l else none
def tokensOk (s : ByteArray) : Bool := match toksO s with
 | none => false
 | some l => decide (joinR l = s)
def rightM (m : Mid) : Bool :=
 if m.kind = 1 ∨ m.kind = 2 then isTok m.name && isValue m.value
 else if m.kind = 3 then isTok m.name
 else if m.kind = 4 then freshL [] m.list && decide (0 < m.list.length)
 else if m.kind = 5 then decide (0 ≤ m.n)
 else if m.kind = 6 then prefixOk m.value
 else if m.kind = 7 then m.list.all basicOk && (isFld m.name && decide (0 < m.list.length))
 else if m.kind = 8 then m.list.all (originOk m.list.length) && (decide (0 < m.list.length) && (decide (0 ≤ m.n) && tokensOk m.value))
 else if m.kind = 9 then !decide (m.value.size = 0) && isValue m.value
 else m.list.all hostOk && decide (0 < m.list.length)
def kindOk (k : Int) : Bool := decide (1 ≤ k) && decide (k ≤ 10)
def checkM (m : Mid) : Bool := kindOk m.kind && (bareM m && rightM m)
theorem check_full {m : Mid} (h1 : m.name.size ≠ 0) (h2 : m.value.size ≠ 0) (h3 : m.list.length ≠ 0) (h4 : m.n ≠ 0) : checkM m = false := by
 have : bareM m = false := by
  have h := use_all m.kind
  unfold bareM
  rw [decide_eq_false h1, decide_eq_false h2, decide_eq_false h3, decide_eq_false h4]
  simpa using h
 unfold checkM
 rw [this]
 simp
def plainRs (n : Int) (l : List Fl) : Rs := ⟨n, ⟨#[]⟩, ctF :: l, bodyP n⟩
def allowN : ByteArray := ⟨#[65, 108, 108, 111, 119]⟩
def authN : ByteArray := ⟨#[65, 117, 116, 104, 111, 114, 105, 122, 97, 116, 105, 111, 110]⟩
def wwwN : ByteArray := ⟨#[87, 87, 87, 45, 65, 117, 116, 104, 101, 110, 116, 105, 99, 97, 116, 101]⟩
def realmT : ByteArray := ⟨#[66, 97, 115, 105, 99, 32, 114, 101, 97, 108, 109, 61]⟩
def charsT : ByteArray := ⟨#[44, 32, 99, 104, 97, 114, 115, 101, 116, 61, 34, 85, 84, 70, 45, 56, 34]⟩
def basicT : ByteArray := ⟨#[98, 97, 115, 105, 99]⟩
def originN : ByteArray := ⟨#[79, 114, 105, 103, 105, 110]⟩
def varyF : Fl := (⟨#[86, 97, 114, 121]⟩, originN)
def acaoN : ByteArray := ⟨#[65, 99, 99, 101, 115, 115, 45, 67, 111, 110, 116, 114, 111, 108, 45, 65, 108, 108, 111, 119, 45, 79, 114, 105, 103, 105, 110]⟩
def acamN : ByteArray := ⟨#[65, 99, 99, 101, 115, 115, 45, 67, 111, 110, 116, 114, 111, 108, 45, 65, 108, 108, 111, 119, 45, 77, 101, 116, 104, 111, 100, 115]⟩
def acahN : ByteArray := ⟨#[65, 99, 99, 101, 115, 115, 45, 67, 111, 110, 116, 114, 111, 108, 45, 65, 108, 108, 111, 119, 45, 72, 101, 97, 100, 101, 114, 115]⟩
def acmaN : ByteArray := ⟨#[65, 99, 99, 101, 115, 115, 45, 67, 111, 110, 116, 114, 111, 108, 45, 77, 97, 120, 45, 65, 103, 101]⟩
def acrmN : ByteArray := ⟨#[65, 99, 99, 101, 115, 115, 45, 67, 111, 110, 116, 114, 111, 108, 45, 82, 101, 113, 117, 101, 115, 116, 45, 77, 101, 116, 104, 111, 100]⟩
def acrhN : ByteArray := ⟨#[65, 99, 99, 101, 115, 115, 45, 67, 111, 110, 116, 114, 111, 108, 45, 82, 101, 113, 117, 101, 115, 116, 45, 72, 101, 97, 100, 101, 114, 115]⟩
def optsT : ByteArray := ⟨#[79, 80, 84, 73, 79, 78, 83]⟩
def cacheN : ByteArray := ⟨#[67, 97, 99, 104, 101, 45, 67, 111, 110, 116, 114, 111, 108]⟩
def getM : ByteArray := ⟨#[71, 69, 84]⟩
def headM : ByteArray := ⟨#[72, 69, 65, 68]⟩
def hostN : ByteArray := ⟨#[72, 111, 115, 116]⟩
def slashV : ByteArray := ⟨#[47]⟩
def onlyP (l : List Fl) (name : ByteArray) : Option ByteArray := match allV l name with
 | [v] => some v
 | _ => none
def atP (t : T5.Tg) (s : ByteArray) : Int := if t.form = 2 then 7 + findB (s.extract 7 s.size) 47 else 0
def restP (t : T5.Tg) (v : ByteArray) : ByteArray := t.path.extract v.size t.path.size
def isPre (v s : ByteArray) : Bool := decide (v.size ≤ s.size) && decide (s.extract 0 v.size = v)
def stripOk (v m s : ByteArray) : Bool := decide ((T5.parseT m s).2.2 = 0) && ((decide ((T5.parseT m s).1.form = 1) || decide ((T5.parseT m s).1.form = 2)) && (isPre v (T5.parseT m s).1.path && (decide ((restP (T5.parseT m s).1 v).size = 0) || decide (bt (restP (T5.parseT m s).1 v) 0 = 47))))
def stripT (v m s : ByteArray) : ByteArray :=
 s.extract 0 (atP (T5.parseT m s).1 s).toNat ++ (if (restP (T5.parseT m s).1 v).size = 0 then slashV else restP (T5.parseT m s).1 v) ++ s.extract ((atP (T5.parseT m s).1 s).toNat + (T5.parseT m s).1.path.size) s.size
def credP (s : ByteArray) : Option ByteArray :=
 if 5 < s.size ∧ alike (s.extract 0 5) basicT = true ∧ bt s 5 = 32 then (b64 (Lib.trimLeftS (s.extract 5 s.size).data.toList [32])).map fun l => ⟨l.toArray⟩ else none
def letP (m : Mid) (r : Rq) : Bool := match onlyP r.fields authN with
 | none => false
 | some s => match credP s with
  | none => false
  | some t => isIn m.list t
def quoteT (s : ByteArray) : ByteArray := ⟨(34 :: (s.data.toList.flatMap fun c => if c = 34 ∨ c = 92 then [92, c] else [c]) ++ [34]).toArray⟩
def firstStar (m : Mid) : Bool := decide (m.list.head? = some starV)
def varyP (m : Mid) : List Fl := if firstStar m = true then [] else [varyF]
def fromP (m : Mid) (r : Rq) : Option ByteArray := match onlyP r.fields originN with
 | none => none
 | some s => if firstStar m = true then some starV else if isIn m.list s = true then some s else none
def flightP (m : Mid) (r : Rq) : Option (ByteArray × ByteArray) := match fromP m r with
 | none => none
 | some o => match onlyP r.fields acrmN with
  | none => none
  | some wanted => if r.method = optsT then some (o, if m.value.size = 0 then wanted else m.value) else none
def flightRs (m : Mid) (r : Rq) (x : ByteArray × ByteArray) : Rs :=
 ⟨204, ⟨#[]⟩, [(acaoN, x.1), (acamN, x.2)] ++ (if 0 < (allV r.fields acrhN).length then [(acahN, joinR (allV r.fields acrhN))] else []) ++ [(acmaN, itoaT m.n)] ++ varyP m, ⟨#[]⟩⟩
def askedHost (r : Rq) : Option ByteArray :=
 if (T5.parseT r.method r.target).2.2 = 0 ∧ (T5.parseT r.method r.target).1.form = 2 then some (T5.parseT r.method r.target).1.host
 else match onlyP r.fields hostN with
  | none => none
  | some s => if (T5.authR s).2.2 = 0 then some (T5.authR s).1 else none
def hostIn (m : Mid) (r : Rq) : Bool := match askedHost r with
 | none => false
 | some h => isIn m.list h
def aheadP (m : Mid) (r : Rq) : Rq ⊕ Rs :=
 if m.kind = 4 then (if isIn m.list r.method = true then .inl r else .inr (plainRs 405 [(allowN, joinR m.list)]))
 else if m.kind = 5 then (if m.n < r.body.size then .inr (plainRs 413 []) else .inl r)
 else if m.kind = 6 then (if stripOk m.value r.method r.target = true then .inl { r with target := stripT m.value r.method r.target } else .inr (plainRs 404 []))
 else if m.kind = 7 then (if letP m r = true then .inl r else .inr (plainRs 401 [(wwwN, realmT ++ quoteT m.name ++ charsT)]))
 else if m.kind = 8 then (match flightP m r with
  | none => .inl r
  | some x => .inr (flightRs m r x))
 else if m.kind = 10 then (if hostIn m r = true then .inl r else .inr (plainRs 421 []))
 else .inl r
def cacheOk (r : Rq) (x : Rs) : Bool := decide (allV x.fields cacheN = []) && ((decide (x.status = 200) || decide (x.status = 304)) && (decide (r.method = getM) || decide (r.method = headM)))
def behindP (m : Mid) (r : Rq) (x : Rs) : Rs :=
 if m.kind = 1 then { x with fields := x.fields ++ [(m.name, m.value)] }
 else if m.kind = 2 then { x with fields := removeL x.fields m.name ++ [(m.name, m.value)] }
 else if m.kind = 3 then { x with fields := removeL x.fields m.name }
 else if m.kind = 8 then { x with fields := x.fields ++ (match fromP m r with
  | none => []
  | some o => [(acaoN, o)]) ++ varyP m }
 else if m.kind = 9 then (if cacheOk r x = true then { x with fields := x.fields ++ [(cacheN, m.value)] } else x)
 else x
def oneP (m : Mid) (F : Rq → Rs) (r : Rq) : Rs := match aheadP m r with
 | .inl q => behindP m r (F q)
 | .inr o => o
def runP (l : List Mid) (F : Rq → Rs) : Rq → Rs := match l with
 | [] => F
 | m :: l => if checkM m = true then oneP m (runP l F) else runP l F
theorem runP_append (l k : List Mid) (F : Rq → Rs) : runP (l ++ k) F = runP l (runP k F) := by
 induction l with
 | nil => rfl
 | cons m l ih => simp only [List.cons_append, runP, ih]
theorem runP_wrong {m : Mid} (h : checkM m = false) (l : List Mid) (F : Rq → Rs) : runP (m :: l) F = runP l F := by
 simp [runP, h]
end Go.Proofs.YtbnafbdhomdcoaaGreatDoor
