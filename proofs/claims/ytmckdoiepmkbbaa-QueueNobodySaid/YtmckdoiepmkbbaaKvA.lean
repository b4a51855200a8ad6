/- The store of keys, plain: no program, no memory. -/
import Derived.Test.YtmckdoiepmkbbaaLockA
namespace Go.Mine
set_option linter.unusedVariables false
set_option linter.unusedSimpArgs false

structure Ch where
  kind : Int
  key : Int
  val : Int
deriving DecidableEq
structure KW where
  l : List Ch
  p : Bool
deriving DecidableEq
/-- A store: values, whether there, works, locks. -/
structure KS where
  vs : List Int
  th : List Bool
  ws : List (Int × KW)
  lk : LTab
deriving DecidableEq

def KS.new : KS := ⟨List.replicate 16 0, List.replicate 16 false, [], []⟩
/-- The place of a key's change. -/
def chAt (k : Int) (l : List Ch) : Option Nat := l.findIdx? (fun c => c.key == k)
def atI (k : Int) (l : List Ch) : Int := match chAt k l with | some i => i | none => -1
def KS.touch (s : KS) (n key : Int) (al : Bool) : Int × KS :=
  if n < 1 ∨ key < 0 ∨ 16 ≤ key then (1, s)
  else if ((aget n s.ws).map (·.p)).getD false then (7, s)
  else if (takeA s.lk n key al).1 ≠ 0 then ((takeA s.lk n key al).1, s)
  else (0, ⟨s.vs, s.th, if (aget n s.ws).isSome then s.ws else s.ws ++ [(n, ⟨[], false⟩)], (takeA s.lk n key al).2⟩)
def KS.listOf (s : KS) (n : Int) : List Ch := ((aget n s.ws).map (·.l)).getD []
def seenV (s : KS) (n key : Int) : Int × Bool :=
  match (s.listOf n).find? (fun c => c.key == key) with
  | some c => (c.val, c.kind == 1)
  | none => (s.vs.getD key.toNat 0, s.th.getD key.toNat false)
def KS.get (s : KS) (n key : Int) : (Int × Bool × Int) × KS :=
  let t := s.touch n key false
  if t.1 ≠ 0 then ((0, false, t.1), t.2) else (((seenV t.2 n key).1, (seenV t.2 n key).2, 0), t.2)
def putCh (c : Ch) (l : List Ch) : List Ch := match chAt c.key l with | some i => l.set i c | none => l ++ [c]
def KS.change (s : KS) (n : Int) (c : Ch) : Int × KS :=
  let t := s.touch n c.key true
  if t.1 ≠ 0 then (t.1, t.2) else (0, { t.2 with ws := aput n ⟨putCh c (t.2.listOf n), false⟩ t.2.ws })
def KS.gone (s : KS) (n : Int) : KS := { s with ws := adel n s.ws, lk := dropA n s.lk }
def KS.prepare (s : KS) (n : Int) : (List Ch × Int) × KS :=
  if n < 1 then (([], 1), s)
  else match aget n s.ws with
    | none => (([], 0), s.gone n)
    | some w => if w.p then (([], 7), s) else if w.l = [] then (([], 0), s.gone n) else ((w.l, 0), { s with ws := aput n ⟨w.l, true⟩ s.ws })
def setV (s : KS) (c : Ch) : KS := { s with vs := s.vs.set c.key.toNat c.val, th := s.th.set c.key.toNat (c.kind == 1) }
def KS.commit (s : KS) (n : Int) : Int × KS :=
  if n < 1 then (1, s) else (0, ((s.listOf n).foldl setV s).gone n)
def KS.backout (s : KS) (n : Int) : Int × KS := if n < 1 then (1, s) else (0, s.gone n)
def chOk (c : Ch) : Bool := !((c.kind != 1 && (c.kind != 2 || c.val != 0)) || decide (c.key < 0) || decide (16 ≤ c.key))
def rightL : List Ch → List Int → Bool
  | [], _ => true
  | c :: cs, seen => chOk c && !seen.contains c.key && rightL cs (c.key :: seen)
/-- The locks taken, one behind the other; what the first refusal says. -/
def takeAll (n : Int) : List Ch → LTab → Int × LTab
  | [], A => (0, A)
  | c :: cs, A => if (takeA A n c.key true).1 ≠ 0 then ((takeA A n c.key true).1, A) else takeAll n cs (takeA A n c.key true).2
def KS.restore (s : KS) (n : Int) (l : List Ch) : Int × KS :=
  if n < 1 then (1, s)
  else if rightL l [] = false then (1, s)
  else if (aget n s.ws).isSome then (7, s)
  else if (takeAll n l s.lk).1 ≠ 0 then ((takeAll n l s.lk).1, { s with lk := dropA n (takeAll n l s.lk).2 })
  else (0, ⟨s.vs, s.th, if l = [] then s.ws else s.ws ++ [(n, ⟨l, true⟩)], (takeAll n l s.lk).2⟩)
def KS.value (s : KS) (key : Int) : Int × Bool := if key < 0 ∨ 16 ≤ key then (0, false) else (s.vs.getD key.toNat 0, s.th.getD key.toNat false)
def KS.busy (s : KS) (n : Int) : Bool := (aget n s.ws).isSome
end Go.Mine
