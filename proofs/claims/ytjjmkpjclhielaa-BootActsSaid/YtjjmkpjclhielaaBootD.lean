/-
  Plain: plans, what is seen, what a boot does.
-/
import Derived.Test.YtjjmkpjclhielaaDcfG
namespace Go.Proofs.Ytjjmkpjclhielaa
set_option linter.unusedVariables false

/-- A plan: its node, device, identity, day, time, items, whether it must be there, whether it is kept. -/
structure Pl where
  node : Int
  dev : Int
  i0 : Int
  i1 : Int
  i2 : Int
  i3 : Int
  day : Int
  time : Int
  its : List It
  mand : Bool
  keep : Bool
/-- What is seen of a node. -/
structure Sn where
  there : Bool
  dev : Int
  i0 : Int
  i1 : Int
  i2 : Int
  i3 : Int
  day : Int
  time : Int
  state : Int
  code : Int
  beat : Bool

def identOf (p : Pl) (s : Sn) : Option Int :=
  if p.i0 ≠ 0 ∧ s.i0 ≠ p.i0 then some 68 else if p.i1 ≠ 0 ∧ s.i1 ≠ p.i1 then some 77 else if p.i2 ≠ 0 ∧ s.i2 ≠ p.i2 then some 78 else if p.i3 ≠ 0 ∧ s.i3 ≠ p.i3 then some 79 else none
def lateOf (p : Pl) (s : Sn) : Int × Int :=
  if p.keep = true then (if s.state = 5 then (76, 0) else (0, 1))
  else if s.state ≠ 127 ∧ s.state ≠ 4 then (69, 2)
  else if s.code ≠ 0 then (74, 0)
  else if 0 < p.its.length ∧ (p.day ≠ 0 ∨ p.time ≠ 0) ∧ (s.day ≠ p.day ∨ s.time ≠ p.time) then (71, 3)
  else if s.beat = false then (75, 4)
  else (0, 1)
/-- A node's status, and what is to be done. -/
def judgeOf (p : Pl) (s : Sn) : Int × Int :=
  if s.there = false then (66, 4)
  else if p.dev ≠ 0 ∧ s.dev ≠ p.dev then (67, 0)
  else match identOf p s with
    | some c => (c, 0)
    | none => lateOf p s

/-- What is known of a node: 0 open, 1 running, 2 given up; how often it was looked at; its status. -/
structure Nd where
  p : Pl
  is : Int
  looked : Int
  status : Int
def Nd.new (p : Pl) : Nd := ⟨p, 0, 0, 0⟩
def againOf (c : Int) : Bool := c == 66 || c == 75 || c == 69 || c == 71

/-- A boot. -/
structure Bs where
  l : List Nd
  tries : Int
  halted : Bool

def cfgOf (p : Pl) : Int := if p.node < 1 ∨ 127 < p.node then 1 else if 1024 < p.its.length ∨ ∃ x ∈ p.its, 65536 < x.2.2.length then 2 else 0
def newErr : List Int → List Pl → Int
  | _, [] => 0
  | seen, p :: r => if cfgOf p ≠ 0 then cfgOf p else if p.node ∈ seen then 5 else newErr (seen ++ [p.node]) r
def newOf (l : List Pl) (tries : Int) : Int := if 127 < l.length then 2 else if tries < 1 ∨ 1000 < tries then 1 else newErr [] l

/-- The place of the open node that was looked at least, of the first k. -/
def bestI (l : List Nd) : Nat → Option Nat
  | 0 => none
  | k + 1 => match l[k]? with
    | none => bestI l k
    | some x => if x.is = 0 then (match bestI l k with
        | none => some k
        | some j => (match l[j]? with
          | some y => if x.looked < y.looked then some k else some j
          | none => some j)) else bestI l k
def nextOf (b : Bs) : Int × Bool := match bestI b.l b.l.length with
  | none => (0, false)
  | some j => if b.halted = true then (0, false) else (match b.l[j]? with | some y => (y.p.node, true) | none => (0, false))

def placeN (l : List Nd) (n : Int) : Option Nat := l.findIdx? (fun x => x.p.node == n)

/-- A node that was seen so. -/
def Nd.seen (x : Nd) (s : Sn) (tries : Int) : Nd :=
  let c := (judgeOf x.p s).1
  ⟨x.p, if c = 0 ∨ c = 76 then 1 else if againOf c = false ∨ tries ≤ x.looked + 1 then 2 else 0, x.looked + 1, c⟩
def sawOf (b : Bs) (n : Int) (s : Sn) : Bs × Int × Int × Int :=
  match placeN b.l n with
  | none => (b, 0, 0, 4)
  | some i => match b.l[i]? with
    | none => (b, 0, 0, 4)
    | some x => if x.is ≠ 0 ∨ b.halted = true then (b, 0, 0, 6)
      else (⟨b.l.set i (x.seen s b.tries), b.tries, b.halted || (decide ((x.seen s b.tries).is = 2) && x.p.mand)⟩, (judgeOf x.p s).1, (judgeOf x.p s).2, 0)
def lostN (b : Bs) (n : Int) : Bs × Int :=
  match placeN b.l n with
  | none => (b, 4)
  | some i => match b.l[i]? with
    | none => (b, 4)
    | some x => if x.is ≠ 1 then (b, 6) else (⟨b.l.set i (Nd.new x.p), b.tries, b.halted⟩, 0)
def mayOf (b : Bs) : Bool := !b.halted && !(b.l.any fun x => x.p.mand && !(x.is == 1))
def runOf (b : Bs) : List Int := (b.l.filter fun x => x.is == 1).map (·.p.node)

theorem ident_vals {p : Pl} {s : Sn} {c : Int} (h : identOf p s = some c) : c = 68 ∨ c = 77 ∨ c = 78 ∨ c = 79 := by
  unfold identOf at h
  repeat' split at h
  all_goals simp at h
  all_goals omega
theorem judge_one (p : Pl) (s : Sn) : (judgeOf p s).2 = 1 ↔ (judgeOf p s).1 = 0 := by
  unfold judgeOf
  split
  · simp
  · split
    · simp
    · cases h : identOf p s with
      | some c =>
        have := ident_vals h
        simp only
        omega
      | none =>
        simp only [lateOf]
        repeat' split
        all_goals simp

end Go.Proofs.Ytjjmkpjclhielaa
