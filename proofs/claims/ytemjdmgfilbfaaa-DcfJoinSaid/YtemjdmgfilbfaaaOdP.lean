/-
  A dictionary, as a list of entries and values in order. Plain: no Go function is named here.
-/
import Derived.Test.YtemjdmgfilbfaaaTyP
namespace Go.Proofs.Ytemjdmgfilbfaaa
open Go.RowKit

structure En where
  idx : Int
  sub : Int
  acc : Int
  mp : Bool
  lim : Bool
  mn : Va
  mx : Va
  df : Va
deriving DecidableEq

def En.zero : En := ⟨0, 0, 0, false, false, .zero, .zero, .zero⟩
def En.ok (x : En) : Prop := 0 ≤ x.idx ∧ x.idx ≤ 65535 ∧ 0 ≤ x.sub ∧ x.sub ≤ 255 ∧ x.mn.ok ∧ x.mx.ok ∧ x.df.ok
def plE (x : En) : Int := x.idx * 256 + x.sub
def numE (x : En) : Bool := decide (sizeT x.df.ty ≠ 0)
def codeHigh : Int := 101253169
def codeLow : Int := 101253170
def codeGeneral : Int := 134217728
def codeNoRead : Int := 100728833
def codeNoWrite : Int := 100728834
def codeNoObject : Int := 100794368
def codeLong : Int := 101122066
def codeShort : Int := 101122067
def codeNoSub : Int := 101253137
def codeBad : Int := 101253168

/-- The code with which a value is refused by limits; false: the limits can't be. -/
def withinE (x : En) (v : Va) : Int × Bool :=
  if (orderV v x.mn).2 ≠ 0 ∨ (orderV v x.mx).2 ≠ 0 then (0, false)
  else if 0 < (orderV v x.mx).1 then (codeHigh, true) else if (orderV v x.mn).1 < 0 then (codeLow, true) else (0, true)
/-- .. as the code tells it. -/
def withinC (x : En) (v : Va) : Int := if (withinE x v).2 = false then codeGeneral else (withinE x v).1
def entryE (x : En) : Int :=
  if checkV x.df ≠ 0 then checkV x.df
  else if x.acc < 0 ∨ 3 < x.acc ∨ (x.mp = true ∧ numE x = false) ∨ (x.lim = true ∧ ¬ (numE x = true ∧ withinE x x.df = (0, true))) then 1 else 0
def chkE : List Int → List En → Int
  | _, [] => 0
  | seen, x :: r => if entryE x ≠ 0 then entryE x else if plE x ∈ seen then 5 else chkE (seen ++ [plE x]) r
def checkE (l : List En) : Int := if 1024 < l.length then 2 else chkE [] l

/-- An entry and its value. -/
abbrev Im := En × Va
def plainE (x : En) : En := ⟨x.idx, x.sub, x.acc, x.mp, x.lim, x.mn, x.mx, plainV x.df⟩
def newI (x : En) : Im := (plainE x, plainV x.df)
/-- x, put into an ordered list ahead of the first that is not below it. -/
def insE (x : En) : List En → List En
  | [] => [x]
  | y :: r => if plE y < plE x then y :: insE x r else x :: y :: r
def sortE (l : List En) : List En := l.foldl (fun d x => insE x d) []
def newD (l : List En) : List Im := (sortE (l.map plainE)).map fun x => (x, x.df)

def isAt (i s : Int) (x : Im) : Bool := x.1.idx == i && x.1.sub == s
def findD (d : List Im) (i s : Int) : Option Nat := d.findIdx? (isAt i s)
def findC (d : List Im) (i s : Int) : Int := if (findD d i s).isSome then 0 else if d.any (fun x => x.1.idx == i) then codeNoSub else codeNoObject
def readD (d : List Im) (i s : Int) : List UInt8 × Int :=
  match findD d i s with
  | none => ([], findC d i s)
  | some k => match d[k]? with
    | none => ([], 0)
    | some x => if x.1.acc = 1 then ([], codeNoRead) else ((encV x.2).1, 0)
/-- What an entry would say of bytes: the code, and the value. -/
def takeE (x : En) (b : List UInt8) : Int × Va :=
  if x.acc ≠ 1 ∧ x.acc ≠ 2 then (codeNoWrite, .zero)
  else if (decV x.df.ty b).2 = 3 then (codeShort, (decV x.df.ty b).1)
  else if (decV x.df.ty b).2 = 2 then (codeLong, (decV x.df.ty b).1)
  else if (decV x.df.ty b).2 ≠ 0 then (codeBad, (decV x.df.ty b).1)
  else if x.lim = true then (withinC x (decV x.df.ty b).1, (decV x.df.ty b).1)
  else (0, (decV x.df.ty b).1)
def mayD (d : List Im) (i s : Int) (b : List UInt8) : Int :=
  match findD d i s with
  | none => findC d i s
  | some k => match d[k]? with
    | none => 0
    | some x => (takeE x.1 b).1
def writeD (d : List Im) (i s : Int) (b : List UInt8) : List Im :=
  match findD d i s with
  | none => d
  | some k => match d[k]? with
    | none => d
    | some x => if (takeE x.1 b).1 = 0 then d.set k (x.1, (takeE x.1 b).2) else d
def setC (x : Im) (v : Va) : Int := if x.1.acc = 3 ∨ v.ty ≠ x.2.ty then 1 else checkV v
def setD (d : List Im) (i s : Int) (v : Va) : List Im × Int :=
  match findD d i s with
  | none => (d, 4)
  | some k => match d[k]? with
    | none => (d, 4)
    | some x => if setC x v ≠ 0 then (d, setC x v) else (d.set k (x.1, plainV v), 0)
def resetD (d : List Im) : List Im := d.map fun x => (x.1, x.1.df)
def saveI (x : Im) : List UInt8 := if x.1.acc = 2 then leOf x.1.idx 2 ++ leOf x.1.sub 1 ++ leOf (encV x.2).1.length 4 ++ (encV x.2).1 else []
def saveD (d : List Im) : List UInt8 := d.flatMap saveI
end Go.Proofs.Ytemjdmgfilbfaaa
