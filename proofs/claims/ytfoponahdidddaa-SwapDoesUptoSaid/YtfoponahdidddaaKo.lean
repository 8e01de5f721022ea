/- Own: what compose's walker does, in plain words. -/
import Derived.Test.YtfoponahdidddaaP0
namespace Go.Proofs.Ytfoponahdidddaa.P
open Go.RowKit Go.Proofs.YtfoponahdidddaaW.PrintWords Go.Proofs.YtfoponahdidddaaW.PrintLast Go.Proofs.YtfoponahdidddaaW.PrintMore

/-- What is left of a row behind so many lines of the middle. -/
def dropL (l : List Op) (n : Int) : List Op :=
  match l with
  | [] => []
  | o :: l => if o.f0 = 1 ∧ o.f1 > n then ⟨o.f0, wrap64 (o.f1 - n), o.f2⟩ :: l else l
/-- The next step; behind the end it skips. -/
def nextL (l : List Op) (n : Int) : Op := match l with | [] => ⟨1, n, ⟨#[]⟩⟩ | o :: _ => o
/-- What a line of the middle is, of two steps: its text, how many, what is told. -/
def lineL (x y : Op) : ByteArray × Int × Step :=
  if x.f0 ≠ 1 ∧ y.f0 ≠ 1 then (x.f2, 1, if x.f0 = 2 then ⟨y, if y.f0 = 2 then 0 else 2, false⟩ else if y.f0 = 2 then ⟨x, 1, false⟩ else ⟨x, 1, true⟩)
  else if x.f0 ≠ 1 then (x.f2 ++ y.f2, 1, ⟨x, if x.f0 = 2 then 0 else 1, false⟩)
  else if y.f0 ≠ 1 then (x.f2 ++ y.f2, 1, ⟨y, if y.f0 = 2 then 0 else 2, false⟩)
  else (x.f2 ++ y.f2, min x.f1 y.f1, ⟨⟨1, min x.f1 y.f1, ⟨#[]⟩⟩, 0, false⟩)
/-- Is the line none: the middle is at its end, or both know it, and otherwise. -/
def noneL (x y : Op) (op : Bool) : Bool := op || (decide (x.f0 ≠ 1) && decide (y.f0 ≠ 1) && decide (x.f2 ≠ y.f2))
def opnB (t : ByteArray) : Bool := decide (t ≠ ⟨#[]⟩) && decide (t.data.toList.getLast? ≠ some 10)
/-- Does a row begin with a step of a kind? -/
def hdK (k : Int) (l : List Op) : Bool := match l with | [] => false | o :: _ => decide (o.f0 = k)
def headO (l : List Op) : Op := match l with | [] => ⟨0, 0, ⟨#[]⟩⟩ | o :: _ => o
/-- Both gone through together, so many rounds at most; nothing: they never go together. -/
def walkO : Nat → List Op → List Op → Bool → Option (List Step)
  | 0, _, _, _ => some []
  | n + 1, ps, qs, op =>
    if ps.length + qs.length = 0 then some []
    else if hdK 3 ps = true then (walkO n ps.tail qs op).map (⟨headO ps, 1, false⟩ :: ·)
    else if hdK 4 qs = true then (walkO n ps qs.tail op).map (⟨headO qs, 2, false⟩ :: ·)
    else if noneL (nextL ps 2147483648) (nextL qs 2147483648) op = true then none
    else (walkO n (dropL ps (lineL (nextL ps 2147483648) (nextL qs 2147483648)).2.1) (dropL qs (lineL (nextL ps 2147483648) (nextL qs 2147483648)).2.1) (opnB (lineL (nextL ps 2147483648) (nextL qs 2147483648)).1)).map ((lineL (nextL ps 2147483648) (nextL qs 2147483648)).2.2 :: ·)
/-- Steps that the walk speaks of: not too long, with right numbers. -/
def okW1 (o : Op) : Bool := (decide (o.f0 ≠ 1) || (decide (1 ≤ o.f1) && decide (o.f1 ≤ 2147483648))) && decide (o.f2.size < 1073741824)
def okW (p q : List Op) : Bool := p.all okW1 && (q.all okW1 && decide (p.length + q.length ≤ 1099511627776))
/-- The same for the reference's walk: what skips has no text, what is known has one. -/
def okR1 (o : Op) : Bool := okW1 o && ((decide (o.f0 = 1) == decide (o.f2 = ⟨#[]⟩)) && decide (o.f0 = 1 ∨ o.f0 = 2 ∨ o.f0 = 3 ∨ o.f0 = 4))
def okR (p q : List Op) : Bool := p.all okR1 && (q.all okR1 && decide (p.length + q.length ≤ 1099511627776))
/-- What the reference's walk tells of a walk. -/
def byS (os : List Step) : List By := (os.filter fun s => !s.f2).map fun s => ⟨s.f0, s.f1⟩
def metS (os : List Step) : Bool := os.any fun s => s.f2
end Go.Proofs.Ytfoponahdidddaa.P
