/- Plain functions on lists of bytes: what the functions of package lexis compute; own text of this session. -/
import Derived.Lib.SlTrimSet
namespace Go.Proofs.Hr
abbrev Bs := List UInt8
def isBlank (c : UInt8) : Bool := c == 32 || c == 9
def trim (s : Bs) : Bs := Lib.trimS s [32, 9]
/-- What a digit of a base says. -/
def digitOf (base : Nat) (c : UInt8) : Option Nat :=
  if 48 ≤ c && c ≤ 57 then (if c.toNat - 48 < base then some (c.toNat - 48) else none)
  else if 97 ≤ c && c ≤ 122 then (if c.toNat - 87 < base then some (c.toNat - 87) else none)
  else if 65 ≤ c && c ≤ 90 then (if c.toNat - 55 < base then some (c.toNat - 55) else none)
  else none
def digitsGo (base : Nat) : Bs → Nat → Bool → Option (Nat × Bool)
  | [], n, big => some (n, big)
  | c :: r, n, big => match digitOf base c with
    | none => none
    | some d => if big then digitsGo base r n big else digitsGo base r (n * base + d) (decide (9007199254740992 < n * base + d))
def digits (base : Nat) (s : Bs) : Int × Int :=
  match digitsGo base s 0 false with
  | none => (0, 50)
  | some (n, big) => if s = [] then (0, 50) else if big then (0, 51) else ((n : Int), 0)
def put (part : Bs) (out : List Bs) : List Bs := if trim part = [] then out else out ++ [trim part]
/-- A list's elements: what is left, the part at hand, whether it is quoted, what was found. -/
def listGo : Bs → Bs → Bool → List Bs → List Bs
  | [], part, _, out => put part out
  | [c], part, q, out =>
    if c == 44 && !q then put [] (put part out) else put (part ++ [c]) out
  | c :: d :: r, part, q, out =>
    if c == 34 then listGo (d :: r) (part ++ [c]) (!q) out
    else if c == 92 && q then listGo r (part ++ [c, d]) q out
    else if c == 44 && !q then listGo (d :: r) [] q (put part out)
    else listGo (d :: r) (part ++ [c]) q out
def list (s : Bs) : List Bs := listGo s [] false []
end Go.Proofs.Hr
