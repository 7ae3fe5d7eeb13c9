/- Plain: what a stream of requests is, on lists of bytes. -/
namespace Go.Proofs.Ytgdgnpjgemcjgaa
inductive LR | more | bad | ok (text rest : List UInt8)
def LR.cons (b : UInt8) : LR → LR
  | .ok t r => .ok (b :: t) r
  | x => x
/-- A line: at most k bytes ahead of the 10. -/
def lineR : Nat → List UInt8 → LR
  | _, [] => .more
  | k, b :: r => if b = 10 then .ok [] r else match k with | 0 => .bad | k + 1 => (lineR k r).cons b
def trim13 (t : List UInt8) : List UInt8 := if t.getLast? = some 13 then t.dropLast else t
def digitsF (most : Nat) : Nat → List UInt8 → Option Nat
  | n, [] => some n
  | n, b :: r => if b < 48 ∨ 57 < b then none else if most < 10 * n + (b.toNat - 48) then none else digitsF most (10 * n + (b.toNat - 48)) r
def countR (most : Nat) (s : List UInt8) : Option Nat := if s = [] ∨ (1 < s.length ∧ s.head? = some 48) then none else digitsF most 0 s
inductive Res (α : Type) | more | fault (w : List UInt8) | ok (a : α) (rest : List UInt8)
structure Lim where
  bulk : Nat
  args : Nat
  line : Nat
def wBulk : List UInt8 := [98, 117, 108, 107]
def wLine : List UInt8 := [108, 105, 110, 101]
def wLength : List UInt8 := [108, 101, 110, 103, 116, 104]
def wEnd : List UInt8 := [101, 110, 100]
def wCount : List UInt8 := [99, 111, 117, 110, 116]
def wQuotes : List UInt8 := [113, 117, 111, 116, 101, 115]
def wWords : List UInt8 := [119, 111, 114, 100, 115]
def bulkR (l : Lim) (s : List UInt8) : Res (List UInt8) :=
  match s with
  | [] => .more
  | b :: _ => if b ≠ 36 then .fault wBulk else
    match lineR l.line s with
    | .more => .more
    | .bad => .fault wLine
    | .ok t r => match countR l.bulk (trim13 t).tail with
      | none => .fault wLength
      | some n => if r.length ≤ n then .more else if r[n]? ≠ some 13 then .fault wEnd else if r.length ≤ n + 1 then .more else if r[n + 1]? ≠ some 10 then .fault wEnd else .ok (r.take n) (r.drop (n + 2))
def bulksR (l : Lim) : Nat → List UInt8 → Res (List (List UInt8))
  | 0, s => .ok [] s
  | n + 1, s => match bulkR l s with
    | .more => .more
    | .fault w => .fault w
    | .ok a r => match bulksR l n r with
      | .more => .more
      | .fault w => .fault w
      | .ok as r' => .ok (a :: as) r'
def blankB (b : UInt8) : Bool := b == 9 || b == 10 || b == 13 || b == 32
def hexV (c : UInt8) : Option Nat :=
  if 48 ≤ c ∧ c ≤ 57 then some (c.toNat - 48) else if 97 ≤ c ∧ c ≤ 102 then some (c.toNat - 97 + 10) else if 65 ≤ c ∧ c ≤ 70 then some (c.toNat - 65 + 10) else none
def singleL : List UInt8 → Option (List UInt8 × List UInt8)
  | [] => none
  | b :: r => if b = 39 then some ([], r) else
    match r with
    | [] => none
    | c :: r' => if b = 92 ∧ c = 39 then (singleL r').map (fun p => (39 :: p.1, p.2)) else (singleL (c :: r')).map (fun p => (b :: p.1, p.2))
def escB (c : UInt8) : UInt8 := if c = 110 then 10 else if c = 114 then 13 else if c = 116 then 9 else if c = 98 then 8 else if c = 97 then 7 else c
def doubleL : List UInt8 → Option (List UInt8 × List UInt8)
  | [] => none
  | b :: r => if b = 34 then some ([], r) else
    match r with
    | [] => none
    | c :: r' => if b = 92 then
        match r' with
        | h1 :: h2 :: r'' => match decide (c = 120), hexV h1, hexV h2 with
          | true, some x, some y => (doubleL r'').map (fun p => (UInt8.ofNat (16 * x + y) :: p.1, p.2))
          | _, _, _ => (doubleL (h1 :: h2 :: r'')).map (fun p => (escB c :: p.1, p.2))
        | [h1] => (doubleL [h1]).map (fun p => (escB c :: p.1, p.2))
        | [] => none
      else (doubleL (c :: r')).map (fun p => (b :: p.1, p.2))
def endsWord (s : List UInt8) : Bool := match s with | [] => true | b :: _ => blankB b
/-- A word; none: a part does not end, or goes on. -/
def wordL : List UInt8 → Option (List UInt8 × List UInt8)
  | [] => some ([], [])
  | b :: r => if blankB b then some ([], b :: r) else
    if b ≠ 34 ∧ b ≠ 39 then (wordL r).map (fun p => (b :: p.1, p.2)) else
    match (if b = 34 then doubleL r else singleL r) with
    | none => none
    | some (part, rest) => if endsWord rest then some (part, rest) else none
def splitF : Nat → List UInt8 → Option (List (List UInt8))
  | 0, _ => some []
  | n + 1, s => match s with
    | [] => some []
    | b :: r => if blankB b then splitF n r else
      match wordL (b :: r) with
      | none => none
      | some (w, rest) => (splitF n rest).map (w :: ·)
def splitL (s : List UInt8) : Option (List (List UInt8)) := splitF s.length s
def thingR (l : Lim) (s : List UInt8) : Res (List (List UInt8)) :=
  match lineR l.line s with
  | .more => .more
  | .bad => .fault wLine
  | .ok t r =>
    if s.head? = some 42 then
      match countR l.args (trim13 t).tail with
      | none => .fault wCount
      | some n => bulksR l n r
    else match splitL (trim13 t) with
      | none => .fault wQuotes
      | some ws => if l.args < ws.length then .fault wWords else if ws.any (fun w => decide (l.bulk < w.length)) then .fault wWords else .ok ws r
/-- The next request: passing things that say nothing; what was used is what stands ahead of the rest. -/
def reqF (l : Lim) : Nat → List UInt8 → Res (List (List UInt8)) × List UInt8
  | 0, s => (.more, s)
  | n + 1, s => match thingR l s with
    | .more => (.more, s)
    | .fault w => (.fault w, s)
    | .ok [] r => reqF l n r
    | .ok (a :: as) r => (.ok (a :: as) r, r)
def reqR (l : Lim) (s : List UInt8) := reqF l (s.length + 1) s
end Go.Proofs.Ytgdgnpjgemcjgaa
