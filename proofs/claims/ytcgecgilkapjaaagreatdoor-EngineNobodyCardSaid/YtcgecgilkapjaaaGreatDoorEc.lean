/- The evaluator: regions, code, calls. -/
import Derived.Test.YtcgecgilkapjaaaGreatDoorEb
namespace Go.Proofs.YtcgecgilkapjaaaGreatDoor
open Go
noncomputable section

structure EFr where
  tm : Tr Value
  df : List (FuncId × List Value)
  st : St

abbrev ACall := FuncId → List Value → St → Option (Value × St)

/-- What does not change in a frame: how many temporaries, who does the calls. -/
structure En where
  X : Ext0
  G : Nat
  n : Nat
  call : ACall

/-- A temporary gets a value (a frame has n of them). -/
def aPut (dst : Option Tmp) : Nat → Tr Value → Value → Option (Tr Value) :=
  match dst with
  | none => fun _ tm _ => some tm
  | some d => fun n tm v => bif Nat.ble (Nat.succ d) n then some (tm.set d (some v)) else none

/-- Is the operation wanted? -/
def asWanted (v : Option Value) : Bool → Option Bool :=
  match v with
  | some (.bool b) => fun want => some (b == want)
  | some _ => fun _ => some false
  | none => fun _ => none

def aWanted (g : Option (Nat × Bool)) : Array Oper → Tr Value → Option Bool :=
  match g with
  | none => fun _ _ => some true
  | some (j, want) => fun ops tm => match (ops[j]?).bind (·.dst) with
    | none => some false
    | some d => asWanted (tm.get d) want

def asFr (t : Option (Tr Value)) : List (FuncId × List Value) → St → Option EFr :=
  match t with
  | some tm => fun df st => some ⟨tm, df, st⟩
  | none => fun _ _ => none

def aBack (r : Option (Value × St)) : En → Option Tmp → EFr → Option EFr :=
  match r with
  | some (v, st) => fun E dst s => asFr (aPut dst E.n s.tm v) s.df st
  | none => fun _ _ _ => none

/-- What becomes of the frame behind an operation. -/
def aBehind (r : Option (ANext × St)) : En → Option Tmp → EFr → Option EFr :=
  match r with
  | some (.value v, st) => fun E dst s => asFr (aPut dst E.n s.tm v) s.df st
  | some (.defer f vs, st) => fun E dst s => asFr (aPut dst E.n s.tm undef) ((f, vs) :: s.df) st
  | some (.enter f vs, st) => fun E dst s => aBack (E.call f vs st) E dst s
  | none => fun _ _ _ => none

def EFr.ev (s : EFr) (G : Nat) : Ev := fun x => aEval x G s.st s.tm

def aGo (w : Option Bool) : En → Oper → EFr → Option EFr :=
  match w with
  | some true => fun E o s => aBehind (aOp o.op E.X (s.ev E.G) s.st) E o.dst s
  | some false => fun E o s => asFr (aPut o.dst E.n s.tm undef) s.df s.st
  | none => fun _ _ _ => none

def aOne (E : En) (ops : Array Oper) (o : Oper) (s : EFr) : Option EFr := aGo (aWanted o.guard ops s.tm) E o s

def evNext (r : Option EFr) : (En → Array Oper → EFr → Option EFr) → En → Array Oper → Option EFr :=
  match r with
  | some s => fun ih E ops => ih E ops s
  | none => fun _ _ _ => none

def evOps (l : List Oper) : En → Array Oper → EFr → Option EFr :=
  List.rec (motive := fun _ => En → Array Oper → EFr → Option EFr) (fun _ _ s => some s) (fun o _ ih E ops s => evNext (aOne E ops o s) ih E ops) l

/-- An operation of a region that draws: its number, itself, what must come directly ahead of it. -/
structure ERow where
  i : Nat
  o : Oper
  dm : Nat

def bitOf (m i : Nat) : Bool := Nat.testBit m i

def maskOf : List Edge → Nat
  | [] => 0
  | e :: l => bif Region.binds .any e then maskOf l ||| (1 <<< e.on) else maskOf l

def rowsOf : Nat → List Oper → List ERow
  | _, [] => []
  | i, o :: l => ⟨i, o, maskOf o.after.toList⟩ :: rowsOf (i + 1) l

def isReady (la : Nat) (r : ERow) : Bool := !bitOf la r.i && Nat.beq (r.dm &&& la) r.dm

/-- What a hoisted operation yields: one that only looks, or is not wanted. -/
def aHoist (G : Nat) (ops : Array Oper) (o : Oper) (s : EFr) : Option Value :=
  match aWanted o.guard ops s.tm with
  | some true => aRead o.op (s.ev G) s.st
  | some false => some undef
  | none => none

def dstOf (d : Option Tmp) (t : Tmp) : Bool :=
  match d with
  | some d => Nat.beq d t
  | none => false

/-- Whoever looks at this operation's temporary has it ahead; nobody else writes there. -/
def mayHoist (ops : Array Oper) (rows : List ERow) (r : ERow) : Bool :=
  rows.all fun x => (bitOf x.dm r.i || (Oper.looksAt ops x.o).all fun t => !dstOf r.o.dst t) && (Nat.beq x.i r.i || (match x.o.dst with | some d => !dstOf r.o.dst d | none => true))

/-- What is hoisted: an operation that only looks, what it yields; or a new variable: its block, its cells. -/
inductive Held where
  | looks (r : ERow) (v : Value)
  | var (r : ERow) (k : Nat)

def Held.row : Held → ERow
  | .looks r _ => r
  | .var r _ => r

def veqL (f : Value → Value → Bool) : List Value → List Value → Bool
  | [], [] => true
  | a :: x, b :: y => f a b && veqL f x y
  | _, _ => false

/-- The same value? -/
def veq : Nat → Value → Value → Bool
  | _, .bool a, .bool b => a == b
  | _, .int k a, .int k' b => Nat.beq (kindNo k) (kindNo k') && intEq a b
  | _, .string ⟨⟨a⟩⟩, .string ⟨⟨b⟩⟩ => bytesEq a b
  | _, .pointer none, .pointer none => true
  | _, .pointer (some ⟨a, o, none⟩), .pointer (some ⟨b, o', none⟩) => Nat.beq a b && Nat.beq o o'
  | _, .slice none n c, .slice none n' c' => Nat.beq n n' && Nat.beq c c'
  | _, .slice (some ⟨a, o, none⟩) n c, .slice (some ⟨b, o', none⟩) n' c' => Nat.beq a b && Nat.beq o o' && Nat.beq n n' && Nat.beq c c'
  | _, .map none, .map none => true
  | _, .map (some a), .map (some b) => Nat.beq a b
  | _, .chan none, .chan none => true
  | _, .chan (some a), .chan (some b) => Nat.beq a b
  | _, .nilFunc, .nilFunc => true
  | _, .nilIface, .nilIface => true
  | n + 1, .iface t a, .iface t' b => Nat.beq t t' && veq n a b
  | n + 1, .func (.func f) ⟨a⟩ ⟨b⟩, .func (.func g) ⟨a'⟩ ⟨b'⟩ => Nat.beq f g && veqL (veq n) a a' && veqL (veq n) b b'
  | n + 1, .agg ⟨a⟩, .agg ⟨b⟩ => veqL (veq n) a b
  | n + 1, .tuple ⟨a⟩, .tuple ⟨b⟩ => veqL (veq n) a b
  | _, _, _ => false

def tmIs (tm : Tr Value) (dst : Option Tmp) (v : Value) : Bool :=
  match dst with
  | none => true
  | some d => match tm.get d with
    | some u => veq 9 u v
    | none => false

/-- Does what was hoisted still yield the same? -/
def holds (G : Nat) (ops : Array Oper) (s : EFr) : Held → Bool
  | .looks r v => (match aHoist G ops r.o s with
    | some u => veq 9 u v
    | none => false) && tmIs s.tm r.o.dst v
  | .var r k => (match aWanted r.o.guard ops s.tm with | some true => true | _ => false) && tmIs s.tm r.o.dst (.pointer (some ⟨k, 0, none⟩))

/-- The first row that may be hoisted: what it yields, the frame behind. -/
def firstHoist (E : En) (ops : Array Oper) (rows : List ERow) (s : EFr) : List ERow → Option (Held × EFr)
  | [] => none
  | r :: l => match aHoist E.G ops r.o s with
    | some v => bif mayHoist ops rows r then match aPut r.o.dst E.n s.tm v with
        | some tm => some (.looks r v, ⟨tm, s.df, s.st⟩)
        | none => none
      else firstHoist E ops rows s l
    | none => match r.o.op with
      | .alloc t => match aWanted r.o.guard ops s.tm, aZero t with
        | some true, some z => bif mayHoist ops rows r then match aPut r.o.dst E.n s.tm (.pointer (some ⟨s.st.next, 0, none⟩)) with
            | some tm => some (.var r s.st.next, ⟨tm, s.df, s.st.new (.cells false (mark t 65535) (Tr.fill .nil 0 z.cells.toList))⟩)
            | none => none
          else firstHoist E ops rows s l
        | _, _ => firstHoist E ops rows s l
      | _ => firstHoist E ops rows s l

/-- A region that draws: what only looks is taken ahead; of what does something one alone may be ready. -/
def evAny (E : En) (ops : Array Oper) (rows : List ERow) : Nat → Nat → List Held → EFr → Option EFr
  | 0, la, _, s => bif rows.all (fun r => bitOf la r.i) then some s else none
  | k + 1, la, hl, s => match rows.filter (isReady la) with
    | [] => bif rows.all (fun r => bitOf la r.i) then some s else none
    | rd => match firstHoist E ops rows s rd with
      | some (h, s') => bif (h :: hl).all (holds E.G ops s') then evAny E ops rows k (la ||| (1 <<< h.row.i)) (h :: hl) s' else none
      | none => match rd with
        | [r] => match aOne E ops r.o s with
          | some s' => bif (hl.filter fun h => !bitOf r.dm h.row.i).all (holds E.G ops s') then
              evAny E ops rows k (la ||| (1 <<< r.i)) (hl.filter fun h => !bitOf r.dm h.row.i) s' else none
          | none => none
        | _ => none

/-- The edges of a region go back. -/
def goesBack (rows : List ERow) : Bool := rows.all fun r => Nat.ble (Nat.succ r.dm) (1 <<< r.i)

inductive AExit where
  | normal
  | exit (id : Nat)
  | ret

abbrev Ran := Option (AExit × EFr)

def asNormal (r : Option EFr) : Ran :=
  match r with
  | some s => some (.normal, s)
  | none => none

def evRegion (draw : Bool) : En → Array Oper → EFr → Ran :=
  match draw with
  | false => fun E ops s => asNormal (evOps ops.toList E ops s)
  | true => fun E ops s => bif goesBack (rowsOf 0 ops.toList) then asNormal (evAny E ops (rowsOf 0 ops.toList) ops.size 0 [] s) else none

def evSeq (r : Ran) : (En → Nat → EFr → Ran) → En → Nat → Ran :=
  match r with
  | some (.normal, s) => fun k E lf => k E lf s
  | some (.exit id, s) => fun _ _ _ => some (.exit id, s)
  | some (.ret, s) => fun _ _ _ => some (.ret, s)
  | none => fun _ _ _ => none

def evCond (c : Option Value) : (En → Nat → EFr → Ran) → (En → Nat → EFr → Ran) → En → Nat → EFr → Ran :=
  match c with
  | some (.bool true) => fun a _ E lf s => a E lf s
  | some (.bool false) => fun _ b E lf s => b E lf s
  | _ => fun _ _ _ _ _ => none

def evBlock (r : Ran) : Nat → Ran :=
  match r with
  | some (.normal, s) => fun _ => some (.normal, s)
  | some (.exit id', s) => fun id => bif Nat.beq id' id then some (.normal, s) else some (.exit id', s)
  | some (.ret, s) => fun _ => some (.ret, s)
  | none => fun _ => none

def evAgain (r : Ran) : ((EFr → Ran) → EFr → Ran) → (EFr → Ran) → Ran :=
  match r with
  | some (.normal, s) => fun ih body => ih body s
  | some (.exit id, s) => fun _ _ => some (.exit id, s)
  | some (.ret, s) => fun _ _ => some (.ret, s)
  | none => fun _ _ => none

def evLoop (k : Nat) : (EFr → Ran) → EFr → Ran :=
  Nat.rec (motive := fun _ => (EFr → Ran) → EFr → Ran) (fun _ _ => none) (fun _ ih body s => evAgain (body s) ih body) k

def evCode (c : Code) : En → Nat → EFr → Ran :=
  Code.rec (motive := fun _ => En → Nat → EFr → Ran)
    (fun _ _ s => some (.normal, s))
    (fun _ ops draw E _ s => evRegion draw E ops s)
    (fun _ _ a b E lf s => evSeq (a E lf s) b E lf)
    (fun c _ _ a b E lf s => evCond (aEval c E.G s.st s.tm) a b E lf s)
    (fun id _ b E lf s => evBlock (b E lf s) id)
    (fun _ b E lf s => evLoop lf (b E lf) s)
    (fun _ _ _ _ _ _ _ _ _ => none)
    (fun id _ _ s => some (.exit id, s))
    (fun _ b E lf s => b E lf s)
    (fun _ _ _ s => some (.normal, s))
    (fun _ _ _ _ => none)
    (fun _ _ s => some (.ret, s))
    (fun _ _ _ _ => none) c

/-- A function's results. -/
def aResults (tm : Tr Value) (st : St) : List ResultVar → Option (List Value)
  | [] => some []
  | .tmp t :: l => match tm.get t with
    | some v => match aResults tm st l with
      | some vs => some (v :: vs)
      | none => none
    | none => none
  | .cell a t :: l => match tm.get a with
    | some x => match aLoad x t st with
      | some v => match aResults tm st l with
        | some vs => some (v :: vs)
        | none => none
      | none => none
    | none => none

def asResult (l : Option (List Value)) : Option Value :=
  match l with
  | some [v] => some v
  | some vs => some (.tuple ⟨vs⟩)
  | none => none

def aResult (tm : Tr Value) (st : St) (rs : List ResultVar) : Option Value := asResult (aResults tm st rs)

/-- A function's body: the frame at its end. -/
def asEnd (r : Ran) : Option EFr :=
  match r with
  | some (.normal, s) => some s
  | some (.ret, s) => some s
  | _ => none

def evRun (c : Option Code) : Nat → Ext0 → Nat → ACall → Nat → List Value → St → Option EFr :=
  match c with
  | some c => fun nt X G call lf args st => asEnd (evCode c ⟨X, G, args.length + (nt - args.length), call⟩ lf ⟨Tr.fill .nil 0 args, [], st⟩)
  | none => fun _ _ _ _ _ _ _ => none

def evBody (fn : Option Func) : Ext0 → Nat → ACall → Nat → List Value → St → Option EFr :=
  match fn with
  | some fn => fun X G call lf args st => evRun fn.body fn.ntmps X G call lf args st
  | none => fun _ _ _ _ _ _ => none

def resultsOf (fn : Option Func) : List ResultVar :=
  match fn with
  | some fn => fn.results.toList
  | none => []

def evAfter (s : Option EFr) : List ResultVar → (St → Option St) → Option St :=
  match s with
  | some s => fun rs k => match s.df with
    | [] => match aResult s.tm s.st rs with
      | some _ => k s.st
      | none => none
    | _ => none
  | none => fun _ _ => none

/-- The deferred calls, the last first. -/
def evDefers (X : Ext0) (G : Nat) (call : ACall) (lf : Nat) : List (FuncId × List Value) → St → Option St
  | [], st => some st
  | (f, vs) :: l, st => evAfter (evBody P.funcs[f]? X G call lf vs st) (resultsOf P.funcs[f]?) (evDefers X G call lf l)

theorem evDefers_cons (X : Ext0) (G : Nat) (call : ACall) (lf : Nat) (f : FuncId) (vs : List Value) (l : List (FuncId × List Value)) (st : St) :
    evDefers X G call lf ((f, vs) :: l) st = evAfter (evBody P.funcs[f]? X G call lf vs st) (resultsOf P.funcs[f]?) (evDefers X G call lf l) := rfl

def asReturn (st : Option St) : Tr Value → List ResultVar → Option (Value × St) :=
  match st with
  | some st => fun tm rs => match aResult tm st rs with
    | some v => some (v, st)
    | none => none
  | none => fun _ _ => none

def evLeave (s : Option EFr) : Ext0 → Nat → ACall → Nat → List ResultVar → Option (Value × St) :=
  match s with
  | some s => fun X G call lf rs => asReturn (evDefers X G call lf s.df s.st) s.tm rs
  | none => fun _ _ _ _ _ => none

abbrev Known := FuncId → Option (List Value → St → Option (Value × St))

def evGo (o : Option (List Value → St → Option (Value × St))) : ACall → Ext0 → Nat → Nat → FuncId → List Value → St → Option (Value × St) :=
  match o with
  | some o => fun _ _ _ _ _ args st => o args st
  | none => fun call X G lf f args st => evLeave (evBody P.funcs[f]? X G call lf args st) X G call lf (resultsOf P.funcs[f]?)

/-- A call. O: functions whose contract is known. -/
def evCall (X : Ext0) (G : Nat) (O : Known) (lf : Nat) : Nat → FuncId → List Value → St → Option (Value × St)
  | 0, _, _, _ => none
  | d + 1, f, args, st => evGo (O f) (evCall X G O lf d) X G lf f args st

end
end Go.Proofs.YtcgecgilkapjaaaGreatDoor
