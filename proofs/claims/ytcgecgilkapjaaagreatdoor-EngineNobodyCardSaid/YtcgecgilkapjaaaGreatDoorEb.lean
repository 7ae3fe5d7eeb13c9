/- The evaluator: what each operation does to its state. No program is named. -/
import Derived.Test.YtcgecgilkapjaaaGreatDoorEa
import Derived.Test.YtcgecgilkapjaaaGreatDoorProg
namespace Go.Proofs.YtcgecgilkapjaaaGreatDoor
open Go
noncomputable section

/-- What a tree of the model's comes to that asks the program alone. -/
def quick {α : Type} (P : Program) : Sem α → Option α
  | .pure a => some a
  | .program k => quick P (k P)
  | .mark _ k => quick P k
  | _ => none

theorem quick_run {α : Type} {P : Program} : ∀ {s : Sem α} {a : α}, quick P s = some a → ∀ w, s.run P w = .ok a w
  | .pure _, _, h, _ => by simp only [quick, Option.some.injEq] at h; subst h; rfl
  | .program k, _, h, w => by simp only [quick] at h; simp only [Sem.run]; exact quick_run h w
  | .mark _ k, _, h, w => by simp only [quick] at h; simp only [Sem.run]; exact quick_run h w
  | .load .., _, h, _ => by simp [quick] at h
  | .store .., _, h, _ => by simp [quick] at h
  | .new .., _, h, _ => by simp [quick] at h
  | .shape .., _, h, _ => by simp [quick] at h
  | .freeze .., _, h, _ => by simp [quick] at h
  | .frozen .., _, h, _ => by simp [quick] at h
  | .getObj .., _, h, _ => by simp [quick] at h
  | .setObj .., _, h, _ => by simp [quick] at h
  | .choose .., _, h, _ => by simp [quick] at h
  | .sys .., _, h, _ => by simp [quick] at h
  | .halt .., _, h, _ => by simp [quick] at h

/-- The program. -/
noncomputable def P : Program := Tryz.prog

/-- Is it a row of cells (how many), or one cell? -/
def tyAgg (t : TypeId) : Option (Option Nat) :=
  match P.underlying t with
  | some (.struct _) | some (.array _ _) => match P.info? t with
    | some i => some (some i.size)
    | none => none
  | some _ => some none
  | none => none

def sizeIn (t : TypeId) : Option Nat := (P.info? t).map (·.size)

def cellsFrom (c : Tr Value) : Nat → Nat → Option (List Value)
  | _, 0 => some []
  | o, n + 1 => match c.get o with
    | some v => match cellsFrom c (o + 1) n with
      | some l => some (v :: l)
      | none => none
    | none => none

def putCells (c : Tr Value) : Nat → List Value → Option (Tr Value)
  | _, [] => some c
  | o, v :: l => match c.get o with
    | some _ => match v with
      | .agg _ | .tuple _ => none
      | v => putCells (c.set o (some v)) (o + 1) l
    | none => none

def St.new (st : St) (a : AObj) : St := ⟨st.heap.set st.next (some a), st.next + 1⟩
def St.put (st : St) (k : Nat) (a : AObj) : St := ⟨st.heap.set k (some a), st.next⟩

def aLoadAs (a : Option (Option Nat)) : Tr Value → Nat → Option Value :=
  match a with
  | some none => fun c o => c.get o
  | some (some n) => fun c o => match cellsFrom c o n with
    | some l => some (.agg ⟨l⟩)
    | none => none
  | none => fun _ _ => none

def aLoadIn (b : Option AObj) : Nat → Option (Option Nat) → Option Value :=
  match b with
  | some (.cells _ _ c) => fun o a => aLoadAs a c o
  | _ => fun _ _ => none

def aLoad (x : Value) : TypeId → St → Option Value :=
  match x with
  | .pointer (some ⟨k, o, none⟩) => fun t st => aLoadIn (st.heap.get k) o (tyAgg t)
  | _ => fun _ _ => none

def aStoreAs (c : Option (Tr Value)) : Nat → Nat → St → Option St :=
  match c with
  | some c => fun k u st => some (st.put k (.cells false u c))
  | none => fun _ _ _ => none

def aStoreIn (b : Option AObj) : Nat → Nat → Option Nat → List Value → St → Option St :=
  match b with
  | some (.cells false u c) => fun k o n l st => match n with
    | some n => bif Nat.beq l.length n then aStoreAs (putCells c o l) k u st else none
    | none => none
  | _ => fun _ _ _ _ _ => none

def aStore (x : Value) : TypeId → Value → St → Option St :=
  match x with
  | .pointer (some ⟨k, o, none⟩) => fun t v st => aStoreIn (st.heap.get k) k o (sizeIn t) v.cells.toList st
  | _ => fun _ _ _ => none

/-- A part of a row of cells, as a value. -/
def aPart (t : TypeId) (cs : List Value) (off : Nat) : Option Value :=
  match tyAgg t with
  | some (some n) => some (.agg ⟨(cs.drop off).take n⟩)
  | some none => cs[off]?
  | none => none

def newCells (st : St) (u : Nat) (l : List Value) : Value × St :=
  (.pointer (some ⟨st.next, 0, none⟩), st.new (.cells false u (Tr.fill .nil 0 l)))

def aZero (t : TypeId) : Option Value :=
  match P.info? t with
  | some i => match i.zero with
    | some z => bif flat z then some z else none
    | none => none
  | none => none

def aAlloc (t : TypeId) (st : St) : Option (Value × St) :=
  match aZero t with
  | some z => some (newCells st (mark t 65535) z.cells.toList)
  | none => none

def aBox (t : TypeId) (v : Value) (st : St) : Option (Value × St) := some (newCells st (mark t 65535) v.cells.toList)

/-- Parts laid into a row, as a tree. -/
def aFill (place : Nat → Option (Nat × Nat)) (n : Nat) (c : Tr Value) : List (Nat × Value) → Option (Tr Value)
  | [] => some c
  | (i, v) :: l => match place i with
    | some (off, size) => bif Nat.beq v.cells.toList.length size && Nat.ble (off + size) n then aFill place n (Tr.fill c off v.cells.toList) l else none
    | none => none

def repl (z : List Value) : Nat → List Value
  | 0 => []
  | n + 1 => z ++ repl z n

/-- So many zeros. -/
def aZeros (elem : TypeId) (size len : Nat) : Option (List Value) :=
  bif Nat.beq (len * size) 0 then some [] else match aZero elem with
    | some z => bif Nat.beq z.cells.toList.length size then some (repl z.cells.toList len) else none
    | none => none

def aBuildSlice (t : TypeId) (len : Nat) (parts : List (Nat × Value)) (st : St) : Option (Value × St) :=
  match P.underlying t with
  | some (.slice elem) => match sizeIn elem with
    | some size => bif Nat.ble (len * size) 16777216 && Nat.ble size 65534 then
        match aZeros elem size len with
        | some zs => match aFill (fun i => some (i * size, size)) (len * size) (Tr.fill .nil 0 zs) parts with
          | some c => some (.slice (some ⟨st.next, 0, none⟩) len len, st.new (.cells false (mark elem size) c))
          | none => none
        | none => none
      else none
    | none => none
  | _ => none

def aBuild (t : TypeId) (parts : List (Nat × Value)) : Option Value :=
  match P.info? t with
  | some i => match i.zero with
    | some z => match P.underlying t with
      | some (.struct fields) => match fields.toList.mapM (fun f => (sizeIn f.type).map fun n => (f.offset, n)) with
        | some places => match Instr.fill (fun i => places[i]?) z.cells parts with
          | some cs => bif flat z then some (.agg cs) else none
          | none => none
        | none => none
      | some (.array _ elem) => match sizeIn elem with
        | some size => match Instr.fill (fun i => some (i * size, size)) z.cells parts with
          | some cs => bif flat z then some (.agg cs) else none
          | none => none
        | none => none
      | _ => none
    | none => none
  | none => none

def aFieldAddr (s : TypeId) (x : Value) (f : Nat) : Option Value :=
  match x with
  | .pointer (some ⟨k, o, none⟩) => match P.underlying s with
    | some (.struct fields) => match fields[f]? with
      | some fd => match sizeIn fd.type with
        | some (_ + 1) => some (.pointer (some ⟨k, o + fd.offset, none⟩))
        | _ => none
      | none => none
    | _ => none
  | _ => none

def aField (s : TypeId) (x : Value) (f : Nat) : Option Value :=
  match x with
  | .agg ⟨cs⟩ => match P.underlying s with
    | some (.struct fields) => match fields[f]? with
      | some fd => aPart fd.type cs fd.offset
      | none => none
    | _ => none
  | _ => none

def inRange (i : Int) (n : Nat) : Bool :=
  match i with
  | .ofNat m => Nat.blt m n
  | .negSucc _ => false

def aIndexAddr (t : TypeId) (x ix : Value) : Option Value :=
  match ix with
  | .int _ i => match P.underlying t, x with
    | some (.array len elem), .pointer (some ⟨k, o, none⟩) => match sizeIn elem with
      | some u => bif inRange i len then some (.pointer (some ⟨k, o + i.toNat * u, none⟩)) else none
      | none => none
    | some (.slice elem), .slice (some ⟨k, o, none⟩) len _ => match sizeIn elem with
      | some u => bif inRange i len then some (.pointer (some ⟨k, o + i.toNat * u, none⟩)) else none
      | none => none
    | _, _ => none
  | _ => none

def aIndex (t : TypeId) (x ix : Value) : Option Value :=
  match ix with
  | .int _ i => match P.underlying t, x with
    | some (.array len elem), .agg ⟨cs⟩ => match sizeIn elem with
      | some u => bif inRange i len then aPart elem cs (i.toNat * u) else none
      | none => none
    | some .string, .string ⟨⟨s⟩⟩ => match i with
      | .ofNat m => match s[m]? with
        | some b => some (.int .u8 b.toNat)
        | none => none
      | .negSucc _ => none
    | _, _ => none
  | _ => none

/-- A bound of a slice expression. -/
def aBound (v : Option Value) (most : Nat) (dflt : Nat) : Option Nat :=
  match v with
  | none => some dflt
  | some (.int _ (.ofNat m)) => bif Nat.ble m most then some m else none
  | _ => none

/-- low, high, max of a slice expression. -/
def aBounds (len cap : Nat) (lo hi mx : Option Value) : Option (Nat × Nat × Nat) :=
  match hi, mx with
  | none, some _ => none
  | _, _ => match aBound mx cap cap with
    | some m => match aBound hi m len with
      | some h => match aBound lo h 0 with
        | some l => some (l, h, m)
        | none => none
      | none => none
    | none => none

def aSlice (t : TypeId) (x : Value) (lo hi mx : Option Value) (st : St) : Option Value :=
  match P.underlying t, x with
  | some .string, .string ⟨⟨s⟩⟩ => match mx with
    | some _ => none
    | none => match aBounds s.length s.length lo hi none with
      | some (l, h, _) => bif Nat.ble h s.length then some (.string ⟨⟨(s.take h).drop l⟩⟩) else none
      | none => none
  | some (.slice elem), .slice none 0 0 => match aBounds 0 0 lo hi mx, sizeIn elem with
    | some _, some _ => some (.slice none 0 0)
    | _, _ => none
  | some (.slice elem), .slice (some ⟨k, o, none⟩) len cap => match st.heap.get k with
    | some (.cells _ u _) => match sizeIn elem with
      | some size => bif Nat.beq size (Nat.mod u 65536) && Nat.ble len cap then match aBounds len cap lo hi mx with
          | some (l, h, m) => bif Nat.beq m l then some (.slice (some ⟨k, o, none⟩) 0 0) else some (.slice (some ⟨k, o + l * size, none⟩) (h - l) (m - l))
          | none => none
        else none
      | none => none
    | _ => none
  | some (.array n elem), .pointer (some ⟨k, o, none⟩) => match sizeIn elem with
    | some size => match aBounds n n lo hi mx with
      | some (l, h, m) => bif Nat.beq m l then some (.slice (some ⟨k, o, none⟩) (h - l) (m - l)) else some (.slice (some ⟨k, o + l * size, none⟩) (h - l) (m - l))
      | none => none
    | none => none
  | _, _ => none

def isFace (t : TypeId) : Option Bool :=
  match P.underlying t with
  | some (.interface _) => some true
  | some _ => some false
  | none => none

def aTypeAssert (x : Value) (t : TypeId) (ok : Bool) : Option Value :=
  match isFace t with
  | some true => match x with
    | .iface d _ => match P.underlying t, P.info? d with
      | some (.interface want), some i => match Instr.missingMethod want i.methods with
        | none => some (bif ok then .tuple ⟨[x, .bool true]⟩ else x)
        | some _ => bif ok then match aZero t with
            | some z => some (.tuple ⟨[z, .bool false]⟩)
            | none => none
          else none
      | _, _ => none
    | .nilIface => bif ok then match aZero t with
        | some z => some (.tuple ⟨[z, .bool false]⟩)
        | none => none
      else none
    | _ => none
  | some false => match x with
    | .iface d v => bif Nat.beq d t then some (bif ok then .tuple ⟨[v, .bool true]⟩ else v)
      else bif ok then match aZero t with
        | some z => some (.tuple ⟨[z, .bool false]⟩)
        | none => none
      else none
    | .nilIface => bif ok then match aZero t with
        | some z => some (.tuple ⟨[z, .bool false]⟩)
        | none => none
      else none
    | _ => none
  | none => none

/-- Are two keys the same? (Numbers, texts, truth values alone.) -/
def bytesEq : List UInt8 → List UInt8 → Bool
  | [], [] => true
  | a :: x, b :: y => Nat.beq a.toNat b.toNat && bytesEq x y
  | _, _ => false

def bytesLt : List UInt8 → List UInt8 → Bool
  | _, [] => false
  | [], _ :: _ => true
  | a :: x, b :: y => bif Nat.beq a.toNat b.toNat then bytesLt x y else Nat.blt a.toNat b.toNat

def intEq : Int → Int → Bool
  | .ofNat a, .ofNat b => Nat.beq a b
  | .negSucc a, .negSucc b => Nat.beq a b
  | _, _ => false

def intLt : Int → Int → Bool
  | .ofNat a, .ofNat b => Nat.blt a b
  | .negSucc a, .negSucc b => Nat.blt b a
  | .negSucc _, .ofNat _ => true
  | .ofNat _, .negSucc _ => false

def keyEq : TypeDesc → Value → Value → Option Bool
  | .int _, .int k a, .int k' b => if k = k' then some (intEq a b) else none
  | .string, .string ⟨⟨a⟩⟩, .string ⟨⟨b⟩⟩ => some (bytesEq a b)
  | .bool, .bool a, .bool b => some (a == b)
  | _, _, _ => none

def aFind (d : TypeDesc) (k : Value) : List MapEntry → Nat → Option (Option (Nat × Value))
  | [], _ => some none
  | e :: es, i => match keyEq d k e.key with
    | some true => some (some (i, e.val))
    | some false => aFind d k es (i + 1)
    | none => none

/-- May it be a key (of a kind that cannot be unhashable)? -/
def plainKey : TypeDesc → Value → Bool
  | .int _, .int _ _ | .string, .string _ | .bool, .bool _ => true
  | _, _ => false

def aEntries (x : Value) (st : St) : Option (List MapEntry) :=
  match x with
  | .map none => some []
  | .map (some r) => match st.heap.get r with
    | some (.map es _) => some es
    | _ => none
  | _ => none

def aLookup (t : TypeId) (x ix : Value) (ok : Bool) (st : St) : Option Value :=
  match P.underlying t with
  | some (.map key elem) => match P.underlying key with
    | some d => bif plainKey d ix then match aEntries x st with
        | some es => match aFind d ix es 0 with
          | some (some (_, v)) => some (bif ok then .tuple ⟨[v, .bool true]⟩ else v)
          | some none => match aZero elem with
            | some z => some (bif ok then .tuple ⟨[z, .bool false]⟩ else z)
            | none => none
          | none => none
        | none => none
      else none
    | none => none
  | _ => none

def aMapUpdate (t : TypeId) (m k x : Value) (st : St) : Option St :=
  match P.underlying t, m with
  | some (.map key _), .map (some r) => match P.underlying key, st.heap.get r with
    | some d, some (.map es clock) => bif plainKey d k then match aFind d k es 0 with
        | some (some (i, _)) => some (st.put r (.map (es.modify i fun e => ⟨k, x, e.born⟩) clock))
        | some none => some (st.put r (.map (es ++ [⟨k, x, clock⟩]) (clock + 1)))
        | none => none
      else none
    | _, _ => none
  | _, _ => none

def aDelete (t : TypeId) (m k : Value) (st : St) : Option St :=
  match P.underlying t, m with
  | some (.map key _), .map (some r) => match P.underlying key, st.heap.get r with
    | some d, some (.map es clock) => bif plainKey d k then match aFind d k es 0 with
        | some (some (i, _)) => some (st.put r (.map (es.eraseIdx i) clock))
        | some none => some st
        | none => none
      else none
    | _, _ => none
  | some (.map key _), .map none => match P.underlying key with
    | some d => bif plainKey d k then some st else none
    | none => none
  | _, _ => none

/-- The kinds of type at which nil is. -/
def nilable : TypeDesc → Value → Value → Option Bool
  | .pointer _, .pointer none, .pointer b => some b.isNone
  | .pointer _, .pointer (some _), .pointer none => some false
  | .interface _, .nilIface, .iface _ _ => some false
  | .interface _, .iface _ _, .nilIface => some false
  | .slice _, .slice none _ _, .slice b _ _ => some b.isNone
  | .slice _, .slice (some _) _ _, .slice none _ _ => some false
  | .map _ _, .map none, .map b => some b.isNone
  | .map _ _, .map (some _), .map none => some false
  | .func _ _ _, .nilFunc, .nilFunc => some true
  | .func _ _ _, .nilFunc, .func _ _ _ => some false
  | .func _ _ _, .func _ _ _, .nilFunc => some false
  | _, _, _ => none

def aEq (t : TypeId) (x y : Value) : Option Bool :=
  match P.underlying t with
  | some d => match nilable d x y with
    | some b => some b
    | none => match d, x, y with
      | .pointer elem, .pointer (some ⟨k, o, none⟩), .pointer (some ⟨k', o', none⟩) => match sizeIn elem with
        | some (_ + 1) => bif Nat.beq k k' then some (Nat.beq o o') else none
        | _ => none
      | .interface _, .iface tx _, .iface ty _ => bif Nat.beq tx ty then none else some false
      | _, _, _ => none
  | none => none

def kindNo : IntKind → Nat
  | .i8 => nat_lit 0 | .i16 => nat_lit 1 | .i32 => nat_lit 2 | .i64 => nat_lit 3 | .u8 => nat_lit 4 | .u16 => nat_lit 5 | .u32 => nat_lit 6 | .u64 => nat_lit 7

def fit (k : IntKind) : Nat → Bool :=
  match k with
  | .i64 => fun m => Nat.ble (Nat.succ m) (nat_lit 9223372036854775808)
  | .u8 => fun m => Nat.ble (Nat.succ m) (nat_lit 256)
  | .u32 => fun m => Nat.ble (Nat.succ m) (nat_lit 4294967296)
  | .u64 => fun m => Nat.ble (Nat.succ m) (nat_lit 18446744073709551616)
  | _ => fun _ => false

def fitNeg (k : IntKind) : Nat → Bool :=
  match k with
  | .i64 => fun m => Nat.ble (Nat.succ m) (nat_lit 9223372036854775808)
  | _ => fun _ => false

def wr (n : Int) : IntKind → Int :=
  match n with
  | .ofNat m => fun k => bif fit k m then .ofNat m else k.wrap (.ofNat m)
  | .negSucc m => fun k => bif fitNeg k m then .negSucc m else k.wrap (.negSucc m)

def intSub (a : Int) : Int → Int :=
  match a with
  | .ofNat m => fun b => match b with
    | .ofNat n => bif Nat.ble n m then .ofNat (Nat.sub m n) else .negSucc (Nat.sub (Nat.sub n m) (nat_lit 1))
    | b => Int.sub (.ofNat m) b
  | a => fun b => Int.sub a b

def aIntOp (op : BinOp) : IntKind → Int → Int → Option Value :=
  match op with
  | .add => fun k a b => some (.int k (wr (Int.add a b) k))
  | .sub => fun k a b => some (.int k (wr (intSub a b) k))
  | .mul => fun k a b => some (.int k (wr (Int.mul a b) k))
  | .eql => fun _ a b => some (.bool (intEq a b))
  | .neq => fun _ a b => some (.bool (!intEq a b))
  | .lss => fun _ a b => some (.bool (intLt a b))
  | .gtr => fun _ a b => some (.bool (intLt b a))
  | .leq => fun _ a b => some (.bool (!intLt b a))
  | .geq => fun _ a b => some (.bool (!intLt a b))
  | _ => fun _ _ _ => none

def aTextOp (op : BinOp) : List UInt8 → List UInt8 → Option Value :=
  match op with
  | .add => fun a b => bif Nat.ble (Nat.add a.length b.length) (nat_lit 9223372036854775807) then some (.string ⟨⟨a ++ b⟩⟩) else none
  | .eql => fun a b => some (.bool (bytesEq a b))
  | .neq => fun a b => some (.bool (!bytesEq a b))
  | .lss => fun a b => some (.bool (bytesLt a b))
  | .gtr => fun a b => some (.bool (!(bytesLt a b || bytesEq a b)))
  | .leq => fun a b => some (.bool (bytesLt a b || bytesEq a b))
  | .geq => fun a b => some (.bool (!bytesLt a b))
  | _ => fun _ _ => none

/-- Two numbers, or two texts. -/
def aArith (x : Value) : Value → BinOp → Option Value :=
  match x with
  | .int k a => fun y => match y with
    | .int k' b => fun op => bif Nat.beq (kindNo k) (kindNo k') then aIntOp op k a b else none
    | _ => fun _ => none
  | .string ⟨⟨a⟩⟩ => fun y => match y with
    | .string ⟨⟨b⟩⟩ => fun op => aTextOp op a b
    | _ => fun _ => none
  | _ => fun _ _ => none

def aOther (op : BinOp) (t : TypeId) (a b : Operand) (x y : Value) : Option Value :=
  bif flat x && flat y then match quick P (do eqGuard op t a b x y; binOp op t x y) with
    | some v => bif flat v then some v else none
    | none => none
  else none

def aEqOr (r : Option Bool) : Bool → BinOp → TypeId → Operand → Operand → Value → Value → Option Value :=
  match r with
  | some b => fun eq _ _ _ _ _ _ => some (.bool (bif eq then b else !b))
  | none => fun _ op t a b x y => aOther op t a b x y

def aBinOr (r : Option Value) : BinOp → TypeId → Operand → Operand → Value → Value → Option Value :=
  match r with
  | some v => fun _ _ _ _ _ _ => some v
  | none => fun op => match op with
    | .eql => fun t a b x y => aEqOr (aEq t x y) true .eql t a b x y
    | .neq => fun t a b x y => aEqOr (aEq t x y) false .neq t a b x y
    | op => fun t a b x y => aOther op t a b x y

def aBin (op : BinOp) (t : TypeId) (a b : Operand) (x y : Value) : Option Value := aBinOr (aArith x y op) op t a b x y

def aConvert (src dst : TypeId) (x : Value) (st : St) : Option Value :=
  match x with
  | .slice none 0 0 => match P.underlying src, P.underlying dst with
    | some (.slice e), some .string => match P.underlying e with
      | some (.int .u8) => some (.string ⟨⟨[]⟩⟩)
      | _ => none
    | _, _ => none
  | .slice (some ⟨k, o, none⟩) n _ => match P.underlying src, P.underlying dst with
    | some (.slice e), some .string => match P.underlying e, st.heap.get k with
      | some (.int .u8), some (.cells _ _ c) => match cellsFrom c o n with
        | some l => match l.mapM (fun v => match v with | .int .u8 m => some (UInt8.ofNat m.toNat) | _ => none) with
          | some s => some (.string ⟨⟨s⟩⟩)
          | none => none
        | none => none
      | _, _ => none
    | _, _ => none
  | x => bif flat x then match quick P (convert src dst x) with
      | some v => bif flat v then some v else none
      | none => none
    else none

/-- []byte(s). -/
def aBytes (src dst : TypeId) (x : Value) (st : St) : Option (Value × St) :=
  match x with
  | .string ⟨⟨s⟩⟩ => match P.underlying src, P.underlying dst with
    | some .string, some (.slice e) => match P.underlying e with
      | some (.int .u8) => some (.slice (some ⟨st.next, 0, none⟩) s.length s.length, st.new (.cells false (mark e 1) (Tr.fill .nil 0 (s.map fun b => .int .u8 b.toNat))))
      | _ => none
    | _, _ => none
  | _ => none

def aMakeSlice (t : TypeId) (len cap : Value) (st : St) : Option (Value × St) :=
  match len, cap with
  | .int _ (.ofNat l), .int _ (.ofNat c) => match P.underlying t with
    | some (.slice elem) => match P.info? elem with
      | some i => bif Nat.ble l c && Nat.ble c 16777216 && Nat.ble i.bytes 65536 && Nat.ble i.size 65534 then
          match aZeros elem i.size c with
          | some zs => some (.slice (some ⟨st.next, 0, none⟩) l c, st.new (.cells false (mark elem i.size) (Tr.fill .nil 0 zs)))
          | none => none
        else none
      | none => none
    | _ => none
  | _, _ => none

def aLen (t : TypeId) (x : Value) (st : St) : Option Value :=
  match P.underlying t, x with
  | some .string, .string ⟨⟨s⟩⟩ => some (.int .i64 s.length)
  | some (.array n _), _ => some (.int .i64 n)
  | some (.slice _), .slice _ n _ => some (.int .i64 n)
  | some (.map _ _), x => match aEntries x st with
    | some es => some (.int .i64 es.length)
    | none => none
  | _, _ => none

/-- The cells that are appended or copied: how many elements, which. -/
def aSource (size : Nat) (n : Nat) (x : Value) (st : St) : Option (List Value) :=
  match x with
  | .slice none 0 0 => bif Nat.beq n 0 then some [] else none
  | .slice (some ⟨k, o, none⟩) _ _ => bif Nat.beq n 0 then some [] else match st.heap.get k with
    | some (.cells _ _ c) => cellsFrom c o (n * size)
    | _ => none
  | .string ⟨⟨s⟩⟩ => some ((s.take n).map fun b => .int .u8 b.toNat)
  | _ => none

def aLenOf : Value → Option Nat
  | .slice _ n _ => some n
  | .string ⟨⟨s⟩⟩ => some s.length
  | _ => none

/-- What append lays down: so many elements, which cells. (append(s, make([]E, n)...) comes as a number.) -/
def aNew (elem : TypeId) (i : TypeInfo) (d : TypeDesc) (x : Value) (st : St) : Option (Nat × List Value) :=
  match d, x with
  | .int _, .int _ (.ofNat n) => bif Nat.ble n 16777216 then
      match aZeros elem i.size n with
      | some zs => some (n, zs)
      | none => none
    else none
  | .int _, _ => none
  | _, x => match aLenOf x with
    | some n => match aSource i.size n x st with
      | some l => some (n, l)
      | none => none
    | none => none

def oneCells : List Value → Bool
  | [] => true
  | v :: l => (match v with | .agg _ => false | .tuple _ => false | _ => true) && oneCells l

/-- Behind what is there: into the block where its room is known; else the block is let go, and a new one has it all. -/
def aLay (q size n : Nat) (new : List Value) (s : Value) (st : St) : Option (Value × St) :=
  match s with
  | .slice none 0 0 => bif Nat.beq n 0 then some (.slice none 0 0, st) else bif Nat.ble n 16777216 then
      some (.slice (some ⟨st.next, 0, none⟩) n n, st.new (.cells false q (Tr.fill .nil 0 new)))
    else none
  | .slice (some ⟨k, o, none⟩) len cap => bif Nat.ble (len + n) cap then
      (bif Nat.beq n 0 then some (.slice (some ⟨k, o, none⟩) len cap, st) else match st.heap.get k with
      | some (.cells false u c) => match putCells c (o + len * size) new with
        | some c' => some (.slice (some ⟨k, o, none⟩) (len + n) cap, st.put k (.cells false u c'))
        | none => none
      | _ => none)
    else bif Nat.ble (len + n) 16777216 && oneCells new then match st.heap.get k with
      | some (.cells false u c) => bif Nat.beq u q then match cellsFrom c o (len * size) with
          | some old => some (.slice (some ⟨st.next, 0, none⟩) (len + n) (len + n), (St.mk (st.heap.set k none) st.next).new (.cells false q (Tr.fill .nil 0 (old ++ new))))
          | none => none
        else none
      | _ => none
    else none
  | _ => none

def aAppend (ats : List TypeId) (s x : Value) (st : St) : Option (Value × St) :=
  match ats with
  | [t, t'] => match P.underlying t, P.underlying t' with
    | some (.slice elem), some d => match P.info? elem, aZero elem with
      | some i, some z => bif Nat.ble i.bytes 65536 && (Nat.blt 0 i.size && Nat.ble i.size 65534) && Nat.blt 0 i.bytes && Nat.beq z.cells.toList.length i.size then match aNew elem i d x st with
          | some (n, new) => bif Nat.beq new.length (Nat.mul n i.size) then aLay (mark elem i.size) i.size n new s st else none
          | none => none
        else none
      | _, _ => none
    | _, _ => none
  | _ => none

def aCopy (t : TypeId) (d s : Value) (st : St) : Option (Value × St) :=
  match P.underlying t with
  | some (.slice elem) => match sizeIn elem, aLenOf s, d with
    | some size, some m, .slice base dl _ => match aSource size (Nat.min m dl) s st with
      | some l => match base with
        | none => match l with
          | [] => some (.int .i64 (Nat.min m dl : Nat), st)
          | _ => none
        | some ⟨k, o, none⟩ => match l with
          | [] => some (.int .i64 (Nat.min m dl : Nat), st)
          | l => match st.heap.get k with
            | some (.cells false u c) => match putCells c o l with
              | some c' => some (.int .i64 (Nat.min m dl : Nat), st.put k (.cells false u c'))
              | none => none
            | _ => none
        | _ => none
      | none => none
    | _, _, _ => none
  | _ => none

def aClear (t : TypeId) (x : Value) (st : St) : Option St :=
  match x with
  | .map none => some st
  | .slice none _ _ => some st
  | .slice (some ⟨k, o, none⟩) n _ => bif Nat.beq n 0 then some st else match P.underlying t, st.heap.get k with
    | some (.slice elem), some (.cells false u c) => match aZero elem with
      | some z => match putCells c o (repl z.cells.toList n) with
        | some c' => some (st.put k (.cells false u c'))
        | none => none
      | none => none
    | _, _ => none
  | .map (some r) => match st.heap.get r with
    | some (.map _ clock) => some (st.put r (.map [] clock))
    | _ => none
  | _ => none

def aRange (t : TypeId) (x : Value) (st : St) : Option (Value × St) :=
  match P.underlying t, x with
  | some .string, .string s => some (.pointer (some ⟨st.next, 0, none⟩), st.new (.sIter s 0))
  | some (.map _ _), .map none => some (.pointer (some ⟨st.next, 0, none⟩), st.new (.mIter none 0 [] 0))
  | some (.map _ _), .map (some m) => match st.heap.get m with
    | some (.map _ clock) => some (.pointer (some ⟨st.next, 0, none⟩), st.new (.mIter (some m) clock [] clock))
    | _ => none
  | _, _ => none

def aNext (x : Value) (isString : Bool) (st : St) : Option (Value × St) :=
  match x with
  | .pointer (some ⟨k, 0, none⟩) => match st.heap.get k, isString with
    | some (.sIter s pos), true => bif Nat.blt pos s.size then
        match Utf8.decode s pos with
        | (c, width) => some (.tuple ⟨[.bool true, .int .i64 pos, .int .i32 c]⟩, st.put k (.sIter s (pos + width)))
      else some (.tuple ⟨[.bool false]⟩, st)
    | some (.mIter none _ _ _), false => some (.tuple ⟨[.bool false]⟩, st)
    | some (.mIter (some m) since seen last), false => match st.heap.get m with
      | some (.map es clock) =>
        bif !seen.isEmpty && !es.isEmpty && es.all (fun e => Nat.ble last e.born) then none else
        match es.filter (fun e => !seen.contains e.born) with
        | [] => some (.tuple ⟨[.bool false]⟩, st)
        | [e] => bif Nat.blt e.born since then
            some (.tuple ⟨[.bool true, e.key, e.val]⟩, st.put k (.mIter (some m) since (seen ++ [e.born]) clock))
          else none
        | _ => none
      | _ => none
    | _, _ => none
  | _ => none

def aEntry (x : Value) (st : St) : Option Value :=
  match x with
  | .pointer (some ⟨k, 0, none⟩) => match st.heap.get k with
    | some (.mIter (some m) _ seen stepped) => match seen.getLast?, st.heap.get m with
      | some stamp, some (.map es clock) => bif Nat.beq clock stepped then match es.find? (fun e => Nat.beq e.born stamp) with
          | some e => some (.tuple ⟨[e.key, e.val]⟩)
          | none => none
        else none
      | _, _ => none
    | _ => none
  | _ => none

def evalAll (ev : Operand → Option Value) : List Operand → Option (List Value)
  | [] => some []
  | x :: l => match ev x with
    | some v => match evalAll ev l with
      | some vs => some (v :: vs)
      | none => none
    | none => none

def evalParts (ev : Operand → Option Value) : List (Nat × Operand) → Option (List (Nat × Value))
  | [] => some []
  | (i, x) :: l => match ev x with
    | some v => match evalParts ev l with
      | some vs => some ((i, v) :: vs)
      | none => none
    | none => none

def evalOpt (ev : Operand → Option Value) : Option Operand → Option (Option Value)
  | none => some none
  | some x => match ev x with
    | some v => some (some v)
    | none => none

abbrev Ev := Operand → Option Value

/-- Two values at once. -/
def two {α : Type} (a b : Option Value) (f : Value → Value → Option α) : Option α :=
  match a with
  | some x => match b with
    | some y => f x y
    | none => none
  | none => none

def aPick (c : Option Value) : Ev → Operand → Operand → Option Value :=
  match c with
  | some (.bool true) => fun ev a _ => ev a
  | some (.bool false) => fun ev _ b => ev b
  | _ => fun _ _ _ => none

def aNilCheck (x : Option Value) : Option Value :=
  match x with
  | some (.pointer (some a)) => some (.pointer (some a))
  | some (.iface t v) => some (.iface t v)
  | some (.func (.func f) a b) => some (.func (.func f) a b)
  | _ => none

def aUn (op : UnOp) (v : Value) : Option Value :=
  match op, v with
  | .not, .bool b => some (.bool !b)
  | op, v => bif flat v then (quick P (Op.unary op v)).bind fun r => bif flat r then some r else none else none

def aFace (f : Option Bool) : TypeId → Value → Option Value :=
  match f with
  | some false => fun t v => some (.iface t v)
  | _ => fun _ _ => none

def aExtract (x : Option Value) : Nat → Option Value :=
  match x with
  | some (.tuple ⟨l⟩) => fun i => l[i]?
  | _ => fun _ => none

def aBuiltin (b : Builtin) (vs : List Value) (ats : List TypeId) (st : St) : Option Value :=
  match b, vs, ats with
  | .len, x :: _, t :: _ => aLen t x st
  | .cap, (.slice none _ c) :: _, t :: _ => match P.underlying t with
    | some (.slice _) => some (.int .i64 c)
    | _ => none
  | .min, [.int k a, .int k' b], _ => bif Nat.beq (kindNo k) (kindNo k') then some (.int k (bif intLt b a then b else a)) else none
  | .max, [.int k a, .int k' b], _ => bif Nat.beq (kindNo k) (kindNo k') then some (.int k (bif intLt a b then b else a)) else none
  | _, _, _ => none

/-- The operations that only look: what they yield. -/
def aRead (o : Op) : Ev → St → Option Value :=
  match o with
  | .move x => fun ev _ => ev x
  | .pick c a b => fun ev _ => aPick (ev c) ev a b
  | .build t ps => fun ev _ => (evalParts ev ps.toList).bind (aBuild t)
  | .load t a => fun ev st => (ev a).bind fun x => aLoad x t st
  | .nilCheck x => fun ev _ => aNilCheck (ev x)
  | .binOp op t a b _ => fun ev _ => two (ev a) (ev b) (aBin op t a b)
  | .unOp op _ x => fun ev _ => (ev x).bind (aUn op)
  | .convert s d x => fun ev st => (ev x).bind fun v => aConvert s d v st
  | .makeInterface t x => fun ev _ => (ev x).bind fun v => aFace (isFace t) t v
  | .makeFunc fn a b => fun ev _ => (evalAll ev a.toList).bind fun x => (evalAll ev b.toList).bind fun y => some (.func fn ⟨x⟩ ⟨y⟩)
  | .slice t x lo hi mx => fun ev st => (ev x).bind fun v => (evalOpt ev lo).bind fun l => (evalOpt ev hi).bind fun h => (evalOpt ev mx).bind fun m => aSlice t v l h m st
  | .fieldAddr s x f => fun ev _ => (ev x).bind fun v => aFieldAddr s v f
  | .field s x f => fun ev _ => (ev x).bind fun v => aField s v f
  | .indexAddr t x i => fun ev _ => two (ev x) (ev i) (aIndexAddr t)
  | .index t x i => fun ev _ => two (ev x) (ev i) (aIndex t)
  | .lookup t x i ok => fun ev st => two (ev x) (ev i) fun v j => aLookup t v j ok st
  | .typeAssert x _ t ok => fun ev _ => (ev x).bind fun v => aTypeAssert v t ok
  | .entry x => fun ev st => (ev x).bind fun v => aEntry v st
  | .extract x i => fun ev _ => aExtract (ev x) i
  | .call ⟨.builtin b, args, ats⟩ => fun ev st => (evalAll ev args.toList).bind fun vs => aBuiltin b vs ats.toList st
  | _ => fun _ _ => none

/-- What an operation comes to. -/
inductive ANext where
  | value (v : Value)
  | enter (f : FuncId) (args : List Value)
  | defer (f : FuncId) (args : List Value)

def asValue : Option (Value × St) → Option (ANext × St)
  | some (v, st) => some (.value v, st)
  | none => none

def asSkip : Option St → Option (ANext × St)
  | some st => some (.value undef, st)
  | none => none

def asNone : Option St → Option (ANext × St)
  | some st => some (.value (.tuple ⟨[]⟩), st)
  | none => none

/-- A method's function, at the dynamic type. -/
def aMethod (t : TypeId) (name : String) : Option FuncId :=
  match P.info? t with
  | some i => match i.methods.toList.find? (fun m => m.name == name) with
    | some ⟨_, _, ⟨[]⟩, some (f, p)⟩ => match P.underlying t, p with
      | some (.pointer _), true => some f
      | some (.pointer _), false => none
      | some _, false => some f
      | _, _ => none
    | _ => none
  | none => none

/-- Whom a call calls, with what (the callee's own first). -/
def aTarget (c : Callee) : Ev → List Operand → Option (FuncId × List Value) :=
  match c with
  | .value f => fun ev args => match ev f with
    | some (.func (.func f) ⟨[]⟩ ⟨[]⟩) => (evalAll ev args).bind fun vs => some (f, vs)
    | some (.func (.func f) ⟨a⟩ ⟨b⟩) => (evalAll ev args).bind fun vs => some (f, a ++ vs ++ b)
    | _ => none
  | .invoke r name => fun ev args => match ev r with
    | some (.iface t v) => (evalAll ev args).bind fun vs => (aMethod t name).bind fun f => some (f, v :: vs)
    | _ => none
  | .builtin _ => fun _ _ => none

/-- Has the function a body (and is it none that the model takes for itself)? -/
def hasBody (f : FuncId) : Bool :=
  match P.funcs[f]? with
  | some fn => match fn.body with
    | some _ => !(fn.name == "runtime.NumGoroutine")
    | none => false
  | none => false

/-- Functions without a body that turn nothing: what they yield. -/
abbrev Ext0 := FuncId → Option (List Value → Option Value)

def aCallOut (g : Option (List Value → Option Value)) (vs : List Value) (st : St) : Option (ANext × St) :=
  match g with
  | some g => match g vs with
    | some v => some (.value v, st)
    | none => none
  | none => none

def aCall (X : Ext0) (t : Option (FuncId × List Value)) : St → Option (ANext × St) :=
  match t with
  | some (f, vs) => fun st => bif hasBody f then some (.enter f vs, st) else aCallOut (X f) vs st
  | none => fun _ => none

def aDefer (t : Option (FuncId × List Value)) : St → Option (ANext × St) :=
  match t with
  | some (f, vs) => fun st => bif hasBody f then some (.defer f vs, st) else none
  | none => fun _ => none

def aDo (b : Builtin) (vs : List Value) (ats : List TypeId) (st : St) : Option (ANext × St) :=
  match b, vs, ats with
  | .append, [s, x], [t, t'] => asValue (aAppend [t, t'] s x st)
  | .copy, [d, s], t :: _ => asValue (aCopy t d s st)
  | .clear, [x], t :: _ => match P.underlying t with
    | some _ => asNone (aClear t x st)
    | none => none
  | .delete, [m, k], t :: _ => asNone (aDelete t m k st)
  | _, _, _ => none

def aAct (o : Op) : Ext0 → Ev → St → Option (ANext × St) :=
  match o with
  | .assign x => fun _ ev st => (ev x).bind fun v => some (.value v, st)
  | .alloc t => fun _ _ st => asValue (aAlloc t st)
  | .box t x => fun _ ev st => (ev x).bind fun v => asValue (aBox t v st)
  | .buildSlice t n ps => fun _ ev st => (evalParts ev ps.toList).bind fun l => asValue (aBuildSlice t n l st)
  | .store t a x => fun _ ev st => two (ev a) (ev x) fun p v => asSkip (aStore p t v st)
  | .convert s d x => fun _ ev st => (ev x).bind fun v => asValue (aBytes s d v st)
  | .makeMap _ none => fun _ _ st => some (.value (.map (some st.next)), st.new (.map [] 0))
  | .makeSlice t l c => fun _ ev st => two (ev l) (ev c) fun x y => asValue (aMakeSlice t x y st)
  | .mapUpdate t m k x => fun _ ev st => two (ev m) (ev k) fun mv kv => (ev x).bind fun v => asSkip (aMapUpdate t mv kv v st)
  | .insert t m k x => fun _ ev st => two (ev m) (ev k) fun mv kv => (ev x).bind fun v => asSkip (aMapUpdate t mv kv v st)
  | .range t x => fun _ ev st => (ev x).bind fun v => asValue (aRange t v st)
  | .next x s => fun _ ev st => (ev x).bind fun v => asValue (aNext v s st)
  | .defer ⟨.value x, args, _⟩ => fun _ ev st => aDefer (aTarget (.value x) ev args.toList) st
  | .call ⟨.builtin b, args, ats⟩ => fun _ ev st => (evalAll ev args.toList).bind fun vs => aDo b vs ats.toList st
  | .call ⟨c, args, _⟩ => fun X ev st => aCall X (aTarget c ev args.toList) st
  | _ => fun _ _ _ => none

def aOpOr (r : Option Value) : Op → Ext0 → Ev → St → Option (ANext × St) :=
  match r with
  | some v => fun _ _ _ st => some (.value v, st)
  | none => fun o X ev st => aAct o X ev st

/-- An operation: one that only looks, or one that does something. -/
def aOp (o : Op) (X : Ext0) (ev : Ev) (st : St) : Option (ANext × St) := aOpOr (aRead o ev st) o X ev st

def flatQ (v : Value) : Bool :=
  match v with
  | .int _ _ => true
  | .bool _ => true
  | .string _ => true
  | v => flat v

def asConst (b : Bool) : Value → Option Value :=
  match b with
  | true => fun v => some v
  | false => fun _ => none

def asGlobal (a : Option AObj) : Nat → Nat → Option Value :=
  match a with
  | some _ => fun G g => bif Nat.ble (Nat.succ g) G then some (.pointer (some ⟨g, 0, none⟩)) else none
  | none => fun _ _ => none

def aEval (x : Operand) : Nat → St → Tr Value → Option Value :=
  match x with
  | .tmp t => fun _ _ tm => tm.get t
  | .const v => fun _ _ _ => asConst (flatQ v) v
  | .global g => fun G st _ => asGlobal (st.heap.get g) G g
  | .func f => fun _ _ _ => some (.func (.func f) ⟨[]⟩ ⟨[]⟩)

end
end Go.Proofs.YtcgecgilkapjaaaGreatDoor
