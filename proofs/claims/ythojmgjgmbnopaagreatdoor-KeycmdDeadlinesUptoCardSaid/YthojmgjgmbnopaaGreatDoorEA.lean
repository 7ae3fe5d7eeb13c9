/- An evaluator of the model's code over blocks of its own numbering: what a closed call comes to is reckoned by the kernel. Here: its data, and its operations. No program is named. -/
import Derived.Defers
import Derived.Orders
import Derived.Scope
import Derived.Below
import Derived.Test.YthojmgjgmbnopaaGreatDoorProg
import Derived.Laws.Sem
import Derived.Laws.World
namespace Go.Proofs.YthojmgjgmbnopaaGreatDoor
open Go

/-- A table from numbers to things, as a tree. -/
inductive Tr (α : Type) where
  | nil
  | node (l : Tr α) (v : Option α) (r : Tr α)

/-- (By the recursor itself: the kernel is quicker so.) -/
noncomputable def Tr.get {α : Type} (t : Tr α) : Nat → Option α :=
  Tr.rec (motive := fun _ => Nat → Option α) (fun _ => none)
    (fun _ v _ gl gr n => Nat.rec (motive := fun _ => Option α) v
      (fun m _ => Bool.rec (motive := fun _ => Option α) (gr (Nat.div m (nat_lit 2))) (gl (Nat.div m (nat_lit 2))) (Nat.beq (Nat.mod m (nat_lit 2)) (nat_lit 0))) n) t

def Tr.one {α : Type} : Nat → Nat → Option α → Tr α
  | 0, _, _ => .nil
  | f + 1, n, x => match n with
    | 0 => .node .nil x .nil
    | m + 1 => bif Nat.beq (Nat.mod m (nat_lit 2)) (nat_lit 0) then .node (Tr.one f (Nat.div m (nat_lit 2)) x) none .nil else .node .nil none (Tr.one f (Nat.div m (nat_lit 2)) x)

noncomputable def Tr.set {α : Type} (t : Tr α) : Nat → Option α → Tr α :=
  Tr.rec (motive := fun _ => Nat → Option α → Tr α) (fun n x => Tr.one (Nat.succ n) n x)
    (fun l v r pl pr n x => Nat.rec (motive := fun _ => Tr α) (.node l x r)
      (fun m _ => Bool.rec (motive := fun _ => Tr α) (.node l v (pr (Nat.div m (nat_lit 2)) x)) (.node (pl (Nat.div m (nat_lit 2)) x) v r) (Nat.beq (Nat.mod m (nat_lit 2)) (nat_lit 0))) n) t
noncomputable def Tr.fill {α : Type} (t : Tr α) : Nat → List α → Tr α
  | _, [] => t
  | i, x :: l => Tr.fill (t.set i (some x)) (Nat.succ i) l

theorem Tr.get_zero {α : Type} (l : Tr α) (v : Option α) (r : Tr α) : (Tr.node l v r).get 0 = v := rfl
theorem Tr.get_succ {α : Type} (l : Tr α) (v : Option α) (r : Tr α) (m : Nat) : (Tr.node l v r).get (m + 1) = if m % 2 = 0 then l.get (m / 2) else r.get (m / 2) := by
  show Bool.rec (motive := fun _ => Option α) (r.get (m / 2)) (l.get (m / 2)) (Nat.beq (m % 2) 0) = _
  cases h : Nat.beq (m % 2) 0
  · rw [if_neg (Nat.ne_of_beq_eq_false h)]
  · rw [if_pos (Nat.eq_of_beq_eq_true h)]
theorem Tr.get_nil {α : Type} (n : Nat) : (Tr.nil : Tr α).get n = none := rfl

theorem Tr.get_one {α : Type} : ∀ (f n k : Nat) (x : Option α), n < f → (Tr.one f n x).get k = if k = n then x else none
  | 0, _, _, _, h => by omega
  | f + 1, 0, 0, x, _ => rfl
  | f + 1, 0, k + 1, x, _ => by
    rw [if_neg (by omega)]
    show (Tr.node .nil x .nil : Tr α).get (k + 1) = none
    rw [Tr.get_succ]; split <;> rfl
  | f + 1, n + 1, k, x, h => by
    have e : (Tr.one (f + 1) (n + 1) x : Tr α) = if n % 2 = 0 then .node (Tr.one f (n / 2) x) none .nil else .node .nil none (Tr.one f (n / 2) x) := by
      show (bif Nat.beq (n % 2) 0 then _ else _) = _
      cases h : Nat.beq (n % 2) 0
      · rw [if_neg (Nat.ne_of_beq_eq_false h)]; rfl
      · rw [if_pos (Nat.eq_of_beq_eq_true h)]; rfl
    rw [e]
    cases k with
    | zero => rw [if_neg (show ¬ (0 = n + 1) by omega)]; split <;> rfl
    | succ k =>
      split
      · rename_i h1
        rw [Tr.get_succ, Tr.get_one f (n / 2) (k / 2) x (by omega)]
        by_cases h2 : k % 2 = 0
        · rw [if_pos h2]
          by_cases hq : k = n
          · subst hq; rw [if_pos rfl, if_pos rfl]
          · rw [if_neg (by omega), if_neg (by omega)]
        · rw [if_neg h2, if_neg (by omega)]; rfl
      · rename_i h1
        rw [Tr.get_succ, Tr.get_one f (n / 2) (k / 2) x (by omega)]
        by_cases h2 : k % 2 = 0
        · rw [if_pos h2, if_neg (by omega)]; rfl
        · rw [if_neg h2]
          by_cases hq : k = n
          · subst hq; rw [if_pos rfl, if_pos rfl]
          · rw [if_neg (by omega), if_neg (by omega)]

theorem Tr.get_set {α : Type} : ∀ (t : Tr α) (n k : Nat) (x : Option α), (t.set n x).get k = if k = n then x else t.get k
  | .nil, n, k, x => by
    show (Tr.one (n + 1) n x).get k = _
    rw [Tr.get_one _ _ _ _ (by omega), Tr.get_nil]
  | .node l v r, 0, k, x => by
    show (Tr.node l x r).get k = _
    cases k with
    | zero => rfl
    | succ k => rw [if_neg (by omega), Tr.get_succ, Tr.get_succ]
  | .node l v r, n + 1, k, x => by
    have e : (Tr.node l v r).set (n + 1) x = if n % 2 = 0 then .node (l.set (n / 2) x) v r else .node l v (r.set (n / 2) x) := by
      show Bool.rec (motive := fun _ => Tr α) (.node l v (r.set (n / 2) x)) (.node (l.set (n / 2) x) v r) (Nat.beq (n % 2) 0) = _
      cases h : Nat.beq (n % 2) 0
      · rw [if_neg (Nat.ne_of_beq_eq_false h)]
      · rw [if_pos (Nat.eq_of_beq_eq_true h)]
    rw [e]
    cases k with
    | zero => rw [if_neg (show ¬ (0 = n + 1) by omega)]; split <;> rfl
    | succ k =>
      split
      · rename_i h1
        rw [Tr.get_succ, Tr.get_succ, Tr.get_set l]
        by_cases h2 : k % 2 = 0
        · rw [if_pos h2]
          by_cases hq : k = n
          · subst hq; rw [if_pos rfl, if_pos rfl]
          · rw [if_neg (by omega), if_neg (by omega), if_pos h2]
        · rw [if_neg h2, if_neg (by omega), if_neg h2]
      · rename_i h1
        rw [Tr.get_succ, Tr.get_succ, Tr.get_set r]
        by_cases h2 : k % 2 = 0
        · rw [if_pos h2, if_neg (by omega), if_pos h2]
        · rw [if_neg h2]
          by_cases hq : k = n
          · subst hq; rw [if_pos rfl, if_pos rfl]
          · rw [if_neg (by omega), if_neg (by omega), if_neg h2]

theorem Tr.get_fill {α : Type} : ∀ (l : List α) (t : Tr α) (i k : Nat), (t.fill i l).get k = if i ≤ k ∧ k < i + l.length then l[k - i]? else t.get k
  | [], t, i, k => by simp [Tr.fill]; intro h1 h2; omega
  | x :: l, t, i, k => by
    rw [Tr.fill, Tr.get_fill l _ (Nat.succ i) k, Tr.get_set]
    by_cases h : k = i
    · subst h; rw [if_neg (by omega), if_pos rfl, if_pos (by simp only [List.length_cons]; omega)]; simp
    · rw [if_neg h]
      by_cases h2 : i + 1 ≤ k ∧ k < i + 1 + l.length
      · rw [if_pos h2, if_pos (by simp only [List.length_cons]; omega)]
        obtain ⟨j, rfl⟩ : ∃ j, k = i + 1 + j := ⟨k - (i + 1), by omega⟩
        rw [show i + 1 + j - (i + 1) = j by omega, show i + 1 + j - i = j + 1 by omega]; simp
      · rw [if_neg h2, if_neg (by simp only [List.length_cons]; omega)]

/-- A block as the evaluator has it. -/
inductive AObj where
  | cells (ro : Bool) (u : Nat) (c : Tr Value)
  | map (es : List MapEntry) (clock : Nat)
  | sIter (s : ByteArray) (pos : Nat)
  | mIter (m : Option Nat) (since : Nat) (seen : List Nat) (stepped : Nat)

structure St where
  heap : Tr AObj
  next : Nat

/-- No block is named in it. -/
def flatN : Nat → Value → Bool
  | _, .bool _ | _, .int _ _ | _, .float _ _ | _, .complex _ _ _ | _, .string _ | _, .nilFunc | _, .nilIface => true
  | _, .pointer none | _, .slice none _ _ | _, .map none | _, .chan none => true
  | n + 1, .iface _ v => flatN n v
  | n + 1, .func _ ⟨a⟩ ⟨b⟩ => a.all (flatN n) && b.all (flatN n)
  | n + 1, .agg ⟨a⟩ => a.all (flatN n)
  | n + 1, .tuple ⟨a⟩ => a.all (flatN n)
  | _, _ => false
def flat (v : Value) : Bool := flatN 9 v

/-- Where a block of the evaluator's lies in the world: block b, from cell sh on; the block has sz cells; a slice's element has u cells. -/
structure Spot where
  b : Nat
  sh : Nat
  sz : Nat
  u : Nat

abbrev Rho := Nat → Option Spot

mutual
/-- The evaluator's value, and the world's. -/
inductive VR (ρ : Rho) : Value → Value → Prop
  | bool (b : Bool) : VR ρ (.bool b) (.bool b)
  | int (k : IntKind) (n : Int) : VR ρ (.int k n) (.int k n)
  | float (k : FloatKind) (n : Nat) : VR ρ (.float k n) (.float k n)
  | complex (k : FloatKind) (n m : Nat) : VR ρ (.complex k n m) (.complex k n m)
  | string (s : ByteArray) : VR ρ (.string s) (.string s)
  | nilPtr : VR ρ (.pointer none) (.pointer none)
  | ptr {k : Nat} {e : Spot} (o : Nat) (h : ρ k = some e) : VR ρ (.pointer (some ⟨k, o, none⟩)) (.pointer (some ⟨e.b, o + e.sh, none⟩))
  | nilSlice (n c : Nat) : VR ρ (.slice none n c) (.slice none n c)
  | slice {k : Nat} {e : Spot} (o n c c' : Nat) (h : ρ k = some e) (hc : c ≤ c') (hz : c' = c ∨ o + e.sh + c' * e.u = e.sz) :
      VR ρ (.slice (some ⟨k, o, none⟩) n c) (.slice (some ⟨e.b, o + e.sh, none⟩) n c')
  | slice0 {k : Nat} {e : Spot} (o o' c' : Nat) (h : ρ k = some e) (hz : c' = 0 ∨ o' + c' * e.u = e.sz) :
      VR ρ (.slice (some ⟨k, o, none⟩) 0 0) (.slice (some ⟨e.b, o', none⟩) 0 c')
  | nilMap : VR ρ (.map none) (.map none)
  | map {k : Nat} {e : Spot} (h : ρ k = some e) : VR ρ (.map (some k)) (.map (some e.b))
  | nilChan : VR ρ (.chan none) (.chan none)
  | nilFunc : VR ρ .nilFunc .nilFunc
  | nilIface : VR ρ .nilIface .nilIface
  | iface (t : TypeId) {v v' : Value} (h : VR ρ v v') : VR ρ (.iface t v) (.iface t v')
  | func (fn : Fn) {a a' b b' : List Value} (h : VRs ρ a a') (k : VRs ρ b b') : VR ρ (.func fn ⟨a⟩ ⟨b⟩) (.func fn ⟨a'⟩ ⟨b'⟩)
  | agg {a a' : List Value} (h : VRs ρ a a') : VR ρ (.agg ⟨a⟩) (.agg ⟨a'⟩)
  | tuple {a a' : List Value} (h : VRs ρ a a') : VR ρ (.tuple ⟨a⟩) (.tuple ⟨a'⟩)
inductive VRs (ρ : Rho) : List Value → List Value → Prop
  | nil : VRs ρ [] []
  | cons {v v' : Value} {l l' : List Value} (h : VR ρ v v') (k : VRs ρ l l') : VRs ρ (v :: l) (v' :: l')
end

theorem VRs.length {ρ : Rho} : ∀ {l l' : List Value}, VRs ρ l l' → l.length = l'.length
  | _, _, .nil => rfl
  | _, _, .cons _ k => by simp [k.length]

theorem VRs.get {ρ : Rho} : ∀ {l l' : List Value}, VRs ρ l l' → ∀ {i : Nat} {v : Value}, l[i]? = some v → ∃ v', l'[i]? = some v' ∧ VR ρ v v'
  | _, _, .nil, i, v, h => by simp at h
  | _, _, .cons hv k, 0, v, h => by simp at h; subst h; exact ⟨_, by simp, hv⟩
  | _, _, .cons hv k, i + 1, v, h => by simp at h ⊢; exact k.get h

theorem VRs.append {ρ : Rho} : ∀ {l l' m m' : List Value}, VRs ρ l l' → VRs ρ m m' → VRs ρ (l ++ m) (l' ++ m')
  | _, _, _, _, .nil, h => h
  | _, _, _, _, .cons hv k, h => .cons hv (k.append h)

theorem VRs.drop {ρ : Rho} : ∀ {l l' : List Value} (n : Nat), VRs ρ l l' → VRs ρ (l.drop n) (l'.drop n)
  | _, _, 0, h => by simpa using h
  | _, _, n + 1, .nil => by simpa using VRs.nil
  | _, _, n + 1, .cons hv k => by simpa using k.drop n

theorem VRs.take {ρ : Rho} : ∀ {l l' : List Value} (n : Nat), VRs ρ l l' → VRs ρ (l.take n) (l'.take n)
  | _, _, 0, h => by simpa using VRs.nil
  | _, _, n + 1, .nil => by simpa using VRs.nil
  | _, _, n + 1, .cons hv k => by simpa using VRs.cons hv (k.take n)

/-- A value without blocks is the same on both sides. -/
theorem flat_spec (ρ : Rho) : ∀ (n : Nat) (v : Value), flatN n v = true → (∀ v', VR ρ v v' → v' = v) ∧ VR ρ v v := by
  intro n
  induction n with
  | zero =>
    intro v h
    rcases v with _ | _ | _ | _ | _ | (_ | a) | ⟨_ | a, _, _⟩ | (_ | r) | (_ | r) | _ | _ | _ | _ | _ | _ <;> simp only [flatN] at h <;> first
      | exact absurd h (by decide)
      | exact ⟨fun v' hv => by cases hv; rfl, by constructor⟩
  | succ n ih =>
    have all : ∀ (l : List Value), l.all (flatN n) = true → (∀ l', VRs ρ l l' → l' = l) ∧ VRs ρ l l := by
      intro l
      induction l with
      | nil => intro _; exact ⟨fun l' h => by cases h; rfl, .nil⟩
      | cons x l ihl =>
        intro h
        simp only [List.all_cons, Bool.and_eq_true] at h
        have h1 := ih x h.1
        have h2 := ihl h.2
        exact ⟨fun l' hh => by cases hh with | cons a b => rw [h1.1 _ a, h2.1 _ b], .cons h1.2 h2.2⟩
    intro v h
    rcases v with _ | _ | _ | _ | _ | (_ | a) | ⟨_ | a, _, _⟩ | (_ | r) | (_ | r) | ⟨fn, ⟨a⟩, ⟨b⟩⟩ | _ | ⟨t, x⟩ | _ | ⟨⟨a⟩⟩ | ⟨⟨a⟩⟩ <;> simp only [flatN] at h <;> first
      | exact absurd h (by decide)
      | exact ⟨fun v' hv => by cases hv; rfl, by constructor⟩
      | skip
    · simp only [Bool.and_eq_true] at h
      have h1 := all _ h.1
      have h2 := all _ h.2
      exact ⟨fun v' hv => by cases hv with | func _ p q => rw [h1.1 _ p, h2.1 _ q], .func fn h1.2 h2.2⟩
    · have h1 := ih x h
      exact ⟨fun v' hv => by cases hv with | iface _ p => rw [h1.1 _ p], .iface t h1.2⟩
    · have h1 := all _ h
      exact ⟨fun v' hv => by cases hv with | agg p => rw [h1.1 _ p], .agg h1.2⟩
    · have h1 := all _ h
      exact ⟨fun v' hv => by cases hv with | tuple p => rw [h1.1 _ p], .tuple h1.2⟩

theorem flat_eq {ρ : Rho} {v v' : Value} (h : flat v = true) (k : VR ρ v v') : v' = v := (flat_spec ρ 9 v h).1 _ k
theorem flat_self {ρ : Rho} {v : Value} (h : flat v = true) : VR ρ v v := (flat_spec ρ 9 v h).2

/-- More blocks are known. -/
def Rho.le (ρ ρ' : Rho) : Prop := ∀ k e, ρ k = some e → ρ' k = some e

mutual
theorem VR.mono {ρ ρ' : Rho} (h : ρ.le ρ') : ∀ {v v' : Value}, VR ρ v v' → VR ρ' v v'
  | _, _, .bool b => .bool b
  | _, _, .int k n => .int k n
  | _, _, .float k n => .float k n
  | _, _, .complex k n m => .complex k n m
  | _, _, .string s => .string s
  | _, _, .nilPtr => .nilPtr
  | _, _, .ptr o k => .ptr o (h _ _ k)
  | _, _, .nilSlice n c => .nilSlice n c
  | _, _, .slice o n c c' k a b => .slice o n c c' (h _ _ k) a b
  | _, _, .slice0 o o' c' k b => .slice0 o o' c' (h _ _ k) b
  | _, _, .nilMap => .nilMap
  | _, _, .map k => .map (h _ _ k)
  | _, _, .nilChan => .nilChan
  | _, _, .nilFunc => .nilFunc
  | _, _, .nilIface => .nilIface
  | _, _, .iface t k => .iface t (k.mono h)
  | _, _, .func fn a b => .func fn (a.mono h) (b.mono h)
  | _, _, .agg a => .agg (a.mono h)
  | _, _, .tuple a => .tuple (a.mono h)
theorem VRs.mono {ρ ρ' : Rho} (h : ρ.le ρ') : ∀ {l l' : List Value}, VRs ρ l l' → VRs ρ' l l'
  | _, _, .nil => .nil
  | _, _, .cons a b => .cons (a.mono h) (b.mono h)
end

/-- An entry of a map: the key has no blocks. -/
structure EntR (ρ : Rho) (e e' : MapEntry) : Prop where
  key : e'.key = e.key
  val : VR ρ e.val e'.val
  born : e'.born = e.born
  keyR : VR ρ e.key e.key

inductive EntsR (ρ : Rho) : List MapEntry → List MapEntry → Prop
  | nil : EntsR ρ [] []
  | cons {e e' : MapEntry} {l l' : List MapEntry} (h : EntR ρ e e') (k : EntsR ρ l l') : EntsR ρ (e :: l) (e' :: l')

theorem EntsR.mono {ρ ρ' : Rho} (h : ρ.le ρ') : ∀ {l l' : List MapEntry}, EntsR ρ l l' → EntsR ρ' l l'
  | _, _, .nil => .nil
  | _, _, .cons a b => .cons ⟨a.key, a.val.mono h, a.born, a.keyR.mono h⟩ (b.mono h)

/-- A block, and the world's. -/
def ObjR (ρ : Rho) (e : Spot) : AObj → Obj → Prop
  | .cells ro u c, .cells cs _ fr => u = e.u ∧ cs.size = e.sz ∧ (ro = false → ∀ i, i < cs.size → ¬ (fr.1 ≤ i ∧ i < fr.2)) ∧ ∀ i v, c.get i = some v → ∃ v', cs[i + e.sh]? = some v' ∧ VR ρ v v'
  | .map es clock, .map es' clock' => EntsR ρ es es'.toList ∧ clock' = clock
  | .sIter s pos, .stringIter s' pos' => e.sh = 0 ∧ s' = s ∧ pos' = pos
  | .mIter none since seen stepped, .mapIter none since' seen' stepped' => e.sh = 0 ∧ since' = since ∧ seen' = seen.toArray ∧ stepped' = stepped
  | .mIter (some m) since seen stepped, .mapIter (some m') since' seen' stepped' => e.sh = 0 ∧ (∃ s, ρ m = some s ∧ m' = s.b) ∧ since' = since ∧ seen' = seen.toArray ∧ stepped' = stepped
  | _, _ => False

def AObj.isRo : AObj → Bool
  | .cells ro _ _ => ro
  | _ => false

theorem ObjR.mono {ρ ρ' : Rho} (h : ρ.le ρ') {e : Spot} : ∀ {a : AObj} {o : Obj}, ObjR ρ e a o → ObjR ρ' e a o := by
  intro a o ha
  cases a with
  | cells ro u c =>
    cases o <;> simp only [ObjR] at ha ⊢
    obtain ⟨h1, h2, h3, h4⟩ := ha
    exact ⟨h1, h2, h3, fun i v hv => let ⟨v', a, b⟩ := h4 i v hv; ⟨v', a, b.mono h⟩⟩
  | map es cl =>
    cases o <;> simp only [ObjR] at ha ⊢
    exact ⟨ha.1.mono h, ha.2⟩
  | sIter s pos => cases o <;> simp only [ObjR] at ha ⊢; exact ha
  | mIter m s l p =>
    cases m with
    | none => cases o <;> simp only [ObjR] at ha <;> rename_i m _ _ _ <;> cases m <;> simp only [ObjR] at ha ⊢; exact ha
    | some m =>
      cases o <;> simp only [ObjR] at ha <;> rename_i m _ _ _ <;> cases m <;> simp only [ObjR] at ha ⊢
      obtain ⟨h0, ⟨s, h1, h2⟩, h3⟩ := ha
      exact ⟨h0, ⟨s, h _ _ h1, h2⟩, h3⟩

/-- The evaluator's state, and the world. A block that has no place yet is not yet born in the world. -/
structure Sim (G : Nat) (W : World) (ρ : Rho) (st : St) (w : World) : Prop where
  below : Go.RowKit.Below W.heap.size W w
  fresh : ∀ k, st.next ≤ k → ρ k = none
  low : G ≤ st.next
  glob : ∀ k e, k < G → ρ k = some e → e.b = k ∧ e.sh = 0
  globB : ∀ k a, k < G → st.heap.get k = some a → ∃ e, ρ k = some e
  obj : ∀ k a, st.heap.get k = some a → ∀ e, ρ k = some e → ∃ o, w.heap[e.b]? = some o ∧ ObjR ρ e a o ∧ (a.isRo = false → W.heap.size ≤ e.b)
  inj : ∀ k k' a a' e e', st.heap.get k = some a → st.heap.get k' = some a' → ρ k = some e → ρ k' = some e' → e.b = e'.b → k = k'

/-- What a step may do: more blocks; a block that is not born yet stays as it is. -/
structure Ext (ρ : Rho) (st : St) (ρ' : Rho) (st' : St) : Prop where
  le : ρ.le ρ'
  next : st.next ≤ st'.next
  unborn : ∀ k, k < st.next → ρ k = none → ρ' k = none ∧ st'.heap.get k = st.heap.get k

theorem Ext.refl (ρ : Rho) (st : St) : Ext ρ st ρ st := ⟨fun _ _ h => h, Nat.le_refl _, fun _ _ h => ⟨h, rfl⟩⟩
theorem Ext.trans {ρ ρ1 ρ2 : Rho} {st st1 st2 : St} (h : Ext ρ st ρ1 st1) (k : Ext ρ1 st1 ρ2 st2) : Ext ρ st ρ2 st2 :=
  ⟨fun _ _ x => k.le _ _ (h.le _ _ x), Nat.le_trans h.next k.next, fun i hi hn => by
    have h1 := h.unborn i hi hn
    have h2 := k.unborn i (Nat.lt_of_lt_of_le hi h.next) h1.1
    exact ⟨h2.1, h2.2.trans h1.2⟩⟩

end Go.Proofs.YthojmgjgmbnopaaGreatDoor
/- The evaluator: what each operation does to its state. No program is named. -/
namespace Go.Proofs.YthojmgjgmbnopaaGreatDoor
open Go
noncomputable section

/-- What a tree of the model's comes to that asks the program alone. -/
def quick {α : Type} (P : Program) : Sem α → Option α
  | .pure a => some a
  | .program k => quick P (k P)
  | .mark _ k => quick P k
  | _ => none

theorem quick_run {α : Type} {P : Program} : ∀ {s : Sem α} {a : α}, quick P s = some a → ∀ w, s.run P w = .ok a w
  | .pure _, _, h, _ => by simp only [quick, Option.some.injEq] at h; subst h; rfl
  | .program k, _, h, w => by simp only [quick] at h; simp only [Sem.run]; exact quick_run h w
  | .mark _ k, _, h, w => by simp only [quick] at h; simp only [Sem.run]; exact quick_run h w
  | .load .., _, h, _ => by simp [quick] at h
  | .store .., _, h, _ => by simp [quick] at h
  | .new .., _, h, _ => by simp [quick] at h
  | .shape .., _, h, _ => by simp [quick] at h
  | .freeze .., _, h, _ => by simp [quick] at h
  | .frozen .., _, h, _ => by simp [quick] at h
  | .getObj .., _, h, _ => by simp [quick] at h
  | .setObj .., _, h, _ => by simp [quick] at h
  | .choose .., _, h, _ => by simp [quick] at h
  | .sys .., _, h, _ => by simp [quick] at h
  | .halt .., _, h, _ => by simp [quick] at h

/-- The program. -/
noncomputable def P : Program := Tryz.prog

/-- Is it a row of cells (how many), or one cell? -/
def tyAgg (t : TypeId) : Option (Option Nat) :=
  match P.underlying t with
  | some (.struct _) | some (.array _ _) => match P.info? t with
    | some i => some (some i.size)
    | none => none
  | some _ => some none
  | none => none

def sizeIn (t : TypeId) : Option Nat := (P.info? t).map (·.size)

def cellsFrom (c : Tr Value) : Nat → Nat → Option (List Value)
  | _, 0 => some []
  | o, n + 1 => match c.get o with
    | some v => match cellsFrom c (o + 1) n with
      | some l => some (v :: l)
      | none => none
    | none => none

def putCells (c : Tr Value) : Nat → List Value → Option (Tr Value)
  | _, [] => some c
  | o, v :: l => match c.get o with
    | some _ => match v with
      | .agg _ | .tuple _ => none
      | v => putCells (c.set o (some v)) (o + 1) l
    | none => none

def St.new (st : St) (a : AObj) : St := ⟨st.heap.set st.next (some a), st.next + 1⟩
def St.put (st : St) (k : Nat) (a : AObj) : St := ⟨st.heap.set k (some a), st.next⟩

def aLoadAs (a : Option (Option Nat)) : Tr Value → Nat → Option Value :=
  match a with
  | some none => fun c o => c.get o
  | some (some n) => fun c o => match cellsFrom c o n with
    | some l => some (.agg ⟨l⟩)
    | none => none
  | none => fun _ _ => none

def aLoadIn (b : Option AObj) : Nat → Option (Option Nat) → Option Value :=
  match b with
  | some (.cells _ _ c) => fun o a => aLoadAs a c o
  | _ => fun _ _ => none

def aLoad (x : Value) : TypeId → St → Option Value :=
  match x with
  | .pointer (some ⟨k, o, none⟩) => fun t st => aLoadIn (st.heap.get k) o (tyAgg t)
  | _ => fun _ _ => none

def aStoreAs (c : Option (Tr Value)) : Nat → Nat → St → Option St :=
  match c with
  | some c => fun k u st => some (st.put k (.cells false u c))
  | none => fun _ _ _ => none

def aStoreIn (b : Option AObj) : Nat → Nat → Option Nat → List Value → St → Option St :=
  match b with
  | some (.cells false u c) => fun k o n l st => match n with
    | some n => bif Nat.beq l.length n then aStoreAs (putCells c o l) k u st else none
    | none => none
  | _ => fun _ _ _ _ _ => none

def aStore (x : Value) : TypeId → Value → St → Option St :=
  match x with
  | .pointer (some ⟨k, o, none⟩) => fun t v st => aStoreIn (st.heap.get k) k o (sizeIn t) v.cells.toList st
  | _ => fun _ _ _ => none

/-- A part of a row of cells, as a value. -/
def aPart (t : TypeId) (cs : List Value) (off : Nat) : Option Value :=
  match tyAgg t with
  | some (some n) => some (.agg ⟨(cs.drop off).take n⟩)
  | some none => cs[off]?
  | none => none

def newCells (st : St) (u : Nat) (l : List Value) : Value × St :=
  (.pointer (some ⟨st.next, 0, none⟩), st.new (.cells false u (Tr.fill .nil 0 l)))

def aZero (t : TypeId) : Option Value :=
  match P.info? t with
  | some i => match i.zero with
    | some z => bif flat z then some z else none
    | none => none
  | none => none

def aAlloc (t : TypeId) (st : St) : Option (Value × St) :=
  match aZero t with
  | some z => match sizeIn t with
    | some u => some (newCells st u z.cells.toList)
    | none => none
  | none => none

def aBox (t : TypeId) (v : Value) (st : St) : Option (Value × St) :=
  match sizeIn t with
  | some u => some (newCells st u v.cells.toList)
  | none => none

/-- Parts laid into a row, as a tree. -/
def aFill (place : Nat → Option (Nat × Nat)) (n : Nat) (c : Tr Value) : List (Nat × Value) → Option (Tr Value)
  | [] => some c
  | (i, v) :: l => match place i with
    | some (off, size) => bif Nat.beq v.cells.toList.length size && Nat.ble (off + size) n then aFill place n (Tr.fill c off v.cells.toList) l else none
    | none => none

def repl (z : List Value) : Nat → List Value
  | 0 => []
  | n + 1 => z ++ repl z n

/-- So many zeros. -/
def aZeros (elem : TypeId) (size len : Nat) : Option (List Value) :=
  bif Nat.beq (len * size) 0 then some [] else match aZero elem with
    | some z => bif Nat.beq z.cells.toList.length size then some (repl z.cells.toList len) else none
    | none => none

def aBuildSlice (t : TypeId) (len : Nat) (parts : List (Nat × Value)) (st : St) : Option (Value × St) :=
  match P.underlying t with
  | some (.slice elem) => match sizeIn elem with
    | some size => bif Nat.ble (len * size) 16777216 then
        match aZeros elem size len with
        | some zs => match aFill (fun i => some (i * size, size)) (len * size) (Tr.fill .nil 0 zs) parts with
          | some c => some (.slice (some ⟨st.next, 0, none⟩) len len, st.new (.cells false size c))
          | none => none
        | none => none
      else none
    | none => none
  | _ => none

def aBuild (t : TypeId) (parts : List (Nat × Value)) : Option Value :=
  match P.info? t with
  | some i => match i.zero with
    | some z => match P.underlying t with
      | some (.struct fields) => match fields.toList.mapM (fun f => (sizeIn f.type).map fun n => (f.offset, n)) with
        | some places => match Instr.fill (fun i => places[i]?) z.cells parts with
          | some cs => bif flat z then some (.agg cs) else none
          | none => none
        | none => none
      | some (.array _ elem) => match sizeIn elem with
        | some size => match Instr.fill (fun i => some (i * size, size)) z.cells parts with
          | some cs => bif flat z then some (.agg cs) else none
          | none => none
        | none => none
      | _ => none
    | none => none
  | none => none

def aFieldAddr (s : TypeId) (x : Value) (f : Nat) : Option Value :=
  match x with
  | .pointer (some ⟨k, o, none⟩) => match P.underlying s with
    | some (.struct fields) => match fields[f]? with
      | some fd => match sizeIn fd.type with
        | some (_ + 1) => some (.pointer (some ⟨k, o + fd.offset, none⟩))
        | _ => none
      | none => none
    | _ => none
  | _ => none

def aField (s : TypeId) (x : Value) (f : Nat) : Option Value :=
  match x with
  | .agg ⟨cs⟩ => match P.underlying s with
    | some (.struct fields) => match fields[f]? with
      | some fd => aPart fd.type cs fd.offset
      | none => none
    | _ => none
  | _ => none

def inRange (i : Int) (n : Nat) : Bool :=
  match i with
  | .ofNat m => Nat.blt m n
  | .negSucc _ => false

def aIndexAddr (t : TypeId) (x ix : Value) : Option Value :=
  match ix with
  | .int _ i => match P.underlying t, x with
    | some (.array len elem), .pointer (some ⟨k, o, none⟩) => match sizeIn elem with
      | some u => bif inRange i len then some (.pointer (some ⟨k, o + i.toNat * u, none⟩)) else none
      | none => none
    | some (.slice elem), .slice (some ⟨k, o, none⟩) len _ => match sizeIn elem with
      | some u => bif inRange i len then some (.pointer (some ⟨k, o + i.toNat * u, none⟩)) else none
      | none => none
    | _, _ => none
  | _ => none

def aIndex (t : TypeId) (x ix : Value) : Option Value :=
  match ix with
  | .int _ i => match P.underlying t, x with
    | some (.array len elem), .agg ⟨cs⟩ => match sizeIn elem with
      | some u => bif inRange i len then aPart elem cs (i.toNat * u) else none
      | none => none
    | some .string, .string ⟨⟨s⟩⟩ => match i with
      | .ofNat m => match s[m]? with
        | some b => some (.int .u8 b.toNat)
        | none => none
      | .negSucc _ => none
    | _, _ => none
  | _ => none

/-- A bound of a slice expression. -/
def aBound (v : Option Value) (most : Nat) (dflt : Nat) : Option Nat :=
  match v with
  | none => some dflt
  | some (.int _ (.ofNat m)) => bif Nat.ble m most then some m else none
  | _ => none

/-- low, high, max of a slice expression. -/
def aBounds (len cap : Nat) (lo hi mx : Option Value) : Option (Nat × Nat × Nat) :=
  match hi, mx with
  | none, some _ => none
  | _, _ => match aBound mx cap cap with
    | some m => match aBound hi m len with
      | some h => match aBound lo h 0 with
        | some l => some (l, h, m)
        | none => none
      | none => none
    | none => none

def aSlice (t : TypeId) (x : Value) (lo hi mx : Option Value) (st : St) : Option Value :=
  match P.underlying t, x with
  | some .string, .string ⟨⟨s⟩⟩ => match mx with
    | some _ => none
    | none => match aBounds s.length s.length lo hi none with
      | some (l, h, _) => bif Nat.ble h s.length then some (.string ⟨⟨(s.take h).drop l⟩⟩) else none
      | none => none
  | some (.slice elem), .slice none 0 0 => match aBounds 0 0 lo hi mx, sizeIn elem with
    | some _, some _ => some (.slice none 0 0)
    | _, _ => none
  | some (.slice elem), .slice (some ⟨k, o, none⟩) len cap => match st.heap.get k with
    | some (.cells _ u _) => match sizeIn elem with
      | some size => bif Nat.beq size u && Nat.ble len cap then match aBounds len cap lo hi mx with
          | some (l, h, m) => bif Nat.beq m l then some (.slice (some ⟨k, o, none⟩) 0 0) else some (.slice (some ⟨k, o + l * size, none⟩) (h - l) (m - l))
          | none => none
        else none
      | none => none
    | _ => none
  | some (.array n elem), .pointer (some ⟨k, o, none⟩) => match sizeIn elem with
    | some size => match aBounds n n lo hi mx with
      | some (l, h, m) => bif Nat.beq m l then some (.slice (some ⟨k, o, none⟩) (h - l) (m - l)) else some (.slice (some ⟨k, o + l * size, none⟩) (h - l) (m - l))
      | none => none
    | none => none
  | _, _ => none

def isFace (t : TypeId) : Option Bool :=
  match P.underlying t with
  | some (.interface _) => some true
  | some _ => some false
  | none => none

def aTypeAssert (x : Value) (t : TypeId) (ok : Bool) : Option Value :=
  match isFace t with
  | some true => match x with
    | .iface d _ => match P.underlying t, P.info? d with
      | some (.interface want), some i => match Instr.missingMethod want i.methods with
        | none => some (bif ok then .tuple ⟨[x, .bool true]⟩ else x)
        | some _ => bif ok then match aZero t with
            | some z => some (.tuple ⟨[z, .bool false]⟩)
            | none => none
          else none
      | _, _ => none
    | .nilIface => bif ok then match aZero t with
        | some z => some (.tuple ⟨[z, .bool false]⟩)
        | none => none
      else none
    | _ => none
  | some false => match x with
    | .iface d v => bif Nat.beq d t then some (bif ok then .tuple ⟨[v, .bool true]⟩ else v)
      else bif ok then match aZero t with
        | some z => some (.tuple ⟨[z, .bool false]⟩)
        | none => none
      else none
    | .nilIface => bif ok then match aZero t with
        | some z => some (.tuple ⟨[z, .bool false]⟩)
        | none => none
      else none
    | _ => none
  | none => none

/-- Are two keys the same? (Numbers, texts, truth values alone.) -/
def bytesEq : List UInt8 → List UInt8 → Bool
  | [], [] => true
  | a :: x, b :: y => Nat.beq a.toNat b.toNat && bytesEq x y
  | _, _ => false

def bytesLt : List UInt8 → List UInt8 → Bool
  | _, [] => false
  | [], _ :: _ => true
  | a :: x, b :: y => bif Nat.beq a.toNat b.toNat then bytesLt x y else Nat.blt a.toNat b.toNat

def intEq : Int → Int → Bool
  | .ofNat a, .ofNat b => Nat.beq a b
  | .negSucc a, .negSucc b => Nat.beq a b
  | _, _ => false

def intLt : Int → Int → Bool
  | .ofNat a, .ofNat b => Nat.blt a b
  | .negSucc a, .negSucc b => Nat.blt b a
  | .negSucc _, .ofNat _ => true
  | .ofNat _, .negSucc _ => false

def keyEq : TypeDesc → Value → Value → Option Bool
  | .int _, .int k a, .int k' b => if k = k' then some (intEq a b) else none
  | .string, .string ⟨⟨a⟩⟩, .string ⟨⟨b⟩⟩ => some (bytesEq a b)
  | .bool, .bool a, .bool b => some (a == b)
  | _, _, _ => none

def aFind (d : TypeDesc) (k : Value) : List MapEntry → Nat → Option (Option (Nat × Value))
  | [], _ => some none
  | e :: es, i => match keyEq d k e.key with
    | some true => some (some (i, e.val))
    | some false => aFind d k es (i + 1)
    | none => none

/-- May it be a key (of a kind that cannot be unhashable)? -/
def plainKey : TypeDesc → Value → Bool
  | .int _, .int _ _ | .string, .string _ | .bool, .bool _ => true
  | _, _ => false

def aEntries (x : Value) (st : St) : Option (List MapEntry) :=
  match x with
  | .map none => some []
  | .map (some r) => match st.heap.get r with
    | some (.map es _) => some es
    | _ => none
  | _ => none

def aLookup (t : TypeId) (x ix : Value) (ok : Bool) (st : St) : Option Value :=
  match P.underlying t with
  | some (.map key elem) => match P.underlying key with
    | some d => bif plainKey d ix then match aEntries x st with
        | some es => match aFind d ix es 0 with
          | some (some (_, v)) => some (bif ok then .tuple ⟨[v, .bool true]⟩ else v)
          | some none => match aZero elem with
            | some z => some (bif ok then .tuple ⟨[z, .bool false]⟩ else z)
            | none => none
          | none => none
        | none => none
      else none
    | none => none
  | _ => none

def aMapUpdate (t : TypeId) (m k x : Value) (st : St) : Option St :=
  match P.underlying t, m with
  | some (.map key _), .map (some r) => match P.underlying key, st.heap.get r with
    | some d, some (.map es clock) => bif plainKey d k then match aFind d k es 0 with
        | some (some (i, _)) => some (st.put r (.map (es.modify i fun e => ⟨k, x, e.born⟩) clock))
        | some none => some (st.put r (.map (es ++ [⟨k, x, clock⟩]) (clock + 1)))
        | none => none
      else none
    | _, _ => none
  | _, _ => none

def aDelete (t : TypeId) (m k : Value) (st : St) : Option St :=
  match P.underlying t, m with
  | some (.map key _), .map (some r) => match P.underlying key, st.heap.get r with
    | some d, some (.map es clock) => bif plainKey d k then match aFind d k es 0 with
        | some (some (i, _)) => some (st.put r (.map (es.eraseIdx i) clock))
        | some none => some st
        | none => none
      else none
    | _, _ => none
  | some (.map key _), .map none => match P.underlying key with
    | some d => bif plainKey d k then some st else none
    | none => none
  | _, _ => none

/-- The kinds of type at which nil is. -/
def nilable : TypeDesc → Value → Value → Option Bool
  | .pointer _, .pointer none, .pointer b => some b.isNone
  | .pointer _, .pointer (some _), .pointer none => some false
  | .interface _, .nilIface, .iface _ _ => some false
  | .interface _, .iface _ _, .nilIface => some false
  | .slice _, .slice none _ _, .slice b _ _ => some b.isNone
  | .slice _, .slice (some _) _ _, .slice none _ _ => some false
  | .map _ _, .map none, .map b => some b.isNone
  | .map _ _, .map (some _), .map none => some false
  | .func _ _ _, .nilFunc, .nilFunc => some true
  | .func _ _ _, .nilFunc, .func _ _ _ => some false
  | .func _ _ _, .func _ _ _, .nilFunc => some false
  | _, _, _ => none

def aEq (t : TypeId) (x y : Value) : Option Bool :=
  match P.underlying t with
  | some d => match nilable d x y with
    | some b => some b
    | none => match d, x, y with
      | .pointer elem, .pointer (some ⟨k, o, none⟩), .pointer (some ⟨k', o', none⟩) => match sizeIn elem with
        | some (_ + 1) => bif Nat.beq k k' then some (Nat.beq o o') else none
        | _ => none
      | .interface _, .iface tx _, .iface ty _ => bif Nat.beq tx ty then none else some false
      | _, _, _ => none
  | none => none

def kindNo : IntKind → Nat
  | .i8 => nat_lit 0 | .i16 => nat_lit 1 | .i32 => nat_lit 2 | .i64 => nat_lit 3 | .u8 => nat_lit 4 | .u16 => nat_lit 5 | .u32 => nat_lit 6 | .u64 => nat_lit 7

def fit (k : IntKind) : Nat → Bool :=
  match k with
  | .i64 => fun m => Nat.ble (Nat.succ m) (nat_lit 9223372036854775808)
  | .u8 => fun m => Nat.ble (Nat.succ m) (nat_lit 256)
  | .u32 => fun m => Nat.ble (Nat.succ m) (nat_lit 4294967296)
  | .u64 => fun m => Nat.ble (Nat.succ m) (nat_lit 18446744073709551616)
  | _ => fun _ => false

def fitNeg (k : IntKind) : Nat → Bool :=
  match k with
  | .i64 => fun m => Nat.ble (Nat.succ m) (nat_lit 9223372036854775808)
  | _ => fun _ => false

def wr (n : Int) : IntKind → Int :=
  match n with
  | .ofNat m => fun k => bif fit k m then .ofNat m else k.wrap (.ofNat m)
  | .negSucc m => fun k => bif fitNeg k m then .negSucc m else k.wrap (.negSucc m)

def intSub (a : Int) : Int → Int :=
  match a with
  | .ofNat m => fun b => match b with
    | .ofNat n => bif Nat.ble n m then .ofNat (Nat.sub m n) else .negSucc (Nat.sub (Nat.sub n m) (nat_lit 1))
    | b => Int.sub (.ofNat m) b
  | a => fun b => Int.sub a b

def aIntOp (op : BinOp) : IntKind → Int → Int → Option Value :=
  match op with
  | .add => fun k a b => some (.int k (wr (Int.add a b) k))
  | .sub => fun k a b => some (.int k (wr (intSub a b) k))
  | .mul => fun k a b => some (.int k (wr (Int.mul a b) k))
  | .eql => fun _ a b => some (.bool (intEq a b))
  | .neq => fun _ a b => some (.bool (!intEq a b))
  | .lss => fun _ a b => some (.bool (intLt a b))
  | .gtr => fun _ a b => some (.bool (intLt b a))
  | .leq => fun _ a b => some (.bool (!intLt b a))
  | .geq => fun _ a b => some (.bool (!intLt a b))
  | _ => fun _ _ _ => none

def aTextOp (op : BinOp) : List UInt8 → List UInt8 → Option Value :=
  match op with
  | .add => fun a b => bif Nat.ble (Nat.add a.length b.length) (nat_lit 9223372036854775807) then some (.string ⟨⟨a ++ b⟩⟩) else none
  | .eql => fun a b => some (.bool (bytesEq a b))
  | .neq => fun a b => some (.bool (!bytesEq a b))
  | .lss => fun a b => some (.bool (bytesLt a b))
  | .gtr => fun a b => some (.bool (!(bytesLt a b || bytesEq a b)))
  | .leq => fun a b => some (.bool (bytesLt a b || bytesEq a b))
  | .geq => fun a b => some (.bool (!bytesLt a b))
  | _ => fun _ _ => none

/-- Two numbers, or two texts. -/
def aArith (x : Value) : Value → BinOp → Option Value :=
  match x with
  | .int k a => fun y => match y with
    | .int k' b => fun op => bif Nat.beq (kindNo k) (kindNo k') then aIntOp op k a b else none
    | _ => fun _ => none
  | .string ⟨⟨a⟩⟩ => fun y => match y with
    | .string ⟨⟨b⟩⟩ => fun op => aTextOp op a b
    | _ => fun _ => none
  | _ => fun _ _ => none

def aOther (op : BinOp) (t : TypeId) (a b : Operand) (x y : Value) : Option Value :=
  bif flat x && flat y then match quick P (do eqGuard op t a b x y; binOp op t x y) with
    | some v => bif flat v then some v else none
    | none => none
  else none

def aEqOr (r : Option Bool) : Bool → BinOp → TypeId → Operand → Operand → Value → Value → Option Value :=
  match r with
  | some b => fun eq _ _ _ _ _ _ => some (.bool (bif eq then b else !b))
  | none => fun _ op t a b x y => aOther op t a b x y

def aBinOr (r : Option Value) : BinOp → TypeId → Operand → Operand → Value → Value → Option Value :=
  match r with
  | some v => fun _ _ _ _ _ _ => some v
  | none => fun op => match op with
    | .eql => fun t a b x y => aEqOr (aEq t x y) true .eql t a b x y
    | .neq => fun t a b x y => aEqOr (aEq t x y) false .neq t a b x y
    | op => fun t a b x y => aOther op t a b x y

def aBin (op : BinOp) (t : TypeId) (a b : Operand) (x y : Value) : Option Value := aBinOr (aArith x y op) op t a b x y

def aConvert (src dst : TypeId) (x : Value) (st : St) : Option Value :=
  match x with
  | .slice none 0 0 => match P.underlying src, P.underlying dst with
    | some (.slice e), some .string => match P.underlying e with
      | some (.int .u8) => some (.string ⟨⟨[]⟩⟩)
      | _ => none
    | _, _ => none
  | .slice (some ⟨k, o, none⟩) n _ => match P.underlying src, P.underlying dst with
    | some (.slice e), some .string => match P.underlying e, st.heap.get k with
      | some (.int .u8), some (.cells _ _ c) => match cellsFrom c o n with
        | some l => match l.mapM (fun v => match v with | .int .u8 m => some (UInt8.ofNat m.toNat) | _ => none) with
          | some s => some (.string ⟨⟨s⟩⟩)
          | none => none
        | none => none
      | _, _ => none
    | _, _ => none
  | x => bif flat x then match quick P (convert src dst x) with
      | some v => bif flat v then some v else none
      | none => none
    else none

/-- []byte(s). -/
def aBytes (src dst : TypeId) (x : Value) (st : St) : Option (Value × St) :=
  match x with
  | .string ⟨⟨s⟩⟩ => match P.underlying src, P.underlying dst with
    | some .string, some (.slice e) => match P.underlying e with
      | some (.int .u8) => some (.slice (some ⟨st.next, 0, none⟩) s.length s.length, st.new (.cells false 1 (Tr.fill .nil 0 (s.map fun b => .int .u8 b.toNat))))
      | _ => none
    | _, _ => none
  | _ => none

def aMakeSlice (t : TypeId) (len cap : Value) (st : St) : Option (Value × St) :=
  match len, cap with
  | .int _ (.ofNat l), .int _ (.ofNat c) => match P.underlying t with
    | some (.slice elem) => match P.info? elem with
      | some i => bif Nat.ble l c && Nat.ble c 16777216 && Nat.ble i.bytes 65536 then
          match aZeros elem i.size c with
          | some zs => some (.slice (some ⟨st.next, 0, none⟩) l c, st.new (.cells false i.size (Tr.fill .nil 0 zs)))
          | none => none
        else none
      | none => none
    | _ => none
  | _, _ => none

def aLen (t : TypeId) (x : Value) (st : St) : Option Value :=
  match P.underlying t, x with
  | some .string, .string ⟨⟨s⟩⟩ => some (.int .i64 s.length)
  | some (.array n _), _ => some (.int .i64 n)
  | some (.slice _), .slice _ n _ => some (.int .i64 n)
  | some (.map _ _), x => match aEntries x st with
    | some es => some (.int .i64 es.length)
    | none => none
  | _, _ => none

/-- The cells that are appended or copied: how many elements, which. -/
def aSource (size : Nat) (n : Nat) (x : Value) (st : St) : Option (List Value) :=
  match x with
  | .slice none 0 0 => bif Nat.beq n 0 then some [] else none
  | .slice (some ⟨k, o, none⟩) _ _ => bif Nat.beq n 0 then some [] else match st.heap.get k with
    | some (.cells _ _ c) => cellsFrom c o (n * size)
    | _ => none
  | .string ⟨⟨s⟩⟩ => some ((s.take n).map fun b => .int .u8 b.toNat)
  | _ => none

def aLenOf : Value → Option Nat
  | .slice _ n _ => some n
  | .string ⟨⟨s⟩⟩ => some s.length
  | _ => none

/-- What append lays down: so many elements, which cells. (append(s, make([]E, n)...) comes as a number.) -/
def aNew (elem : TypeId) (i : TypeInfo) (d : TypeDesc) (x : Value) (st : St) : Option (Nat × List Value) :=
  match d, x with
  | .int _, .int _ (.ofNat n) => bif Nat.ble n 16777216 then
      match aZeros elem i.size n with
      | some zs => some (n, zs)
      | none => none
    else none
  | .int _, _ => none
  | _, x => match aLenOf x with
    | some n => match aSource i.size n x st with
      | some l => some (n, l)
      | none => none
    | none => none

def oneCells : List Value → Bool
  | [] => true
  | v :: l => (match v with | .agg _ => false | .tuple _ => false | _ => true) && oneCells l

/-- Behind what is there: into the block where its room is known; else the block is let go, and a new one has it all. -/
def aLay (size n : Nat) (new : List Value) (s : Value) (st : St) : Option (Value × St) :=
  match s with
  | .slice none 0 0 => bif Nat.beq n 0 then some (.slice none 0 0, st) else bif Nat.ble n 16777216 then
      some (.slice (some ⟨st.next, 0, none⟩) n n, st.new (.cells false size (Tr.fill .nil 0 new)))
    else none
  | .slice (some ⟨k, o, none⟩) len cap => bif Nat.ble (len + n) cap then
      (bif Nat.beq n 0 then some (.slice (some ⟨k, o, none⟩) len cap, st) else match st.heap.get k with
      | some (.cells false u c) => match putCells c (o + len * size) new with
        | some c' => some (.slice (some ⟨k, o, none⟩) (len + n) cap, st.put k (.cells false u c'))
        | none => none
      | _ => none)
    else bif Nat.ble (len + n) 16777216 && oneCells new then match st.heap.get k with
      | some (.cells false u c) => bif Nat.beq u size then match cellsFrom c o (len * size) with
          | some old => some (.slice (some ⟨st.next, 0, none⟩) (len + n) (len + n), (St.mk (st.heap.set k none) st.next).new (.cells false size (Tr.fill .nil 0 (old ++ new))))
          | none => none
        else none
      | _ => none
    else none
  | _ => none

def aAppend (ats : List TypeId) (s x : Value) (st : St) : Option (Value × St) :=
  match ats with
  | [t, t'] => match P.underlying t, P.underlying t' with
    | some (.slice elem), some d => match P.info? elem, aZero elem with
      | some i, some z => bif Nat.ble i.bytes 65536 && Nat.blt 0 i.size && Nat.blt 0 i.bytes && Nat.beq z.cells.toList.length i.size then match aNew elem i d x st with
          | some (n, new) => bif Nat.beq new.length (Nat.mul n i.size) then aLay i.size n new s st else none
          | none => none
        else none
      | _, _ => none
    | _, _ => none
  | _ => none

def aCopy (t : TypeId) (d s : Value) (st : St) : Option (Value × St) :=
  match P.underlying t with
  | some (.slice elem) => match sizeIn elem, aLenOf s, d with
    | some size, some m, .slice base dl _ => match aSource size (Nat.min m dl) s st with
      | some l => match base with
        | none => match l with
          | [] => some (.int .i64 (Nat.min m dl : Nat), st)
          | _ => none
        | some ⟨k, o, none⟩ => match l with
          | [] => some (.int .i64 (Nat.min m dl : Nat), st)
          | l => match st.heap.get k with
            | some (.cells false u c) => match putCells c o l with
              | some c' => some (.int .i64 (Nat.min m dl : Nat), st.put k (.cells false u c'))
              | none => none
            | _ => none
        | _ => none
      | none => none
    | _, _, _ => none
  | _ => none

def aClear (t : TypeId) (x : Value) (st : St) : Option St :=
  match x with
  | .map none => some st
  | .slice none _ _ => some st
  | .slice (some ⟨k, o, none⟩) n _ => bif Nat.beq n 0 then some st else match P.underlying t, st.heap.get k with
    | some (.slice elem), some (.cells false u c) => match aZero elem with
      | some z => match putCells c o (repl z.cells.toList n) with
        | some c' => some (st.put k (.cells false u c'))
        | none => none
      | none => none
    | _, _ => none
  | .map (some r) => match st.heap.get r with
    | some (.map _ clock) => some (st.put r (.map [] clock))
    | _ => none
  | _ => none

def aRange (t : TypeId) (x : Value) (st : St) : Option (Value × St) :=
  match P.underlying t, x with
  | some .string, .string s => some (.pointer (some ⟨st.next, 0, none⟩), st.new (.sIter s 0))
  | some (.map _ _), .map none => some (.pointer (some ⟨st.next, 0, none⟩), st.new (.mIter none 0 [] 0))
  | some (.map _ _), .map (some m) => match st.heap.get m with
    | some (.map _ clock) => some (.pointer (some ⟨st.next, 0, none⟩), st.new (.mIter (some m) clock [] clock))
    | _ => none
  | _, _ => none

def aNext (x : Value) (isString : Bool) (st : St) : Option (Value × St) :=
  match x with
  | .pointer (some ⟨k, 0, none⟩) => match st.heap.get k, isString with
    | some (.sIter s pos), true => bif Nat.blt pos s.size then
        match Utf8.decode s pos with
        | (c, width) => some (.tuple ⟨[.bool true, .int .i64 pos, .int .i32 c]⟩, st.put k (.sIter s (pos + width)))
      else some (.tuple ⟨[.bool false]⟩, st)
    | some (.mIter none _ _ _), false => some (.tuple ⟨[.bool false]⟩, st)
    | some (.mIter (some m) since seen last), false => match st.heap.get m with
      | some (.map es clock) =>
        bif !seen.isEmpty && !es.isEmpty && es.all (fun e => Nat.ble last e.born) then none else
        match es.filter (fun e => !seen.contains e.born) with
        | [] => some (.tuple ⟨[.bool false]⟩, st)
        | [e] => bif Nat.blt e.born since then
            some (.tuple ⟨[.bool true, e.key, e.val]⟩, st.put k (.mIter (some m) since (seen ++ [e.born]) clock))
          else none
        | _ => none
      | _ => none
    | _, _ => none
  | _ => none

def aEntry (x : Value) (st : St) : Option Value :=
  match x with
  | .pointer (some ⟨k, 0, none⟩) => match st.heap.get k with
    | some (.mIter (some m) _ seen stepped) => match seen.getLast?, st.heap.get m with
      | some stamp, some (.map es clock) => bif Nat.beq clock stepped then match es.find? (fun e => Nat.beq e.born stamp) with
          | some e => some (.tuple ⟨[e.key, e.val]⟩)
          | none => none
        else none
      | _, _ => none
    | _ => none
  | _ => none

def evalAll (ev : Operand → Option Value) : List Operand → Option (List Value)
  | [] => some []
  | x :: l => match ev x with
    | some v => match evalAll ev l with
      | some vs => some (v :: vs)
      | none => none
    | none => none

def evalParts (ev : Operand → Option Value) : List (Nat × Operand) → Option (List (Nat × Value))
  | [] => some []
  | (i, x) :: l => match ev x with
    | some v => match evalParts ev l with
      | some vs => some ((i, v) :: vs)
      | none => none
    | none => none

def evalOpt (ev : Operand → Option Value) : Option Operand → Option (Option Value)
  | none => some none
  | some x => match ev x with
    | some v => some (some v)
    | none => none

abbrev Ev := Operand → Option Value

/-- Two values at once. -/
def two {α : Type} (a b : Option Value) (f : Value → Value → Option α) : Option α :=
  match a with
  | some x => match b with
    | some y => f x y
    | none => none
  | none => none

def aPick (c : Option Value) : Ev → Operand → Operand → Option Value :=
  match c with
  | some (.bool true) => fun ev a _ => ev a
  | some (.bool false) => fun ev _ b => ev b
  | _ => fun _ _ _ => none

def aNilCheck (x : Option Value) : Option Value :=
  match x with
  | some (.pointer (some a)) => some (.pointer (some a))
  | some (.iface t v) => some (.iface t v)
  | some (.func (.func f) a b) => some (.func (.func f) a b)
  | _ => none

def aUn (op : UnOp) (v : Value) : Option Value :=
  match op, v with
  | .not, .bool b => some (.bool !b)
  | op, v => bif flat v then (quick P (Op.unary op v)).bind fun r => bif flat r then some r else none else none

def aFace (f : Option Bool) : TypeId → Value → Option Value :=
  match f with
  | some false => fun t v => some (.iface t v)
  | _ => fun _ _ => none

def aExtract (x : Option Value) : Nat → Option Value :=
  match x with
  | some (.tuple ⟨l⟩) => fun i => l[i]?
  | _ => fun _ => none

def aBuiltin (b : Builtin) (vs : List Value) (ats : List TypeId) (st : St) : Option Value :=
  match b, vs, ats with
  | .len, x :: _, t :: _ => aLen t x st
  | .cap, (.slice none _ c) :: _, t :: _ => match P.underlying t with
    | some (.slice _) => some (.int .i64 c)
    | _ => none
  | .min, [.int k a, .int k' b], _ => bif Nat.beq (kindNo k) (kindNo k') then some (.int k (bif intLt b a then b else a)) else none
  | .max, [.int k a, .int k' b], _ => bif Nat.beq (kindNo k) (kindNo k') then some (.int k (bif intLt a b then b else a)) else none
  | _, _, _ => none

/-- The operations that only look: what they yield. -/
def aRead (o : Op) : Ev → St → Option Value :=
  match o with
  | .move x => fun ev _ => ev x
  | .pick c a b => fun ev _ => aPick (ev c) ev a b
  | .build t ps => fun ev _ => (evalParts ev ps.toList).bind (aBuild t)
  | .load t a => fun ev st => (ev a).bind fun x => aLoad x t st
  | .nilCheck x => fun ev _ => aNilCheck (ev x)
  | .binOp op t a b _ => fun ev _ => two (ev a) (ev b) (aBin op t a b)
  | .unOp op _ x => fun ev _ => (ev x).bind (aUn op)
  | .convert s d x => fun ev st => (ev x).bind fun v => aConvert s d v st
  | .makeInterface t x => fun ev _ => (ev x).bind fun v => aFace (isFace t) t v
  | .makeFunc fn a b => fun ev _ => (evalAll ev a.toList).bind fun x => (evalAll ev b.toList).bind fun y => some (.func fn ⟨x⟩ ⟨y⟩)
  | .slice t x lo hi mx => fun ev st => (ev x).bind fun v => (evalOpt ev lo).bind fun l => (evalOpt ev hi).bind fun h => (evalOpt ev mx).bind fun m => aSlice t v l h m st
  | .fieldAddr s x f => fun ev _ => (ev x).bind fun v => aFieldAddr s v f
  | .field s x f => fun ev _ => (ev x).bind fun v => aField s v f
  | .indexAddr t x i => fun ev _ => two (ev x) (ev i) (aIndexAddr t)
  | .index t x i => fun ev _ => two (ev x) (ev i) (aIndex t)
  | .lookup t x i ok => fun ev st => two (ev x) (ev i) fun v j => aLookup t v j ok st
  | .typeAssert x _ t ok => fun ev _ => (ev x).bind fun v => aTypeAssert v t ok
  | .entry x => fun ev st => (ev x).bind fun v => aEntry v st
  | .extract x i => fun ev _ => aExtract (ev x) i
  | .call ⟨.builtin b, args, ats⟩ => fun ev st => (evalAll ev args.toList).bind fun vs => aBuiltin b vs ats.toList st
  | _ => fun _ _ => none

/-- What an operation comes to. -/
inductive ANext where
  | value (v : Value)
  | enter (f : FuncId) (args : List Value)
  | defer (f : FuncId) (args : List Value)

def asValue : Option (Value × St) → Option (ANext × St)
  | some (v, st) => some (.value v, st)
  | none => none

def asSkip : Option St → Option (ANext × St)
  | some st => some (.value undef, st)
  | none => none

def asNone : Option St → Option (ANext × St)
  | some st => some (.value (.tuple ⟨[]⟩), st)
  | none => none

/-- A method's function, at the dynamic type. -/
def aMethod (t : TypeId) (name : String) : Option FuncId :=
  match P.info? t with
  | some i => match i.methods.toList.find? (fun m => m.name == name) with
    | some ⟨_, _, ⟨[]⟩, some (f, p)⟩ => match P.underlying t, p with
      | some (.pointer _), true => some f
      | some (.pointer _), false => none
      | some _, false => some f
      | _, _ => none
    | _ => none
  | none => none

/-- Whom a call calls, with what (the callee's own first). -/
def aTarget (c : Callee) : Ev → List Operand → Option (FuncId × List Value) :=
  match c with
  | .value f => fun ev args => match ev f with
    | some (.func (.func f) ⟨[]⟩ ⟨[]⟩) => (evalAll ev args).bind fun vs => some (f, vs)
    | some (.func (.func f) ⟨a⟩ ⟨b⟩) => (evalAll ev args).bind fun vs => some (f, a ++ vs ++ b)
    | _ => none
  | .invoke r name => fun ev args => match ev r with
    | some (.iface t v) => (evalAll ev args).bind fun vs => (aMethod t name).bind fun f => some (f, v :: vs)
    | _ => none
  | .builtin _ => fun _ _ => none

/-- Has the function a body (and is it none that the model takes for itself)? -/
def hasBody (f : FuncId) : Bool :=
  match P.funcs[f]? with
  | some fn => match fn.body with
    | some _ => !(fn.name == "runtime.NumGoroutine")
    | none => false
  | none => false

/-- Functions without a body that turn nothing: what they yield. -/
abbrev Ext0 := FuncId → Option (List Value → Option Value)

def aCallOut (g : Option (List Value → Option Value)) (vs : List Value) (st : St) : Option (ANext × St) :=
  match g with
  | some g => match g vs with
    | some v => some (.value v, st)
    | none => none
  | none => none

def aCall (X : Ext0) (t : Option (FuncId × List Value)) : St → Option (ANext × St) :=
  match t with
  | some (f, vs) => fun st => bif hasBody f then some (.enter f vs, st) else aCallOut (X f) vs st
  | none => fun _ => none

def aDefer (t : Option (FuncId × List Value)) : St → Option (ANext × St) :=
  match t with
  | some (f, vs) => fun st => bif hasBody f then some (.defer f vs, st) else none
  | none => fun _ => none

def aDo (b : Builtin) (vs : List Value) (ats : List TypeId) (st : St) : Option (ANext × St) :=
  match b, vs, ats with
  | .append, [s, x], [t, t'] => asValue (aAppend [t, t'] s x st)
  | .copy, [d, s], t :: _ => asValue (aCopy t d s st)
  | .clear, [x], t :: _ => match P.underlying t with
    | some _ => asNone (aClear t x st)
    | none => none
  | .delete, [m, k], t :: _ => asNone (aDelete t m k st)
  | _, _, _ => none

def aAct (o : Op) : Ext0 → Ev → St → Option (ANext × St) :=
  match o with
  | .assign x => fun _ ev st => (ev x).bind fun v => some (.value v, st)
  | .alloc t => fun _ _ st => asValue (aAlloc t st)
  | .box t x => fun _ ev st => (ev x).bind fun v => asValue (aBox t v st)
  | .buildSlice t n ps => fun _ ev st => (evalParts ev ps.toList).bind fun l => asValue (aBuildSlice t n l st)
  | .store t a x => fun _ ev st => two (ev a) (ev x) fun p v => asSkip (aStore p t v st)
  | .convert s d x => fun _ ev st => (ev x).bind fun v => asValue (aBytes s d v st)
  | .makeMap _ none => fun _ _ st => some (.value (.map (some st.next)), st.new (.map [] 0))
  | .makeSlice t l c => fun _ ev st => two (ev l) (ev c) fun x y => asValue (aMakeSlice t x y st)
  | .mapUpdate t m k x => fun _ ev st => two (ev m) (ev k) fun mv kv => (ev x).bind fun v => asSkip (aMapUpdate t mv kv v st)
  | .insert t m k x => fun _ ev st => two (ev m) (ev k) fun mv kv => (ev x).bind fun v => asSkip (aMapUpdate t mv kv v st)
  | .range t x => fun _ ev st => (ev x).bind fun v => asValue (aRange t v st)
  | .next x s => fun _ ev st => (ev x).bind fun v => asValue (aNext v s st)
  | .defer ⟨.value x, args, _⟩ => fun _ ev st => aDefer (aTarget (.value x) ev args.toList) st
  | .call ⟨.builtin b, args, ats⟩ => fun _ ev st => (evalAll ev args.toList).bind fun vs => aDo b vs ats.toList st
  | .call ⟨c, args, _⟩ => fun X ev st => aCall X (aTarget c ev args.toList) st
  | _ => fun _ _ _ => none

def aOpOr (r : Option Value) : Op → Ext0 → Ev → St → Option (ANext × St) :=
  match r with
  | some v => fun _ _ _ st => some (.value v, st)
  | none => fun o X ev st => aAct o X ev st

/-- An operation: one that only looks, or one that does something. -/
def aOp (o : Op) (X : Ext0) (ev : Ev) (st : St) : Option (ANext × St) := aOpOr (aRead o ev st) o X ev st

def flatQ (v : Value) : Bool :=
  match v with
  | .int _ _ => true
  | .bool _ => true
  | .string _ => true
  | v => flat v

def asConst (b : Bool) : Value → Option Value :=
  match b with
  | true => fun v => some v
  | false => fun _ => none

def asGlobal (a : Option AObj) : Nat → Nat → Option Value :=
  match a with
  | some _ => fun G g => bif Nat.ble (Nat.succ g) G then some (.pointer (some ⟨g, 0, none⟩)) else none
  | none => fun _ _ => none

def aEval (x : Operand) : Nat → St → Tr Value → Option Value :=
  match x with
  | .tmp t => fun _ _ tm => tm.get t
  | .const v => fun _ _ _ => asConst (flatQ v) v
  | .global g => fun G st _ => asGlobal (st.heap.get g) G g
  | .func f => fun _ _ _ => some (.func (.func f) ⟨[]⟩ ⟨[]⟩)

end
end Go.Proofs.YthojmgjgmbnopaaGreatDoor
/- The evaluator: regions, code, calls. -/
namespace Go.Proofs.YthojmgjgmbnopaaGreatDoor
open Go
noncomputable section

structure EFr where
  tm : Tr Value
  df : List (FuncId × List Value)
  st : St

abbrev ACall := FuncId → List Value → St → Option (Value × St)

/-- What does not change in a frame: how many temporaries, who does the calls. -/
structure En where
  X : Ext0
  G : Nat
  n : Nat
  call : ACall

/-- A temporary gets a value (a frame has n of them). -/
def aPut (dst : Option Tmp) : Nat → Tr Value → Value → Option (Tr Value) :=
  match dst with
  | none => fun _ tm _ => some tm
  | some d => fun n tm v => bif Nat.ble (Nat.succ d) n then some (tm.set d (some v)) else none

/-- Is the operation wanted? -/
def asWanted (v : Option Value) : Bool → Option Bool :=
  match v with
  | some (.bool b) => fun want => some (b == want)
  | some _ => fun _ => some false
  | none => fun _ => none

def aWanted (g : Option (Nat × Bool)) : Array Oper → Tr Value → Option Bool :=
  match g with
  | none => fun _ _ => some true
  | some (j, want) => fun ops tm => match (ops[j]?).bind (·.dst) with
    | none => some false
    | some d => asWanted (tm.get d) want

def asFr (t : Option (Tr Value)) : List (FuncId × List Value) → St → Option EFr :=
  match t with
  | some tm => fun df st => some ⟨tm, df, st⟩
  | none => fun _ _ => none

def aBack (r : Option (Value × St)) : En → Option Tmp → EFr → Option EFr :=
  match r with
  | some (v, st) => fun E dst s => asFr (aPut dst E.n s.tm v) s.df st
  | none => fun _ _ _ => none

/-- What becomes of the frame behind an operation. -/
def aBehind (r : Option (ANext × St)) : En → Option Tmp → EFr → Option EFr :=
  match r with
  | some (.value v, st) => fun E dst s => asFr (aPut dst E.n s.tm v) s.df st
  | some (.defer f vs, st) => fun E dst s => asFr (aPut dst E.n s.tm undef) ((f, vs) :: s.df) st
  | some (.enter f vs, st) => fun E dst s => aBack (E.call f vs st) E dst s
  | none => fun _ _ _ => none

def EFr.ev (s : EFr) (G : Nat) : Ev := fun x => aEval x G s.st s.tm

def aGo (w : Option Bool) : En → Oper → EFr → Option EFr :=
  match w with
  | some true => fun E o s => aBehind (aOp o.op E.X (s.ev E.G) s.st) E o.dst s
  | some false => fun E o s => asFr (aPut o.dst E.n s.tm undef) s.df s.st
  | none => fun _ _ _ => none

def aOne (E : En) (ops : Array Oper) (o : Oper) (s : EFr) : Option EFr := aGo (aWanted o.guard ops s.tm) E o s

def evNext (r : Option EFr) : (En → Array Oper → EFr → Option EFr) → En → Array Oper → Option EFr :=
  match r with
  | some s => fun ih E ops => ih E ops s
  | none => fun _ _ _ => none

def evOps (l : List Oper) : En → Array Oper → EFr → Option EFr :=
  List.rec (motive := fun _ => En → Array Oper → EFr → Option EFr) (fun _ _ s => some s) (fun o _ ih E ops s => evNext (aOne E ops o s) ih E ops) l

/-- An operation of a region that draws: its number, itself, what must come directly ahead of it. -/
structure ERow where
  i : Nat
  o : Oper
  dm : Nat

def bitOf (m i : Nat) : Bool := Nat.testBit m i

def maskOf : List Edge → Nat
  | [] => 0
  | e :: l => bif Region.binds .any e then maskOf l ||| (1 <<< e.on) else maskOf l

def rowsOf : Nat → List Oper → List ERow
  | _, [] => []
  | i, o :: l => ⟨i, o, maskOf o.after.toList⟩ :: rowsOf (i + 1) l

def isReady (la : Nat) (r : ERow) : Bool := !bitOf la r.i && Nat.beq (r.dm &&& la) r.dm

/-- What a hoisted operation yields: one that only looks, or is not wanted. -/
def aHoist (G : Nat) (ops : Array Oper) (o : Oper) (s : EFr) : Option Value :=
  match aWanted o.guard ops s.tm with
  | some true => aRead o.op (s.ev G) s.st
  | some false => some undef
  | none => none

def dstOf (d : Option Tmp) (t : Tmp) : Bool :=
  match d with
  | some d => Nat.beq d t
  | none => false

/-- Whoever looks at this operation's temporary has it ahead; nobody else writes there. -/
def mayHoist (ops : Array Oper) (rows : List ERow) (r : ERow) : Bool :=
  rows.all fun x => (bitOf x.dm r.i || (Oper.looksAt ops x.o).all fun t => !dstOf r.o.dst t) && (Nat.beq x.i r.i || (match x.o.dst with | some d => !dstOf r.o.dst d | none => true))

/-- What is hoisted: an operation that only looks, what it yields; or a new variable: its block, its cells. -/
inductive Held where
  | looks (r : ERow) (v : Value)
  | var (r : ERow) (k : Nat)

def Held.row : Held → ERow
  | .looks r _ => r
  | .var r _ => r

def veqL (f : Value → Value → Bool) : List Value → List Value → Bool
  | [], [] => true
  | a :: x, b :: y => f a b && veqL f x y
  | _, _ => false

/-- The same value? -/
def veq : Nat → Value → Value → Bool
  | _, .bool a, .bool b => a == b
  | _, .int k a, .int k' b => Nat.beq (kindNo k) (kindNo k') && intEq a b
  | _, .string ⟨⟨a⟩⟩, .string ⟨⟨b⟩⟩ => bytesEq a b
  | _, .pointer none, .pointer none => true
  | _, .pointer (some ⟨a, o, none⟩), .pointer (some ⟨b, o', none⟩) => Nat.beq a b && Nat.beq o o'
  | _, .slice none n c, .slice none n' c' => Nat.beq n n' && Nat.beq c c'
  | _, .slice (some ⟨a, o, none⟩) n c, .slice (some ⟨b, o', none⟩) n' c' => Nat.beq a b && Nat.beq o o' && Nat.beq n n' && Nat.beq c c'
  | _, .map none, .map none => true
  | _, .map (some a), .map (some b) => Nat.beq a b
  | _, .nilFunc, .nilFunc => true
  | _, .nilIface, .nilIface => true
  | n + 1, .iface t a, .iface t' b => Nat.beq t t' && veq n a b
  | n + 1, .func (.func f) ⟨a⟩ ⟨b⟩, .func (.func g) ⟨a'⟩ ⟨b'⟩ => Nat.beq f g && veqL (veq n) a a' && veqL (veq n) b b'
  | n + 1, .agg ⟨a⟩, .agg ⟨b⟩ => veqL (veq n) a b
  | n + 1, .tuple ⟨a⟩, .tuple ⟨b⟩ => veqL (veq n) a b
  | _, _, _ => false

def tmIs (tm : Tr Value) (dst : Option Tmp) (v : Value) : Bool :=
  match dst with
  | none => true
  | some d => match tm.get d with
    | some u => veq 9 u v
    | none => false

/-- Does what was hoisted still yield the same? -/
def holds (G : Nat) (ops : Array Oper) (s : EFr) : Held → Bool
  | .looks r v => (match aHoist G ops r.o s with
    | some u => veq 9 u v
    | none => false) && tmIs s.tm r.o.dst v
  | .var r k => (match aWanted r.o.guard ops s.tm with | some true => true | _ => false) && tmIs s.tm r.o.dst (.pointer (some ⟨k, 0, none⟩))

/-- The first row that may be hoisted: what it yields, the frame behind. -/
def firstHoist (E : En) (ops : Array Oper) (rows : List ERow) (s : EFr) : List ERow → Option (Held × EFr)
  | [] => none
  | r :: l => match aHoist E.G ops r.o s with
    | some v => bif mayHoist ops rows r then match aPut r.o.dst E.n s.tm v with
        | some tm => some (.looks r v, ⟨tm, s.df, s.st⟩)
        | none => none
      else firstHoist E ops rows s l
    | none => match r.o.op with
      | .alloc t => match aWanted r.o.guard ops s.tm, aZero t, sizeIn t with
        | some true, some z, some u => bif mayHoist ops rows r then match aPut r.o.dst E.n s.tm (.pointer (some ⟨s.st.next, 0, none⟩)) with
            | some tm => some (.var r s.st.next, ⟨tm, s.df, s.st.new (.cells false u (Tr.fill .nil 0 z.cells.toList))⟩)
            | none => none
          else firstHoist E ops rows s l
        | _, _, _ => firstHoist E ops rows s l
      | _ => firstHoist E ops rows s l

/-- A region that draws: what only looks is taken ahead; of what does something one alone may be ready. -/
def evAny (E : En) (ops : Array Oper) (rows : List ERow) : Nat → Nat → List Held → EFr → Option EFr
  | 0, la, _, s => bif rows.all (fun r => bitOf la r.i) then some s else none
  | k + 1, la, hl, s => match rows.filter (isReady la) with
    | [] => bif rows.all (fun r => bitOf la r.i) then some s else none
    | rd => match firstHoist E ops rows s rd with
      | some (h, s') => bif (h :: hl).all (holds E.G ops s') then evAny E ops rows k (la ||| (1 <<< h.row.i)) (h :: hl) s' else none
      | none => match rd with
        | [r] => match aOne E ops r.o s with
          | some s' => bif (hl.filter fun h => !bitOf r.dm h.row.i).all (holds E.G ops s') then
              evAny E ops rows k (la ||| (1 <<< r.i)) (hl.filter fun h => !bitOf r.dm h.row.i) s' else none
          | none => none
        | _ => none

/-- The edges of a region go back. -/
def goesBack (rows : List ERow) : Bool := rows.all fun r => Nat.ble (Nat.succ r.dm) (1 <<< r.i)

inductive AExit where
  | normal
  | exit (id : Nat)
  | ret

abbrev Ran := Option (AExit × EFr)

def asNormal (r : Option EFr) : Ran :=
  match r with
  | some s => some (.normal, s)
  | none => none

def evRegion (draw : Bool) : En → Array Oper → EFr → Ran :=
  match draw with
  | false => fun E ops s => asNormal (evOps ops.toList E ops s)
  | true => fun E ops s => bif goesBack (rowsOf 0 ops.toList) then asNormal (evAny E ops (rowsOf 0 ops.toList) ops.size 0 [] s) else none

def evSeq (r : Ran) : (En → Nat → EFr → Ran) → En → Nat → Ran :=
  match r with
  | some (.normal, s) => fun k E lf => k E lf s
  | some (.exit id, s) => fun _ _ _ => some (.exit id, s)
  | some (.ret, s) => fun _ _ _ => some (.ret, s)
  | none => fun _ _ _ => none

def evCond (c : Option Value) : (En → Nat → EFr → Ran) → (En → Nat → EFr → Ran) → En → Nat → EFr → Ran :=
  match c with
  | some (.bool true) => fun a _ E lf s => a E lf s
  | some (.bool false) => fun _ b E lf s => b E lf s
  | _ => fun _ _ _ _ _ => none

def evBlock (r : Ran) : Nat → Ran :=
  match r with
  | some (.normal, s) => fun _ => some (.normal, s)
  | some (.exit id', s) => fun id => bif Nat.beq id' id then some (.normal, s) else some (.exit id', s)
  | some (.ret, s) => fun _ => some (.ret, s)
  | none => fun _ => none

def evAgain (r : Ran) : ((EFr → Ran) → EFr → Ran) → (EFr → Ran) → Ran :=
  match r with
  | some (.normal, s) => fun ih body => ih body s
  | some (.exit id, s) => fun _ _ => some (.exit id, s)
  | some (.ret, s) => fun _ _ => some (.ret, s)
  | none => fun _ _ => none

def evLoop (k : Nat) : (EFr → Ran) → EFr → Ran :=
  Nat.rec (motive := fun _ => (EFr → Ran) → EFr → Ran) (fun _ _ => none) (fun _ ih body s => evAgain (body s) ih body) k

def evCode (c : Code) : En → Nat → EFr → Ran :=
  Code.rec (motive := fun _ => En → Nat → EFr → Ran)
    (fun _ _ s => some (.normal, s))
    (fun _ ops draw E _ s => evRegion draw E ops s)
    (fun _ _ a b E lf s => evSeq (a E lf s) b E lf)
    (fun c _ _ a b E lf s => evCond (aEval c E.G s.st s.tm) a b E lf s)
    (fun id _ b E lf s => evBlock (b E lf s) id)
    (fun _ b E lf s => evLoop lf (b E lf) s)
    (fun _ _ _ _ _ _ _ _ _ => none)
    (fun id _ _ s => some (.exit id, s))
    (fun _ b E lf s => b E lf s)
    (fun _ _ _ s => some (.normal, s))
    (fun _ _ _ _ => none)
    (fun _ _ s => some (.ret, s))
    (fun _ _ _ _ => none) c

/-- A function's results. -/
def aResults (tm : Tr Value) (st : St) : List ResultVar → Option (List Value)
  | [] => some []
  | .tmp t :: l => match tm.get t with
    | some v => match aResults tm st l with
      | some vs => some (v :: vs)
      | none => none
    | none => none
  | .cell a t :: l => match tm.get a with
    | some x => match aLoad x t st with
      | some v => match aResults tm st l with
        | some vs => some (v :: vs)
        | none => none
      | none => none
    | none => none

def asResult (l : Option (List Value)) : Option Value :=
  match l with
  | some [v] => some v
  | some vs => some (.tuple ⟨vs⟩)
  | none => none

def aResult (tm : Tr Value) (st : St) (rs : List ResultVar) : Option Value := asResult (aResults tm st rs)

/-- A function's body: the frame at its end. -/
def asEnd (r : Ran) : Option EFr :=
  match r with
  | some (.normal, s) => some s
  | some (.ret, s) => some s
  | _ => none

def evRun (c : Option Code) : Nat → Ext0 → Nat → ACall → Nat → List Value → St → Option EFr :=
  match c with
  | some c => fun nt X G call lf args st => asEnd (evCode c ⟨X, G, args.length + (nt - args.length), call⟩ lf ⟨Tr.fill .nil 0 args, [], st⟩)
  | none => fun _ _ _ _ _ _ _ => none

def evBody (fn : Option Func) : Ext0 → Nat → ACall → Nat → List Value → St → Option EFr :=
  match fn with
  | some fn => fun X G call lf args st => evRun fn.body fn.ntmps X G call lf args st
  | none => fun _ _ _ _ _ _ => none

def resultsOf (fn : Option Func) : List ResultVar :=
  match fn with
  | some fn => fn.results.toList
  | none => []

def evAfter (s : Option EFr) : List ResultVar → (St → Option St) → Option St :=
  match s with
  | some s => fun rs k => match s.df with
    | [] => match aResult s.tm s.st rs with
      | some _ => k s.st
      | none => none
    | _ => none
  | none => fun _ _ => none

/-- The deferred calls, the last first. -/
def evDefers (X : Ext0) (G : Nat) (call : ACall) (lf : Nat) : List (FuncId × List Value) → St → Option St
  | [], st => some st
  | (f, vs) :: l, st => evAfter (evBody P.funcs[f]? X G call lf vs st) (resultsOf P.funcs[f]?) (evDefers X G call lf l)

theorem evDefers_cons (X : Ext0) (G : Nat) (call : ACall) (lf : Nat) (f : FuncId) (vs : List Value) (l : List (FuncId × List Value)) (st : St) :
    evDefers X G call lf ((f, vs) :: l) st = evAfter (evBody P.funcs[f]? X G call lf vs st) (resultsOf P.funcs[f]?) (evDefers X G call lf l) := rfl

def asReturn (st : Option St) : Tr Value → List ResultVar → Option (Value × St) :=
  match st with
  | some st => fun tm rs => match aResult tm st rs with
    | some v => some (v, st)
    | none => none
  | none => fun _ _ => none

def evLeave (s : Option EFr) : Ext0 → Nat → ACall → Nat → List ResultVar → Option (Value × St) :=
  match s with
  | some s => fun X G call lf rs => asReturn (evDefers X G call lf s.df s.st) s.tm rs
  | none => fun _ _ _ _ _ => none

abbrev Known := FuncId → Option (List Value → St → Option (Value × St))

def evGo (o : Option (List Value → St → Option (Value × St))) : ACall → Ext0 → Nat → Nat → FuncId → List Value → St → Option (Value × St) :=
  match o with
  | some o => fun _ _ _ _ _ args st => o args st
  | none => fun call X G lf f args st => evLeave (evBody P.funcs[f]? X G call lf args st) X G call lf (resultsOf P.funcs[f]?)

/-- A call. O: functions whose contract is known. -/
def evCall (X : Ext0) (G : Nat) (O : Known) (lf : Nat) : Nat → FuncId → List Value → St → Option (Value × St)
  | 0, _, _, _ => none
  | d + 1, f, args, st => evGo (O f) (evCall X G O lf d) X G lf f args st

end
end Go.Proofs.YthojmgjgmbnopaaGreatDoor
/- The evaluator is sound: loads, stores, new blocks. No program is named. -/
namespace Go.Proofs.YthojmgjgmbnopaaGreatDoor
open Go Go.RowKit

theorem add_none (b o n : Nat) : (⟨b, o, none⟩ : Addr).add n = ⟨b, o + n, none⟩ := by
  unfold Addr.add
  split
  · subst_vars; rfl
  · rfl

section
variable {G : Nat} {W : World} {ρ : Rho} {st : St} {w : World} {P : Program}

theorem Sim.congr {st' : St} (h : Sim G W ρ st w) (hg : ∀ k, st'.heap.get k = st.heap.get k) (hn : st'.next = st.next) : Sim G W ρ st' w :=
  ⟨h.below, fun k hk => h.fresh k (hn ▸ hk), hn ▸ h.low, h.glob, fun k a hk ha => h.globB k a hk (hg k ▸ ha), fun k a ha e he => h.obj k a (hg k ▸ ha) e he,
   fun k k' a a' e e' h1 h2 => h.inj k k' a a' e e' (hg k ▸ h1) (hg k' ▸ h2)⟩

theorem Sim.globPut (h : Sim G W ρ st w) {k : Nat} {b : AObj} (hk : st.heap.get k = some b) (b' : AObj) : ∀ j a, j < G → (st.put k b').heap.get j = some a → ∃ e, ρ j = some e := by
  intro j a hj ha
  simp only [St.put, Tr.get_set] at ha
  by_cases hjk : j = k
  · subst hjk; exact h.globB _ _ hj hk
  · rw [if_neg hjk] at ha; exact h.globB _ _ hj ha

theorem Sim.load (h : Sim G W ρ st w) {k : Nat} {ro : Bool} {u : Nat} {c : Tr Value} {e : Spot} (hk : st.heap.get k = some (.cells ro u c)) (he : ρ k = some e)
    {i : Nat} {v : Value} (hv : c.get i = some v) : ∃ v', w.cell? ⟨e.b, i + e.sh, none⟩ = some v' ∧ VR ρ v v' := by
  obtain ⟨o, ho, hr, _⟩ := h.obj k _ hk e he
  cases o <;> simp only [ObjR] at hr
  obtain ⟨_, _, _, hc⟩ := hr
  obtain ⟨v', h1, h2⟩ := hc i v hv
  exact ⟨v', by simp [World.cell?, ho, h1], h2⟩

theorem run_cell {a : Addr} {v : Value} (h : w.cell? a = some v) : (load a).run P w = .ok v w := by simp [h]

theorem Sim.cells (h : Sim G W ρ st w) {k : Nat} {ro : Bool} {u : Nat} {c : Tr Value} {e : Spot} (hk : st.heap.get k = some (.cells ro u c)) (he : ρ k = some e) (o : Nat) :
    ∀ (n i : Nat) (l : List Value) (acc : Array Value), cellsFrom c (o + i) n = some l →
      ∃ l', (loadCellsFrom ⟨e.b, o + e.sh, none⟩ i n acc).run P w = .ok (acc ++ l'.toArray) w ∧ VRs ρ l l' := by
  intro n
  induction n with
  | zero =>
    intro i l acc hl
    simp only [cellsFrom, Option.some.injEq] at hl
    subst hl
    exact ⟨[], by simp [loadCellsFrom], .nil⟩
  | succ n ih =>
    intro i l acc hl
    simp only [cellsFrom] at hl
    cases hv : c.get (o + i) with
    | none => simp [hv] at hl
    | some v =>
      simp only [hv] at hl
      cases hr : cellsFrom c (o + i + 1) n with
      | none => simp [hr] at hl
      | some r =>
        simp only [hr, Option.some.injEq] at hl
        subst hl
        obtain ⟨v', h1, h2⟩ := h.load hk he hv
        obtain ⟨l', h3, h4⟩ := ih (i + 1) r (acc.push v') (by rw [show o + (i + 1) = o + i + 1 by omega]; exact hr)
        refine ⟨v' :: l', ?_, .cons h2 h4⟩
        rw [loadCellsFrom, Sem.run_bind, add_none, show o + e.sh + i = o + i + e.sh by omega, run_cell h1, Result.andThen_ok, h3]
        simp

theorem Sim.loadCells (h : Sim G W ρ st w) {k : Nat} {ro : Bool} {u : Nat} {c : Tr Value} {e : Spot} (hk : st.heap.get k = some (.cells ro u c)) (he : ρ k = some e) {o n : Nat} {l : List Value}
    (hl : cellsFrom c o n = some l) : ∃ l', (loadCells ⟨e.b, o + e.sh, none⟩ n).run P w = .ok ⟨l'⟩ w ∧ VRs ρ l l' := by
  obtain ⟨l', h1, h2⟩ := h.cells (P := P) hk he o n 0 l #[] (by simpa using hl)
  exact ⟨l', by rw [Go.loadCells, h1]; simp, h2⟩

/-- One cell of a block of the call's own is written. -/
theorem Sim.setCell (h : Sim G W ρ st w) {k : Nat} {u : Nat} {c : Tr Value} {e : Spot} (hk : st.heap.get k = some (.cells false u c)) (he : ρ k = some e)
    {i : Nat} {old v v' : Value} (hi : c.get i = some old) (hv : VR ρ v v') :
    Sim G W ρ (st.put k (.cells false u (c.set i (some v)))) (w.setCell ⟨e.b, i + e.sh, none⟩ v') ∧ (∃ x, w.cell? ⟨e.b, i + e.sh, none⟩ = some x) ∧ w.frozen? ⟨e.b, i + e.sh, none⟩ = false := by
  obtain ⟨o, ho, hr, hB⟩ := h.obj k _ hk e he
  have hB := hB rfl
  cases o <;> simp only [ObjR] at hr
  rename_i cs el fr
  obtain ⟨hu, hsz, hfr, hc⟩ := hr
  obtain ⟨x, hx, _⟩ := hc i old hi
  have hlt : i + e.sh < cs.size := by
    rcases Nat.lt_or_ge (i + e.sh) cs.size with h' | h'
    · exact h'
    · simp [Array.getElem?_eq_none h'] at hx
  refine ⟨⟨h.below.setCell (by exact hB) v', h.fresh, h.low, h.glob, h.globPut hk _, ?_, ?_⟩, ⟨x, by simp [World.cell?, ho, hx]⟩, ?_⟩
  · intro j a ha f hf
    simp only [St.put, Tr.get_set] at ha
    by_cases hj : j = k
    · subst hj
      rw [if_pos rfl, Option.some.injEq] at ha
      subst ha
      obtain rfl : e = f := by rw [he] at hf; exact Option.some.inj hf
      refine ⟨.cells (cs.setIfInBounds (i + e.sh) v') el fr, by simp [World.setCell, Array.getElem?_modify, ho], ?_, fun _ => hB⟩
      refine ⟨hu, by simp [hsz], fun _ j hj => hfr trivial j (by simpa using hj), ?_⟩
      intro j y hy
      rw [Tr.get_set] at hy
      by_cases hji : j = i
      · subst hji
        rw [if_pos rfl, Option.some.injEq] at hy
        subst hy
        exact ⟨v', by simp [hlt], hv⟩
      · rw [if_neg hji] at hy
        obtain ⟨y', h1, h2⟩ := hc j y hy
        exact ⟨y', by rw [Array.getElem?_setIfInBounds_ne (by omega)]; exact h1, h2⟩
    · rw [if_neg hj] at ha
      obtain ⟨o', h1, h2, h3⟩ := h.obj j a ha f hf
      have hne : f.b ≠ e.b := fun hb => hj (h.inj j k a _ f e ha hk hf he hb)
      exact ⟨o', by rw [Below.heap_setCell _ _ _ _ hne]; exact h1, h2, h3⟩
  · intro j j' a a' f f' ha ha' hf hf' hb
    simp only [St.put, Tr.get_set] at ha ha'
    obtain ⟨b1, hb1⟩ : ∃ a, st.heap.get j = some a := by
      by_cases hik : j = k
      · subst hik; exact ⟨_, hk⟩
      · rw [if_neg hik] at ha; exact ⟨a, ha⟩
    obtain ⟨b2, hb2⟩ : ∃ a, st.heap.get j' = some a := by
      by_cases hik : j' = k
      · subst hik; exact ⟨_, hk⟩
      · rw [if_neg hik] at ha'; exact ⟨a', ha'⟩
    exact h.inj j j' b1 b2 f f' hb1 hb2 hf hf' hb
  · simp only [World.frozen?, ho]
    have := hfr trivial (i + e.sh) hlt
    simpa using this


theorem VR.one {v v' : Value} (h : VR ρ v v') (hv : v.oneCell' = true) : v'.oneCell' = true := by cases h <;> first | rfl | (simp [Value.oneCell'] at hv)

theorem Sim.run_one {a : Addr} {x v v' : Value} {s : Sem Unit} (hx : w.cell? a = some x) (hf : w.frozen? a = false) (hone : v.oneCell' = true) (hv : VR ρ v v') :
    (do Go.store a v'; s).run P w = s.run P (w.setCell a v') := by
  rw [Sem.run_bind, run_store P w a v' .plain (hv.one hone), hx]
  simp [hf]

theorem Sim.storeCells {k : Nat} {u : Nat} {e : Spot} (he : ρ k = some e) (o : Nat) : ∀ (l l' : List Value) (i : Nat) (c c' : Tr Value) (st : St) (w : World), Sim G W ρ st w →
    st.heap.get k = some (.cells false u c) → putCells c (o + i) l = some c' → VRs ρ l l' →
    ∃ w', (storeCells ⟨e.b, o + e.sh, none⟩ l' i).run P w = .ok () w' ∧ Sim G W ρ (st.put k (.cells false u c')) w' := by
  intro l
  induction l with
  | nil =>
    intro l' i c c' st w h hk hp hv
    cases hv
    simp only [putCells, Option.some.injEq] at hp
    subst hp
    refine ⟨w, rfl, h.congr (fun j => ?_) rfl⟩
    simp only [St.put, Tr.get_set]
    split
    · subst_vars; exact hk.symm
    · rfl
  | cons v l ih =>
    intro l' i c c' st w h hk hp hv
    cases hv with
    | @cons _ v' _ l' hv hl =>
      simp only [putCells] at hp
      cases hc : c.get (o + i) with
      | none => simp [hc] at hp
      | some old =>
        simp only [hc] at hp
        have hone : v.oneCell' = true ∧ putCells (c.set (o + i) (some v)) (o + i + 1) l = some c' := by
          cases v <;> first | exact ⟨rfl, hp⟩ | (simp at hp)
        obtain ⟨h1, ⟨x, hx⟩, hf⟩ := h.setCell hk he hc hv
        obtain ⟨w', h2, h3⟩ := ih l' (i + 1) (c.set (o + i) (some v)) c' (st.put k (.cells false u (c.set (o + i) (some v)))) _ h1
          (by simp [St.put, Tr.get_set]) (by rw [show o + (i + 1) = o + i + 1 by omega]; exact hone.2) hl
        refine ⟨w', ?_, h3.congr (fun j => ?_) rfl⟩
        · rw [Go.storeCells, add_none, show o + e.sh + i = o + i + e.sh by omega, Sim.run_one hx hf hone.1 hv, h2]
        · simp only [St.put, Tr.get_set]
          split <;> rfl

/-- A new block. -/
theorem Sim.new (h : Sim G W ρ st w) {a : AObj} {o : Obj} {sz u : Nat} (hr : ObjR (fun i => if i = st.next then some ⟨w.heap.size, 0, sz, u⟩ else ρ i) ⟨w.heap.size, 0, sz, u⟩ a o) :
    Sim G W (fun i => if i = st.next then some ⟨w.heap.size, 0, sz, u⟩ else ρ i) (st.new a) { w with heap := w.heap.push o } ∧
    Ext ρ st (fun i => if i = st.next then some ⟨w.heap.size, 0, sz, u⟩ else ρ i) (st.new a) := by
  have hle : Rho.le ρ (fun i => if i = st.next then some ⟨w.heap.size, 0, sz, u⟩ else ρ i) := by
    intro k e he
    show (if k = st.next then _ else ρ k) = some e
    rw [if_neg (by rintro rfl; rw [h.fresh _ (Nat.le_refl _)] at he; cases he)]
    exact he
  have hlt : ∀ k a e, st.heap.get k = some a → ρ k = some e → e.b < w.heap.size := by
    intro k a e ha he
    obtain ⟨o, ho, _⟩ := h.obj k a ha e he
    rcases Nat.lt_or_ge e.b w.heap.size with h' | h'
    · exact h'
    · simp [Array.getElem?_eq_none h'] at ho
  refine ⟨⟨?_, ?_, ?_, ?_, ?_, ?_, ?_⟩, ⟨hle, Nat.le_succ _, ?_⟩⟩
  · exact h.below.alloc h.below.size o
  · intro k hk
    simp only [St.new] at hk
    show (if k = st.next then _ else ρ k) = none
    rw [if_neg (by omega)]
    exact h.fresh k (by omega)
  · exact Nat.le_succ_of_le h.low
  · intro k e hk he
    have := h.low
    exact h.glob k e hk (by rw [← he, if_neg (by omega)])
  · intro k b hk hb
    have := h.low
    simp only [St.new, Tr.get_set] at hb
    rw [if_neg (by omega)] at hb
    obtain ⟨e, he⟩ := h.globB k b hk hb
    exact ⟨e, hle _ _ he⟩
  · intro k b hb f hf
    simp only [St.new, Tr.get_set] at hb
    by_cases hkn : k = st.next
    · subst hkn
      rw [if_pos rfl, Option.some.injEq] at hb
      subst hb
      obtain rfl : (⟨w.heap.size, 0, sz, u⟩ : Spot) = f := Option.some.inj (by rw [← hf, if_pos rfl])
      exact ⟨o, by simp, hr, fun _ => h.below.size⟩
    · rw [if_neg hkn] at hb
      have hf' : ρ k = some f := by rw [← hf, if_neg hkn]
      obtain ⟨o', h1, h2, h3⟩ := h.obj k b hb f hf'
      exact ⟨o', by rw [Array.getElem?_push_lt (hlt k b f hb hf')]; rw [← h1, Array.getElem?_eq_getElem (hlt k b f hb hf')], h2.mono hle, h3⟩
  · intro k k' b b' f f' hb hb' hf hf' hbb
    simp only [St.new, Tr.get_set] at hb hb'
    by_cases h1 : k = st.next <;> by_cases h2 : k' = st.next
    · rw [h1, h2]
    · exfalso
      subst h1
      rw [if_neg h2] at hb'
      have e1 : (⟨w.heap.size, 0, sz, u⟩ : Spot) = f := Option.some.inj (by rw [← hf, if_pos rfl])
      have := hlt k' b' f' hb' (by rw [← hf', if_neg h2])
      rw [← hbb, ← e1] at this
      exact Nat.lt_irrefl _ this
    · exfalso
      subst h2
      rw [if_neg h1] at hb
      have e1 : (⟨w.heap.size, 0, sz, u⟩ : Spot) = f' := Option.some.inj (by rw [← hf', if_pos rfl])
      have := hlt k b f hb (by rw [← hf, if_neg h1])
      rw [hbb, ← e1] at this
      exact Nat.lt_irrefl _ this
    · rw [if_neg h1] at hb
      rw [if_neg h2] at hb'
      exact h.inj k k' b b' f f' hb hb' (by rw [← hf, if_neg h1]) (by rw [← hf', if_neg h2]) hbb
  · intro k hk hn
    exact ⟨by show (if k = st.next then _ else ρ k) = none; rw [if_neg (by omega)]; exact hn, by simp only [St.new, Tr.get_set]; rw [if_neg (by omega)]⟩

/-- A block that is no row of cells gets another content. -/
theorem Sim.setObj (h : Sim G W ρ st w) {k : Nat} {a a' : AObj} {e : Spot} {o : Obj} (hk : st.heap.get k = some a) (he : ρ k = some e) (hro : a.isRo = false) (hr : ObjR ρ e a' o) :
    Sim G W ρ (st.put k a') { w with heap := w.heap.setIfInBounds e.b o } := by
  obtain ⟨o0, ho, _, hB⟩ := h.obj k _ hk e he
  have hB := hB hro
  have hlt : e.b < w.heap.size := by
    rcases Nat.lt_or_ge e.b w.heap.size with h' | h'
    · exact h'
    · simp [Array.getElem?_eq_none h'] at ho
  refine ⟨h.below.trans ⟨rfl, rfl, rfl, by simp, fun i hi => ?_⟩, h.fresh, h.low, h.glob, h.globPut hk _, ?_, ?_⟩
  · rw [Array.getElem?_setIfInBounds_ne (by omega)]
  · intro j b hb f hf
    simp only [St.put, Tr.get_set] at hb
    by_cases hj : j = k
    · subst hj
      rw [if_pos rfl, Option.some.injEq] at hb
      subst hb
      obtain rfl : e = f := by rw [he] at hf; exact Option.some.inj hf
      exact ⟨o, by simp [hlt], hr, fun _ => hB⟩
    · rw [if_neg hj] at hb
      obtain ⟨o', h1, h2, h3⟩ := h.obj j b hb f hf
      have hne : e.b ≠ f.b := fun hbb => hj (h.inj j k b _ f e hb hk hf he hbb.symm)
      exact ⟨o', by rw [Array.getElem?_setIfInBounds_ne hne]; exact h1, h2, h3⟩
  · intro j j' b b' f f' hb hb' hf hf' hbb
    simp only [St.put, Tr.get_set] at hb hb'
    obtain ⟨b1, hb1⟩ : ∃ a, st.heap.get j = some a := by
      by_cases hik : j = k
      · subst hik; exact ⟨_, hk⟩
      · rw [if_neg hik] at hb; exact ⟨b, hb⟩
    obtain ⟨b2, hb2⟩ : ∃ a, st.heap.get j' = some a := by
      by_cases hik : j' = k
      · subst hik; exact ⟨_, hk⟩
      · rw [if_neg hik] at hb'; exact ⟨b', hb'⟩
    exact h.inj j j' b1 b2 f f' hb1 hb2 hf hf' hbb

theorem Sim.drew (h : Sim G W ρ st w) : Sim G W ρ st { w with drawn := w.drawn + 1 } :=
  ⟨h.below.drew, h.fresh, h.low, h.glob, h.globB, h.obj, h.inj⟩

/-- A block is let go. -/
theorem Sim.kill (h : Sim G W ρ st w) (k : Nat) : Sim G W ρ ⟨st.heap.set k none, st.next⟩ w := by
  have get : ∀ j a, (st.heap.set k none).get j = some a → st.heap.get j = some a := by
    intro j a ha
    rw [Tr.get_set] at ha
    split at ha
    · cases ha
    · exact ha
  exact ⟨h.below, h.fresh, h.low, h.glob, fun j a hj ha => h.globB j a hj (get j a ha), fun j a ha => h.obj j a (get j a ha), fun j j' a a' f f' ha ha' => h.inj j j' a a' f f' (get j a ha) (get j' a' ha')⟩

/-- A block that is there keeps the unborn ones. -/
theorem Ext.put {k : Nat} {e : Spot} (he : ρ k = some e) (a : AObj) : Ext ρ st ρ (st.put k a) :=
  ⟨fun _ _ h => h, Nat.le_refl _, fun i _ hn => ⟨hn, by simp only [St.put, Tr.get_set]; rw [if_neg (by rintro rfl; rw [he] at hn; cases hn)]⟩⟩
theorem Ext.kill {k : Nat} {e : Spot} (he : ρ k = some e) : Ext ρ st ρ ⟨st.heap.set k none, st.next⟩ :=
  ⟨fun _ _ h => h, Nat.le_refl _, fun i _ hn => ⟨hn, by simp only [Tr.get_set]; rw [if_neg (by rintro rfl; rw [he] at hn; cases hn)]⟩⟩

end
end Go.Proofs.YthojmgjgmbnopaaGreatDoor
