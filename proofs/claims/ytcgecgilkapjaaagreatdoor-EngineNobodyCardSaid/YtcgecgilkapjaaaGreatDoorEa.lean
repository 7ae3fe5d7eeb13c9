/- An evaluator of the model's code over blocks of its own numbering: what a closed call comes to is reckoned by the kernel. Here: its data, and its operations. No program is named. -/
import Derived.Defers
import Derived.Orders
import Derived.Scope
import Derived.Below
namespace Go.Proofs.YtcgecgilkapjaaaGreatDoor
open Go

/-- A table from numbers to things, as a tree. -/
inductive Tr (α : Type) where
  | nil
  | node (l : Tr α) (v : Option α) (r : Tr α)

/-- (By the recursor itself: the kernel is quicker so.) -/
noncomputable def Tr.get {α : Type} (t : Tr α) : Nat → Option α :=
  Tr.rec (motive := fun _ => Nat → Option α) (fun _ => none)
    (fun _ v _ gl gr n => Nat.rec (motive := fun _ => Option α) v
      (fun m _ => Bool.rec (motive := fun _ => Option α) (gr (Nat.div m (nat_lit 2))) (gl (Nat.div m (nat_lit 2))) (Nat.beq (Nat.mod m (nat_lit 2)) (nat_lit 0))) n) t

def Tr.one {α : Type} : Nat → Nat → Option α → Tr α
  | 0, _, _ => .nil
  | f + 1, n, x => match n with
    | 0 => .node .nil x .nil
    | m + 1 => bif Nat.beq (Nat.mod m (nat_lit 2)) (nat_lit 0) then .node (Tr.one f (Nat.div m (nat_lit 2)) x) none .nil else .node .nil none (Tr.one f (Nat.div m (nat_lit 2)) x)

noncomputable def Tr.set {α : Type} (t : Tr α) : Nat → Option α → Tr α :=
  Tr.rec (motive := fun _ => Nat → Option α → Tr α) (fun n x => Tr.one (Nat.succ n) n x)
    (fun l v r pl pr n x => Nat.rec (motive := fun _ => Tr α) (.node l x r)
      (fun m _ => Bool.rec (motive := fun _ => Tr α) (.node l v (pr (Nat.div m (nat_lit 2)) x)) (.node (pl (Nat.div m (nat_lit 2)) x) v r) (Nat.beq (Nat.mod m (nat_lit 2)) (nat_lit 0))) n) t
noncomputable def Tr.fill {α : Type} (t : Tr α) : Nat → List α → Tr α
  | _, [] => t
  | i, x :: l => Tr.fill (t.set i (some x)) (Nat.succ i) l

theorem Tr.get_zero {α : Type} (l : Tr α) (v : Option α) (r : Tr α) : (Tr.node l v r).get 0 = v := rfl
theorem Tr.get_succ {α : Type} (l : Tr α) (v : Option α) (r : Tr α) (m : Nat) : (Tr.node l v r).get (m + 1) = if m % 2 = 0 then l.get (m / 2) else r.get (m / 2) := by
  show Bool.rec (motive := fun _ => Option α) (r.get (m / 2)) (l.get (m / 2)) (Nat.beq (m % 2) 0) = _
  cases h : Nat.beq (m % 2) 0
  · rw [if_neg (Nat.ne_of_beq_eq_false h)]
  · rw [if_pos (Nat.eq_of_beq_eq_true h)]
theorem Tr.get_nil {α : Type} (n : Nat) : (Tr.nil : Tr α).get n = none := rfl

theorem Tr.get_one {α : Type} : ∀ (f n k : Nat) (x : Option α), n < f → (Tr.one f n x).get k = if k = n then x else none
  | 0, _, _, _, h => by omega
  | f + 1, 0, 0, x, _ => rfl
  | f + 1, 0, k + 1, x, _ => by
    rw [if_neg (by omega)]
    show (Tr.node .nil x .nil : Tr α).get (k + 1) = none
    rw [Tr.get_succ]; split <;> rfl
  | f + 1, n + 1, k, x, h => by
    have e : (Tr.one (f + 1) (n + 1) x : Tr α) = if n % 2 = 0 then .node (Tr.one f (n / 2) x) none .nil else .node .nil none (Tr.one f (n / 2) x) := by
      show (bif Nat.beq (n % 2) 0 then _ else _) = _
      cases h : Nat.beq (n % 2) 0
      · rw [if_neg (Nat.ne_of_beq_eq_false h)]; rfl
      · rw [if_pos (Nat.eq_of_beq_eq_true h)]; rfl
    rw [e]
    cases k with
    | zero => rw [if_neg (show ¬ (0 = n + 1) by omega)]; split <;> rfl
    | succ k =>
      split
      · rename_i h1
        rw [Tr.get_succ, Tr.get_one f (n / 2) (k / 2) x (by omega)]
        by_cases h2 : k % 2 = 0
        · rw [if_pos h2]
          by_cases hq : k = n
          · subst hq; rw [if_pos rfl, if_pos rfl]
          · rw [if_neg (by omega), if_neg (by omega)]
        · rw [if_neg h2, if_neg (by omega)]; rfl
      · rename_i h1
        rw [Tr.get_succ, Tr.get_one f (n / 2) (k / 2) x (by omega)]
        by_cases h2 : k % 2 = 0
        · rw [if_pos h2, if_neg (by omega)]; rfl
        · rw [if_neg h2]
          by_cases hq : k = n
          · subst hq; rw [if_pos rfl, if_pos rfl]
          · rw [if_neg (by omega), if_neg (by omega)]

theorem Tr.get_set {α : Type} : ∀ (t : Tr α) (n k : Nat) (x : Option α), (t.set n x).get k = if k = n then x else t.get k
  | .nil, n, k, x => by
    show (Tr.one (n + 1) n x).get k = _
    rw [Tr.get_one _ _ _ _ (by omega), Tr.get_nil]
  | .node l v r, 0, k, x => by
    show (Tr.node l x r).get k = _
    cases k with
    | zero => rfl
    | succ k => rw [if_neg (by omega), Tr.get_succ, Tr.get_succ]
  | .node l v r, n + 1, k, x => by
    have e : (Tr.node l v r).set (n + 1) x = if n % 2 = 0 then .node (l.set (n / 2) x) v r else .node l v (r.set (n / 2) x) := by
      show Bool.rec (motive := fun _ => Tr α) (.node l v (r.set (n / 2) x)) (.node (l.set (n / 2) x) v r) (Nat.beq (n % 2) 0) = _
      cases h : Nat.beq (n % 2) 0
      · rw [if_neg (Nat.ne_of_beq_eq_false h)]
      · rw [if_pos (Nat.eq_of_beq_eq_true h)]
    rw [e]
    cases k with
    | zero => rw [if_neg (show ¬ (0 = n + 1) by omega)]; split <;> rfl
    | succ k =>
      split
      · rename_i h1
        rw [Tr.get_succ, Tr.get_succ, Tr.get_set l]
        by_cases h2 : k % 2 = 0
        · rw [if_pos h2]
          by_cases hq : k = n
          · subst hq; rw [if_pos rfl, if_pos rfl]
          · rw [if_neg (by omega), if_neg (by omega), if_pos h2]
        · rw [if_neg h2, if_neg (by omega), if_neg h2]
      · rename_i h1
        rw [Tr.get_succ, Tr.get_succ, Tr.get_set r]
        by_cases h2 : k % 2 = 0
        · rw [if_pos h2, if_neg (by omega), if_pos h2]
        · rw [if_neg h2]
          by_cases hq : k = n
          · subst hq; rw [if_pos rfl, if_pos rfl]
          · rw [if_neg (by omega), if_neg (by omega), if_neg h2]

theorem Tr.get_fill {α : Type} : ∀ (l : List α) (t : Tr α) (i k : Nat), (t.fill i l).get k = if i ≤ k ∧ k < i + l.length then l[k - i]? else t.get k
  | [], t, i, k => by simp [Tr.fill]; intro h1 h2; omega
  | x :: l, t, i, k => by
    rw [Tr.fill, Tr.get_fill l _ (Nat.succ i) k, Tr.get_set]
    by_cases h : k = i
    · subst h; rw [if_neg (by omega), if_pos rfl, if_pos (by simp only [List.length_cons]; omega)]; simp
    · rw [if_neg h]
      by_cases h2 : i + 1 ≤ k ∧ k < i + 1 + l.length
      · rw [if_pos h2, if_pos (by simp only [List.length_cons]; omega)]
        obtain ⟨j, rfl⟩ : ∃ j, k = i + 1 + j := ⟨k - (i + 1), by omega⟩
        rw [show i + 1 + j - (i + 1) = j by omega, show i + 1 + j - i = j + 1 by omega]; simp
      · rw [if_neg h2, if_neg (by simp only [List.length_cons]; omega)]

/-- A block as the evaluator has it. -/
inductive AObj where
  | cells (ro : Bool) (u : Nat) (c : Tr Value)
  | map (es : List MapEntry) (clock : Nat)
  | sIter (s : ByteArray) (pos : Nat)
  | mIter (m : Option Nat) (since : Nat) (seen : List Nat) (stepped : Nat)

structure St where
  heap : Tr AObj
  next : Nat

/-- No block is named in it. -/
def flatN : Nat → Value → Bool
  | _, .bool _ | _, .int _ _ | _, .float _ _ | _, .complex _ _ _ | _, .string _ | _, .nilFunc | _, .nilIface => true
  | _, .pointer none | _, .slice none _ _ | _, .map none | _, .chan none => true
  | n + 1, .iface _ v => flatN n v
  | n + 1, .func _ ⟨a⟩ ⟨b⟩ => a.all (flatN n) && b.all (flatN n)
  | n + 1, .agg ⟨a⟩ => a.all (flatN n)
  | n + 1, .tuple ⟨a⟩ => a.all (flatN n)
  | _, _ => false
def flat (v : Value) : Bool := flatN 9 v

/-- Where a block of the evaluator's lies in the world: block b, from cell sh on; the block has sz cells; a slice's element has u cells. -/
structure Spot where
  b : Nat
  sh : Nat
  sz : Nat
  u : Nat

abbrev Rho := Nat → Option Spot

/-- A number for each integer. -/
def symInt (n : Nat) : Int := if n % 2 = 0 then Int.ofNat (n / 2) else Int.negSucc (n / 2)
theorem symInt_onto (i : Int) : ∃ n, symInt n = i := by
  cases i with
  | ofNat n => exact ⟨2 * n, by unfold symInt; rw [if_pos (by omega)]; congr 1; omega⟩
  | negSucc n => exact ⟨2 * n + 1, by unfold symInt; rw [if_neg (by omega)]; congr 1; omega⟩

/-- A row's mark: its type, and how many cells an element has (65535: a variable alone). -/
def mark (t u : Nat) : Nat := Nat.add (Nat.mul t 65536) u
theorem mark_mod {t u : Nat} (h : u < 65536) : mark t u % 65536 = u := by
  show (t * 65536 + u) % 65536 = u
  omega
theorem mark_div {t u : Nat} (h : u < 65536) : mark t u / 65536 = t := by
  show (t * 65536 + u) / 65536 = t
  omega

mutual
/-- The evaluator's value, and the world's. -/
inductive VR (ρ : Rho) : Value → Value → Prop
  | bool (b : Bool) : VR ρ (.bool b) (.bool b)
  | int (k : IntKind) (n : Int) : VR ρ (.int k n) (.int k n)
  | float (k : FloatKind) (n : Nat) : VR ρ (.float k n) (.float k n)
  | complex (k : FloatKind) (n m : Nat) : VR ρ (.complex k n m) (.complex k n m)
  | string (s : ByteArray) : VR ρ (.string s) (.string s)
  | nilPtr : VR ρ (.pointer none) (.pointer none)
  | ptr {k : Nat} {e : Spot} (o : Nat) (h : ρ k = some e) : VR ρ (.pointer (some ⟨k, o, none⟩)) (.pointer (some ⟨e.b, o + e.sh, none⟩))
  | nilSlice (n c : Nat) : VR ρ (.slice none n c) (.slice none n c)
  | slice {k : Nat} {e : Spot} (o n c c' : Nat) (h : ρ k = some e) (hc : c ≤ c') (hz : c' = c ∨ o + e.sh + c' * e.u = e.sz) :
      VR ρ (.slice (some ⟨k, o, none⟩) n c) (.slice (some ⟨e.b, o + e.sh, none⟩) n c')
  | slice0 {k : Nat} {e : Spot} (o o' c' : Nat) (h : ρ k = some e) (hz : c' = 0 ∨ o' + c' * e.u = e.sz) :
      VR ρ (.slice (some ⟨k, o, none⟩) 0 0) (.slice (some ⟨e.b, o', none⟩) 0 c')
  | nilMap : VR ρ (.map none) (.map none)
  | map {k : Nat} {e : Spot} (h : ρ k = some e) : VR ρ (.map (some k)) (.map (some e.b))
  | nilChan : VR ρ (.chan none) (.chan none)
  | sym {k : Nat} {e : Spot} (h : ρ k = some e) : VR ρ (.chan (some k)) (.int .i64 (symInt e.b))
  | nilFunc : VR ρ .nilFunc .nilFunc
  | nilIface : VR ρ .nilIface .nilIface
  | iface (t : TypeId) {v v' : Value} (h : VR ρ v v') : VR ρ (.iface t v) (.iface t v')
  | func (fn : Fn) {a a' b b' : List Value} (h : VRs ρ a a') (k : VRs ρ b b') : VR ρ (.func fn ⟨a⟩ ⟨b⟩) (.func fn ⟨a'⟩ ⟨b'⟩)
  | agg {a a' : List Value} (h : VRs ρ a a') : VR ρ (.agg ⟨a⟩) (.agg ⟨a'⟩)
  | tuple {a a' : List Value} (h : VRs ρ a a') : VR ρ (.tuple ⟨a⟩) (.tuple ⟨a'⟩)
inductive VRs (ρ : Rho) : List Value → List Value → Prop
  | nil : VRs ρ [] []
  | cons {v v' : Value} {l l' : List Value} (h : VR ρ v v') (k : VRs ρ l l') : VRs ρ (v :: l) (v' :: l')
end

theorem VRs.length {ρ : Rho} : ∀ {l l' : List Value}, VRs ρ l l' → l.length = l'.length
  | _, _, .nil => rfl
  | _, _, .cons _ k => by simp [k.length]

theorem VRs.get {ρ : Rho} : ∀ {l l' : List Value}, VRs ρ l l' → ∀ {i : Nat} {v : Value}, l[i]? = some v → ∃ v', l'[i]? = some v' ∧ VR ρ v v'
  | _, _, .nil, i, v, h => by simp at h
  | _, _, .cons hv k, 0, v, h => by simp at h; subst h; exact ⟨_, by simp, hv⟩
  | _, _, .cons hv k, i + 1, v, h => by simp at h ⊢; exact k.get h

theorem VRs.append {ρ : Rho} : ∀ {l l' m m' : List Value}, VRs ρ l l' → VRs ρ m m' → VRs ρ (l ++ m) (l' ++ m')
  | _, _, _, _, .nil, h => h
  | _, _, _, _, .cons hv k, h => .cons hv (k.append h)

theorem VRs.drop {ρ : Rho} : ∀ {l l' : List Value} (n : Nat), VRs ρ l l' → VRs ρ (l.drop n) (l'.drop n)
  | _, _, 0, h => by simpa using h
  | _, _, n + 1, .nil => by simpa using VRs.nil
  | _, _, n + 1, .cons hv k => by simpa using k.drop n

theorem VRs.take {ρ : Rho} : ∀ {l l' : List Value} (n : Nat), VRs ρ l l' → VRs ρ (l.take n) (l'.take n)
  | _, _, 0, h => by simpa using VRs.nil
  | _, _, n + 1, .nil => by simpa using VRs.nil
  | _, _, n + 1, .cons hv k => by simpa using VRs.cons hv (k.take n)

/-- A value without blocks is the same on both sides. -/
theorem flat_spec (ρ : Rho) : ∀ (n : Nat) (v : Value), flatN n v = true → (∀ v', VR ρ v v' → v' = v) ∧ VR ρ v v := by
  intro n
  induction n with
  | zero =>
    intro v h
    rcases v with _ | _ | _ | _ | _ | (_ | a) | ⟨_ | a, _, _⟩ | (_ | r) | (_ | r) | _ | _ | _ | _ | _ | _ <;> simp only [flatN] at h <;> first
      | exact absurd h (by decide)
      | exact ⟨fun v' hv => by cases hv; rfl, by constructor⟩
  | succ n ih =>
    have all : ∀ (l : List Value), l.all (flatN n) = true → (∀ l', VRs ρ l l' → l' = l) ∧ VRs ρ l l := by
      intro l
      induction l with
      | nil => intro _; exact ⟨fun l' h => by cases h; rfl, .nil⟩
      | cons x l ihl =>
        intro h
        simp only [List.all_cons, Bool.and_eq_true] at h
        have h1 := ih x h.1
        have h2 := ihl h.2
        exact ⟨fun l' hh => by cases hh with | cons a b => rw [h1.1 _ a, h2.1 _ b], .cons h1.2 h2.2⟩
    intro v h
    rcases v with _ | _ | _ | _ | _ | (_ | a) | ⟨_ | a, _, _⟩ | (_ | r) | (_ | r) | ⟨fn, ⟨a⟩, ⟨b⟩⟩ | _ | ⟨t, x⟩ | _ | ⟨⟨a⟩⟩ | ⟨⟨a⟩⟩ <;> simp only [flatN] at h <;> first
      | exact absurd h (by decide)
      | exact ⟨fun v' hv => by cases hv; rfl, by constructor⟩
      | skip
    · simp only [Bool.and_eq_true] at h
      have h1 := all _ h.1
      have h2 := all _ h.2
      exact ⟨fun v' hv => by cases hv with | func _ p q => rw [h1.1 _ p, h2.1 _ q], .func fn h1.2 h2.2⟩
    · have h1 := ih x h
      exact ⟨fun v' hv => by cases hv with | iface _ p => rw [h1.1 _ p], .iface t h1.2⟩
    · have h1 := all _ h
      exact ⟨fun v' hv => by cases hv with | agg p => rw [h1.1 _ p], .agg h1.2⟩
    · have h1 := all _ h
      exact ⟨fun v' hv => by cases hv with | tuple p => rw [h1.1 _ p], .tuple h1.2⟩

theorem flat_eq {ρ : Rho} {v v' : Value} (h : flat v = true) (k : VR ρ v v') : v' = v := (flat_spec ρ 9 v h).1 _ k
theorem flat_self {ρ : Rho} {v : Value} (h : flat v = true) : VR ρ v v := (flat_spec ρ 9 v h).2

/-- More blocks are known. -/
def Rho.le (ρ ρ' : Rho) : Prop := ∀ k e, ρ k = some e → ρ' k = some e

mutual
theorem VR.mono {ρ ρ' : Rho} (h : ρ.le ρ') : ∀ {v v' : Value}, VR ρ v v' → VR ρ' v v'
  | _, _, .bool b => .bool b
  | _, _, .int k n => .int k n
  | _, _, .float k n => .float k n
  | _, _, .complex k n m => .complex k n m
  | _, _, .string s => .string s
  | _, _, .nilPtr => .nilPtr
  | _, _, .ptr o k => .ptr o (h _ _ k)
  | _, _, .nilSlice n c => .nilSlice n c
  | _, _, .slice o n c c' k a b => .slice o n c c' (h _ _ k) a b
  | _, _, .slice0 o o' c' k b => .slice0 o o' c' (h _ _ k) b
  | _, _, .nilMap => .nilMap
  | _, _, .map k => .map (h _ _ k)
  | _, _, .nilChan => .nilChan
  | _, _, .sym k => .sym (h _ _ k)
  | _, _, .nilFunc => .nilFunc
  | _, _, .nilIface => .nilIface
  | _, _, .iface t k => .iface t (k.mono h)
  | _, _, .func fn a b => .func fn (a.mono h) (b.mono h)
  | _, _, .agg a => .agg (a.mono h)
  | _, _, .tuple a => .tuple (a.mono h)
theorem VRs.mono {ρ ρ' : Rho} (h : ρ.le ρ') : ∀ {l l' : List Value}, VRs ρ l l' → VRs ρ' l l'
  | _, _, .nil => .nil
  | _, _, .cons a b => .cons (a.mono h) (b.mono h)
end

/-- An entry of a map: the key has no blocks. -/
structure EntR (ρ : Rho) (e e' : MapEntry) : Prop where
  key : e'.key = e.key
  val : VR ρ e.val e'.val
  born : e'.born = e.born
  keyR : VR ρ e.key e.key

inductive EntsR (ρ : Rho) : List MapEntry → List MapEntry → Prop
  | nil : EntsR ρ [] []
  | cons {e e' : MapEntry} {l l' : List MapEntry} (h : EntR ρ e e') (k : EntsR ρ l l') : EntsR ρ (e :: l) (e' :: l')

theorem EntsR.mono {ρ ρ' : Rho} (h : ρ.le ρ') : ∀ {l l' : List MapEntry}, EntsR ρ l l' → EntsR ρ' l l'
  | _, _, .nil => .nil
  | _, _, .cons a b => .cons ⟨a.key, a.val.mono h, a.born, a.keyR.mono h⟩ (b.mono h)

/-- A block, and the world's. -/
def ObjR (ρ : Rho) (e : Spot) : AObj → Obj → Prop
  | .cells ro u c, .cells cs T fr => e.u = u % 65536 ∧ cs.size = e.sz ∧ (ro = false → (u / 65536 = T ∧ (u % 65536 = 65535 → e.sh = 0)) ∧ ∀ i, i < cs.size → ¬ (fr.1 ≤ i ∧ i < fr.2)) ∧ ∀ i v, c.get i = some v → ∃ v', cs[i + e.sh]? = some v' ∧ VR ρ v v'
  | .map es clock, .map es' clock' => EntsR ρ es es'.toList ∧ clock' = clock
  | .sIter s pos, .stringIter s' pos' => e.sh = 0 ∧ s' = s ∧ pos' = pos
  | .mIter none since seen stepped, .mapIter none since' seen' stepped' => e.sh = 0 ∧ since' = since ∧ seen' = seen.toArray ∧ stepped' = stepped
  | .mIter (some m) since seen stepped, .mapIter (some m') since' seen' stepped' => e.sh = 0 ∧ (∃ s, ρ m = some s ∧ m' = s.b) ∧ since' = since ∧ seen' = seen.toArray ∧ stepped' = stepped
  | _, _ => False

def AObj.isRo : AObj → Bool
  | .cells ro _ _ => ro
  | _ => false

theorem ObjR.mono {ρ ρ' : Rho} (h : ρ.le ρ') {e : Spot} : ∀ {a : AObj} {o : Obj}, ObjR ρ e a o → ObjR ρ' e a o := by
  intro a o ha
  cases a with
  | cells ro u c =>
    cases o <;> simp only [ObjR] at ha ⊢
    obtain ⟨h1, h2, h3, h4⟩ := ha
    exact ⟨h1, h2, h3, fun i v hv => let ⟨v', a, b⟩ := h4 i v hv; ⟨v', a, b.mono h⟩⟩
  | map es cl =>
    cases o <;> simp only [ObjR] at ha ⊢
    exact ⟨ha.1.mono h, ha.2⟩
  | sIter s pos => cases o <;> simp only [ObjR] at ha ⊢; exact ha
  | mIter m s l p =>
    cases m with
    | none => cases o <;> simp only [ObjR] at ha <;> rename_i m _ _ _ <;> cases m <;> simp only [ObjR] at ha ⊢; exact ha
    | some m =>
      cases o <;> simp only [ObjR] at ha <;> rename_i m _ _ _ <;> cases m <;> simp only [ObjR] at ha ⊢
      obtain ⟨h0, ⟨s, h1, h2⟩, h3⟩ := ha
      exact ⟨h0, ⟨s, h _ _ h1, h2⟩, h3⟩

/-- The evaluator's state, and the world. A block that has no place yet is not yet born in the world. -/
structure Sim (S : Rho) (G : Nat) (W : World) (ρ : Rho) (st : St) (w : World) : Prop where
  below : Go.RowKit.Below W.heap.size W w
  fresh : ∀ k, st.next ≤ k → ρ k = none
  low : G ≤ st.next
  glob : ∀ k e, k < G → ρ k = some e → e.b = k ∧ e.sh = 0
  globB : ∀ k a, k < G → st.heap.get k = some a → ∃ e, ρ k = some e
  obj : ∀ k a, st.heap.get k = some a → ∀ e, ρ k = some e → ∃ o, w.heap[e.b]? = some o ∧ ObjR ρ e a o ∧ (a.isRo = false → W.heap.size ≤ e.b)
  inj : ∀ k k' a a' e e', st.heap.get k = some a → st.heap.get k' = some a' → ρ k = some e → ρ k' = some e' → e.b = e'.b → k = k'
  keep : ∀ k e, S k = some e → ρ k = some e

/-- What a step may do: more blocks; a block that is not born yet stays as it is. -/
structure Ext (ρ : Rho) (st : St) (ρ' : Rho) (st' : St) : Prop where
  le : ρ.le ρ'
  next : st.next ≤ st'.next
  unborn : ∀ k, k < st.next → ρ k = none → ρ' k = none ∧ st'.heap.get k = st.heap.get k

theorem Ext.refl (ρ : Rho) (st : St) : Ext ρ st ρ st := ⟨fun _ _ h => h, Nat.le_refl _, fun _ _ h => ⟨h, rfl⟩⟩
theorem Ext.trans {ρ ρ1 ρ2 : Rho} {st st1 st2 : St} (h : Ext ρ st ρ1 st1) (k : Ext ρ1 st1 ρ2 st2) : Ext ρ st ρ2 st2 :=
  ⟨fun _ _ x => k.le _ _ (h.le _ _ x), Nat.le_trans h.next k.next, fun i hi hn => by
    have h1 := h.unborn i hi hn
    have h2 := k.unborn i (Nat.lt_of_lt_of_le hi h.next) h1.1
    exact ⟨h2.1, h2.2.trans h1.2⟩⟩

end Go.Proofs.YtcgecgilkapjaaaGreatDoor
