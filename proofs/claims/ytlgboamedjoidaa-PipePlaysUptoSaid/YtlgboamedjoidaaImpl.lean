import Derived.Test.YtlgboamedjoidaaOwn
import Derived.Test.YtlgboamedjoidaaProg
import Derived.WalkLawsBesides
import Derived.WalkSpells
import Derived.BigQuiet
import Derived.Deep.QuietTactic
import Derived.Lib.Hide
namespace Go.Proofs.Ytlgboamedjoidaa
open Go Go.RowKit

def bv (b : UInt8) : Value := .int .u8 b.toNat
def ptr (b : Nat) : Value := .pointer (some ⟨b, 0, none⟩)

structure CI where
  up : List UInt8
  rd : Nat
  dn : List UInt8
  tk : Nat
  acc : Bool
  en : Bool
  cl : Bool
  cu : Bool

structure NI where
  conns : List CI
  next : Nat
  win : Nat

structure ConnV (o : Roles) (w : World) (r : List Nat) (b : Nat) (win : Nat) (c : CI) (uv dv : Value) : Prop where
  blk : Blk o w (r ++ [0]) b #[uv, .int .i64 c.rd, dv, .int .i64 c.tk, .int .i64 win, .bool c.acc, .bool c.en, .bool c.cl, .bool c.cu] 65
  up : Row o w (r ++ [1]) 5 1 uv c.up.length (c.up.map bv)
  dn : Row o w (r ++ [2]) 5 1 dv c.dn.length (c.dn.map bv)
  rdle : c.rd ≤ c.up.length
  tkle : c.tk ≤ c.dn.length
  upS : c.up.length ≤ 1099511627776
  dnS : c.dn.length ≤ 1099511627776
def Conn (o : Roles) (w : World) (r : List Nat) (b : Nat) (win : Nat) (c : CI) : Prop := ∃ uv dv, ConnV o w r b win c uv dv

structure NetV (o : Roles) (w : World) (r : List Nat) (p : Nat) (ps : List Nat) (n : NI) (cv : Value) : Prop where
  blk : Blk o w (r ++ [0]) p #[.int .i64 n.win, cv, .int .i64 n.next] 55
  row : Row o w (r ++ [1]) 56 1 cv ps.length (ps.map ptr)
  len : ps.length = n.conns.length
  conn : ∀ i b c, ps[i]? = some b → n.conns[i]? = some c → Conn o w (r ++ [2, i]) b n.win c
  nextle : n.next ≤ ps.length
  few : ps.length ≤ 1024
  winle : n.win ≤ 1048576
def Net (o : Roles) (w : World) (r : List Nat) (p : Nat) (ps : List Nat) (n : NI) : Prop := ∃ cv, NetV o w r p ps n cv

set_option maxHeartbeats 400000 in
theorem of_in {o : Roles} {w : World} {r : List Nat} {p : Nat} {ps : List Nat} {n : NI} (h : Net o w r p ps n) (i : Nat) (b : Nat) (hb : ps[i]? = some b) :
    Calls Try.prog 41 #[ptr p, .int .i64 i] w fun e w' => e = .returned (ptr b) ∧ w' = w := by
  obtain ⟨cv, h⟩ := h
  have hi : i < ps.length := (List.getElem?_eq_some_iff.1 hb).1
  have hc := h.blk.cell
  obtain ⟨g, cap, hv, _, hx, _⟩ := h.row.at (k := i) (by omega)
  subst hv
  have hx' : w.cell? ⟨g, i, none⟩ = some (ptr b) := by rw [hx]; simp [hb]
  have hf := h.few
  clear hx hb h
  unfold ptr at *
  go_enter Try.func41, Try.ntmps41
  go_wp2
  go_ret
  exact ⟨rfl, rfl⟩

set_option maxHeartbeats 400000 in
theorem of_out {o : Roles} {w : World} {r : List Nat} {p : Nat} {ps : List Nat} {n : NI} (h : Net o w r p ps n) (c : Int) (hb : c < 0 ∨ (ps.length : Int) ≤ c) :
    Calls Try.prog 41 #[ptr p, .int .i64 c] w fun e w' => e = .returned (.pointer none) ∧ w' = w := by
  obtain ⟨cv, h⟩ := h
  have hc := h.blk.cell
  obtain ⟨a, cap, hv, _⟩ := h.row.slice
  subst hv
  have hf := h.few
  clear h
  unfold ptr at *
  rcases hb with hb | hb
  · have h1 : decide (c < 0) = true := by simpa using hb
    go_enter Try.func41, Try.ntmps41
    go_wp2
    all_goals go_ret
    all_goals exact ⟨rfl, rfl⟩
  · have h1 : decide (c < 0) = false := by simp; omega
    have h2 : decide ((ps.length : Int) ≤ c) = true := by simp; omega
    go_enter Try.func41, Try.ntmps41
    go_wp2
    all_goals go_ret
    all_goals exact ⟨rfl, rfl⟩

theorem Net.get {o : Roles} {w : World} {r : List Nat} {p : Nat} {ps : List Nat} {n : NI} (h : Net o w r p ps n) {i b : Nat} {c : CI} (hb : ps[i]? = some b) (hc : n.conns[i]? = some c) : Conn o w (r ++ [2, i]) b n.win c :=
  let ⟨_, h⟩ := h; h.conn i b c hb hc

/-- The three functions that give a connection, and why not. -/
def sendE (c : CI) : Int := if c.en || c.cl || c.cu then 61 else 0
def wholeE (c : CI) : Int := if c.cu then 61 else 0
def servedE (c : CI) : Int := if c.acc then (if c.cl || c.cu then 61 else 0) else 60

def pairE (b : Nat) (e : Int) : Value := .tuple #[if e = 0 then ptr b else .pointer none, .int .i64 e]

set_option maxHeartbeats 400000 in
theorem sending_out {o : Roles} {w : World} {r : List Nat} {p : Nat} {ps : List Nat} {n : NI} (h : Net o w r p ps n) (c : Int) (hb : c < 0 ∨ (ps.length : Int) ≤ c) :
    Calls Try.prog 46 #[ptr p, .int .i64 c] w fun e w' => e = .returned (.tuple #[.pointer none, .int .i64 60]) ∧ w' = w := by
  have H := of_out h c hb
  clear hb h
  unfold ptr at *
  go_enter Try.func46, Try.ntmps46
  go_wp2_with (go_at_call 41; refine H.mono ?_; rintro e w' ⟨rfl, rfl⟩)
  all_goals go_ret2
  all_goals exact ⟨rfl, rfl⟩

set_option maxHeartbeats 400000 in
theorem sending_in {o : Roles} {w : World} {r : List Nat} {p : Nat} {ps : List Nat} {n : NI} (h : Net o w r p ps n) {i b : Nat} {c : CI} (hb : ps[i]? = some b) (hi : n.conns[i]? = some c) :
    Calls Try.prog 46 #[ptr p, .int .i64 i] w fun e w' => e = .returned (pairE b (sendE c)) ∧ w' = w := by
  have H := of_in h i b hb
  obtain ⟨uv, dv, hC⟩ := h.get hb hi
  have hc := hC.blk.cell
  clear hC hb h hi
  obtain ⟨up, rd, dn, tk, acc, en, cl, cu⟩ := c
  unfold ptr at *
  cases en <;> cases cl <;> cases cu
  all_goals
    go_enter Try.func46, Try.ntmps46
    go_wp2_with (go_at_call 41; refine H.mono ?_; rintro e w' ⟨rfl, rfl⟩)
    go_ret2
    exact ⟨rfl, rfl⟩

set_option maxHeartbeats 400000 in
theorem whole_out {o : Roles} {w : World} {r : List Nat} {p : Nat} {ps : List Nat} {n : NI} (h : Net o w r p ps n) (c : Int) (hb : c < 0 ∨ (ps.length : Int) ≤ c) :
    Calls Try.prog 49 #[ptr p, .int .i64 c] w fun e w' => e = .returned (.tuple #[.pointer none, .int .i64 60]) ∧ w' = w := by
  have H := of_out h c hb
  clear hb h
  unfold ptr at *
  go_enter Try.func49, Try.ntmps49
  go_wp2_with (go_at_call 41; refine H.mono ?_; rintro e w' ⟨rfl, rfl⟩)
  all_goals go_ret2
  all_goals exact ⟨rfl, rfl⟩

set_option maxHeartbeats 400000 in
theorem whole_in {o : Roles} {w : World} {r : List Nat} {p : Nat} {ps : List Nat} {n : NI} (h : Net o w r p ps n) {i b : Nat} {c : CI} (hb : ps[i]? = some b) (hi : n.conns[i]? = some c) :
    Calls Try.prog 49 #[ptr p, .int .i64 i] w fun e w' => e = .returned (pairE b (wholeE c)) ∧ w' = w := by
  have H := of_in h i b hb
  obtain ⟨uv, dv, hC⟩ := h.get hb hi
  have hc := hC.blk.cell
  clear hC hb h hi
  obtain ⟨up, rd, dn, tk, acc, en, cl, cu⟩ := c
  unfold ptr at *
  cases cu
  all_goals
    go_enter Try.func49, Try.ntmps49
    go_wp2_with (go_at_call 41; refine H.mono ?_; rintro e w' ⟨rfl, rfl⟩)
    go_ret2
    exact ⟨rfl, rfl⟩

set_option maxHeartbeats 400000 in
theorem served_out {o : Roles} {w : World} {r : List Nat} {p : Nat} {ps : List Nat} {n : NI} (h : Net o w r p ps n) (c : Int) (hb : c < 0 ∨ (ps.length : Int) ≤ c) :
    Calls Try.prog 44 #[ptr p, .int .i64 c] w fun e w' => e = .returned (.tuple #[.pointer none, .int .i64 60]) ∧ w' = w := by
  have H := of_out h c hb
  clear hb h
  unfold ptr at *
  go_enter Try.func44, Try.ntmps44
  go_wp2_with (go_at_call 41; refine H.mono ?_; rintro e w' ⟨rfl, rfl⟩)
  all_goals go_ret2
  all_goals exact ⟨rfl, rfl⟩

set_option maxHeartbeats 400000 in
theorem served_in {o : Roles} {w : World} {r : List Nat} {p : Nat} {ps : List Nat} {n : NI} (h : Net o w r p ps n) {i b : Nat} {c : CI} (hb : ps[i]? = some b) (hi : n.conns[i]? = some c) :
    Calls Try.prog 44 #[ptr p, .int .i64 i] w fun e w' => e = .returned (pairE b (servedE c)) ∧ w' = w := by
  have H := of_in h i b hb
  obtain ⟨uv, dv, hC⟩ := h.get hb hi
  have hc := hC.blk.cell
  clear hC hb h hi
  obtain ⟨up, rd, dn, tk, acc, en, cl, cu⟩ := c
  unfold ptr at *
  cases acc <;> cases cl <;> cases cu
  all_goals
    go_enter Try.func44, Try.ntmps44
    go_wp2_with (go_at_call 41; refine H.mono ?_; rintro e w' ⟨rfl, rfl⟩)
    go_ret2
    exact ⟨rfl, rfl⟩

end Go.Proofs.Ytlgboamedjoidaa
