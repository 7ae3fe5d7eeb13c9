import Derived.Test.YtlgboamedjoidaaSure
namespace Go.Proofs.Ytlgboamedjoidaa
open Go Go.RowKit

structure OpM where
  kind : Int
  conn : Int
  n : Int
  data : List UInt8
def opV (o : OpM) : Value := .agg #[.int .i64 o.kind, .int .i64 o.conn, .int .i64 o.n, .string ⟨o.data.toArray⟩]
def opC (o : OpM) : Obj := .cells #[.int .i64 o.kind, .int .i64 o.conn, .int .i64 o.n, .string ⟨o.data.toArray⟩] 39

/-- What one call does to the connection that it names; what is read, what is written. -/
def doneC (win : Nat) (x : CI) (o : OpM) : CI × List UInt8 × List UInt8 :=
  if o.kind = 1 then (if sendE x = 0 then x.put_ o.data else x, [], [])
  else if o.kind = 2 then (if sendE x = 0 then x.end_ else x, [], [])
  else if o.kind = 3 then (if wholeE x = 0 then x.tk_ (howMany o.n (x.dn.length - x.tk)) else x, [], [])
  else if o.kind = 4 then (if wholeE x = 0 then x.cut_ else x, [], [])
  else if o.kind = 6 then (if servedE x = 0 then x.rd_ (howMany o.n (x.up.length - x.rd)) else x, if servedE x = 0 then (x.up.drop x.rd).take (howMany o.n (x.up.length - x.rd)) else [], [])
  else if o.kind = 7 then (if servedE x = 0 then x.wr_ (o.data.take (min o.data.length (win - (x.dn.length - x.tk)))) else x, [], if servedE x = 0 then o.data.take (min o.data.length (win - (x.dn.length - x.tk))) else [])
  else if o.kind = 8 then (if servedE x = 0 then x.close_ else x, [], [])
  else (x, [], [])
def NI.at (n : NI) (c : Int) : Option CI := if c < 0 then none else n.conns[c.toNat]?
def doneM (n : NI) (o : OpM) : NI × List UInt8 × List UInt8 :=
  if o.kind = 0 then (if n.conns.length < 1024 then ⟨n.conns ++ [freshC], n.next, n.win⟩ else n, [], [])
  else if o.kind = 5 then ((match n.conns[n.next]? with | none => n | some x => { n.put n.next x.accept_ with next := n.next + 1 }), [], [])
  else match n.at o.conn with
    | none => (n, [], [])
    | some x => (n.put o.conn.toNat (doneC n.win x o).1, (doneC n.win x o).2)

section
variable {o o' : Roles} {w w' : World} {r s : List Nat} {p : Nat} {ps : List Nat} {n : NI}
theorem Net.alloc (h : Net o w s p ps n) (x : Obj) (q : List Nat) : Net (o.put w.heap.size q) (w.alloc x) s p ps n :=
  let ⟨cv, h⟩ := h
  ⟨cv, h.blk.alloc x _ q rfl, h.row.alloc x _ q rfl, h.len, fun i b c hb hc => let ⟨u, d, h⟩ := h.conn i b c hb hc; ⟨u, d, h.blk.alloc x _ q rfl, h.up.alloc x _ q rfl, h.dn.alloc x _ q rfl, h.rdle, h.tkle, h.upS, h.dnS⟩, h.nextle, h.few, h.winle⟩

/-- What done's contract says. -/
def DoneP (o : Roles) (w : World) (r : List Nat) (p : Nat) (m : NI × List UInt8 × List UInt8) (e : Ending) (w' : World) : Prop :=
  e = .returned (.tuple #[txt m.2.1, txt m.2.2]) ∧ ∃ ps' o', Net o' w' r p ps' m.1 ∧ Stp r o w o' w'
theorem DoneP.of (h : Net o' w' r p ps n) (s : Stp r o w o' w') (a b : List UInt8) : DoneP o w r p (n, a, b) (.returned (.tuple #[txt a, txt b])) w' := ⟨rfl, ps, o', h, s⟩
theorem DoneP.of' {x : Obj} (h : Net o' w' r p ps n) (s : Stp r (o.put w.heap.size []) (w.alloc x) o' w') (a b : List UInt8) : DoneP o w r p (n, a, b) (.returned (.tuple #[txt a, txt b])) w' :=
  DoneP.of h (((Stp.refl r o w).alloc _ _ rfl).trans s) a b

set_option maxRecDepth 100000 in
set_option maxHeartbeats 1000000 in
theorem done1_out (h : Net o w r p ps n) (op : OpM) (hk : op.kind = 1) (hc : outR ps op.conn) :
    Calls Try.prog 14 #[ptr p, opV op] w (DoneP o w r p (n, [], [])) := by
  have H := Send_out (h.alloc (opC op) []) op.conn hc ⟨op.data.toArray⟩
  clear h hc
  obtain ⟨kind, conn, nn, data⟩ := op
  subst hk
  unfold ptr opV opC at *
  go_enter Try.func14, Try.ntmps14
  go_wp2_with fail
  refine H.mono ?_; rintro e w2 ⟨rfl, o2, hN, st⟩
  have D := Lib.hid (DoneP.of' hN st [] [])
  clear hN st H
  go_wp2_with fail
  go_ret2
  exact D.out

set_option maxRecDepth 100000 in
set_option maxHeartbeats 1000000 in
theorem done1_in (h : Net o w r p ps n) (op : OpM) (hk : op.kind = 1) {i b : Nat} {x : CI} (hc : op.conn = i) (hb : ps[i]? = some b) (hi : n.conns[i]? = some x) (hs : x.up.length + op.data.length ≤ 1099511627776) :
    Calls Try.prog 14 #[ptr p, opV op] w (DoneP o w r p (n.put i (doneC n.win x op).1, [], [])) := by
  have H := Send_in (h.alloc (opC op) []) hb hi op.data hs
  clear h hb hi
  have hX : (doneC n.win x op).1 = (if sendE x = 0 then x.put_ op.data else x) := by simp [doneC, hk]
  rw [hX]
  clear hX
  generalize (if sendE x = 0 then x.put_ op.data else x) = X at *
  generalize sendE x = V at *
  obtain ⟨kind, conn, nn, data⟩ := op
  subst hk; subst hc
  unfold ptr opV opC at *
  go_enter Try.func14, Try.ntmps14
  go_wp2_with fail
  refine H.mono ?_; rintro e w2 ⟨rfl, o2, hN, st⟩
  have D := Lib.hid (DoneP.of' hN st [] [])
  clear hN st H
  go_wp2_with fail
  go_ret2
  exact D.out

set_option maxRecDepth 100000 in
set_option maxHeartbeats 1000000 in
theorem done2_out (h : Net o w r p ps n) (op : OpM) (hk : op.kind = 2) (hc : outR ps op.conn) :
    Calls Try.prog 14 #[ptr p, opV op] w (DoneP o w r p (n, [], [])) := by
  have H := End_out (h.alloc (opC op) []) op.conn hc
  clear h hc
  obtain ⟨kind, conn, nn, data⟩ := op
  subst hk
  unfold ptr opV opC at *
  go_enter Try.func14, Try.ntmps14
  go_wp2_with fail
  refine H.mono ?_; rintro e w2 ⟨rfl, o2, hN, st⟩
  have D := Lib.hid (DoneP.of' hN st [] [])
  clear hN st H
  go_wp2_with fail
  go_ret2
  exact D.out

set_option maxRecDepth 100000 in
set_option maxHeartbeats 1000000 in
theorem done2_in (h : Net o w r p ps n) (op : OpM) (hk : op.kind = 2) {i b : Nat} {x : CI} (hc : op.conn = i) (hb : ps[i]? = some b) (hi : n.conns[i]? = some x)  :
    Calls Try.prog 14 #[ptr p, opV op] w (DoneP o w r p (n.put i (doneC n.win x op).1, [], [])) := by
  have H := End_in (h.alloc (opC op) []) hb hi
  clear h hb hi
  have hX : (doneC n.win x op).1 = (if sendE x = 0 then x.end_ else x) := by simp [doneC, hk]
  rw [hX]
  clear hX
  generalize (if sendE x = 0 then x.end_ else x) = X at *
  generalize sendE x = V at *
  obtain ⟨kind, conn, nn, data⟩ := op
  subst hk; subst hc
  unfold ptr opV opC at *
  go_enter Try.func14, Try.ntmps14
  go_wp2_with fail
  refine H.mono ?_; rintro e w2 ⟨rfl, o2, hN, st⟩
  have D := Lib.hid (DoneP.of' hN st [] [])
  clear hN st H
  go_wp2_with fail
  go_ret2
  exact D.out

set_option maxRecDepth 100000 in
set_option maxHeartbeats 1000000 in
theorem done3_out (h : Net o w r p ps n) (op : OpM) (hk : op.kind = 3) (hc : outR ps op.conn) :
    Calls Try.prog 14 #[ptr p, opV op] w (DoneP o w r p (n, [], [])) := by
  have H := Take_out (h.alloc (opC op) []) op.conn hc op.n
  clear h hc
  obtain ⟨kind, conn, nn, data⟩ := op
  subst hk
  unfold ptr opV opC at *
  go_enter Try.func14, Try.ntmps14
  go_wp2_with fail
  refine H.mono ?_; rintro e w2 ⟨rfl, o2, hN, st⟩
  have D := Lib.hid (DoneP.of' hN st [] [])
  clear hN st H
  go_wp2_with fail
  go_ret2
  exact D.out

set_option maxRecDepth 100000 in
set_option maxHeartbeats 1000000 in
theorem done3_in (h : Net o w r p ps n) (op : OpM) (hk : op.kind = 3) {i b : Nat} {x : CI} (hc : op.conn = i) (hb : ps[i]? = some b) (hi : n.conns[i]? = some x) (mw : -9223372036854775808 ≤ op.n ∧ op.n ≤ 9223372036854775807) :
    Calls Try.prog 14 #[ptr p, opV op] w (DoneP o w r p (n.put i (doneC n.win x op).1, [], [])) := by
  have H := Take_in (h.alloc (opC op) []) hb hi op.n mw
  clear h hb hi
  have hX : (doneC n.win x op).1 = (if wholeE x = 0 then x.tk_ (howMany op.n (x.dn.length - x.tk)) else x) := by simp [doneC, hk]
  rw [hX]
  clear hX
  generalize (if wholeE x = 0 then x.tk_ (howMany op.n (x.dn.length - x.tk)) else x) = X at *
  generalize (if wholeE x = 0 then Value.tuple #[txt ((x.dn.drop x.tk).take (howMany op.n (x.dn.length - x.tk))), .int .i64 0] else .tuple #[txt [], .int .i64 (wholeE x)]) = V at *
  obtain ⟨kind, conn, nn, data⟩ := op
  subst hk; subst hc
  unfold ptr opV opC at *
  go_enter Try.func14, Try.ntmps14
  go_wp2_with fail
  refine H.mono ?_; rintro e w2 ⟨rfl, o2, hN, st⟩
  have D := Lib.hid (DoneP.of' hN st [] [])
  clear hN st H
  go_wp2_with fail
  go_ret2
  exact D.out

set_option maxRecDepth 100000 in
set_option maxHeartbeats 1000000 in
theorem done4_out (h : Net o w r p ps n) (op : OpM) (hk : op.kind = 4) (hc : outR ps op.conn) :
    Calls Try.prog 14 #[ptr p, opV op] w (DoneP o w r p (n, [], [])) := by
  have H := Cut_out (h.alloc (opC op) []) op.conn hc
  clear h hc
  obtain ⟨kind, conn, nn, data⟩ := op
  subst hk
  unfold ptr opV opC at *
  go_enter Try.func14, Try.ntmps14
  go_wp2_with fail
  refine H.mono ?_; rintro e w2 ⟨rfl, o2, hN, st⟩
  have D := Lib.hid (DoneP.of' hN st [] [])
  clear hN st H
  go_wp2_with fail
  go_ret2
  exact D.out

set_option maxRecDepth 100000 in
set_option maxHeartbeats 1000000 in
theorem done4_in (h : Net o w r p ps n) (op : OpM) (hk : op.kind = 4) {i b : Nat} {x : CI} (hc : op.conn = i) (hb : ps[i]? = some b) (hi : n.conns[i]? = some x)  :
    Calls Try.prog 14 #[ptr p, opV op] w (DoneP o w r p (n.put i (doneC n.win x op).1, [], [])) := by
  have H := Cut_in (h.alloc (opC op) []) hb hi
  clear h hb hi
  have hX : (doneC n.win x op).1 = (if wholeE x = 0 then x.cut_ else x) := by simp [doneC, hk]
  rw [hX]
  clear hX
  generalize (if wholeE x = 0 then x.cut_ else x) = X at *
  generalize (if wholeE x = 0 then Value.int .i64 0 else .int .i64 (wholeE x)) = V at *
  obtain ⟨kind, conn, nn, data⟩ := op
  subst hk; subst hc
  unfold ptr opV opC at *
  go_enter Try.func14, Try.ntmps14
  go_wp2_with fail
  refine H.mono ?_; rintro e w2 ⟨rfl, o2, hN, st⟩
  have D := Lib.hid (DoneP.of' hN st [] [])
  clear hN st H
  go_wp2_with fail
  go_ret2
  exact D.out

set_option maxRecDepth 100000 in
set_option maxHeartbeats 1000000 in
theorem done8_out (h : Net o w r p ps n) (op : OpM) (hk : op.kind = 8) (hc : outR ps op.conn) :
    Calls Try.prog 14 #[ptr p, opV op] w (DoneP o w r p (n, [], [])) := by
  have H := Close_out (h.alloc (opC op) []) op.conn hc
  clear h hc
  obtain ⟨kind, conn, nn, data⟩ := op
  subst hk
  unfold ptr opV opC at *
  go_enter Try.func14, Try.ntmps14
  go_wp2_with fail
  refine H.mono ?_; rintro e w2 ⟨rfl, o2, hN, st⟩
  have D := Lib.hid (DoneP.of' hN st [] [])
  clear hN st H
  go_wp2_with fail
  go_ret2
  exact D.out

set_option maxRecDepth 100000 in
set_option maxHeartbeats 1000000 in
theorem done8_in (h : Net o w r p ps n) (op : OpM) (hk : op.kind = 8) {i b : Nat} {x : CI} (hc : op.conn = i) (hb : ps[i]? = some b) (hi : n.conns[i]? = some x)  :
    Calls Try.prog 14 #[ptr p, opV op] w (DoneP o w r p (n.put i (doneC n.win x op).1, [], [])) := by
  have H := Close_in (h.alloc (opC op) []) hb hi
  clear h hb hi
  have hX : (doneC n.win x op).1 = (if servedE x = 0 then x.close_ else x) := by simp [doneC, hk]
  rw [hX]
  clear hX
  generalize (if servedE x = 0 then x.close_ else x) = X at *
  generalize (if servedE x = 0 then Value.int .i64 0 else .int .i64 (servedE x)) = V at *
  obtain ⟨kind, conn, nn, data⟩ := op
  subst hk; subst hc
  unfold ptr opV opC at *
  go_enter Try.func14, Try.ntmps14
  go_wp2_with fail
  refine H.mono ?_; rintro e w2 ⟨rfl, o2, hN, st⟩
  have D := Lib.hid (DoneP.of' hN st [] [])
  clear hN st H
  go_wp2_with fail
  go_ret2
  exact D.out
end
end Go.Proofs.Ytlgboamedjoidaa
