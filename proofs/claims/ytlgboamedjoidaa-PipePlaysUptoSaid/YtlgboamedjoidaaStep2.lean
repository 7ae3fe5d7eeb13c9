import Derived.Test.YtlgboamedjoidaaStep
namespace Go.Proofs.Ytlgboamedjoidaa
open Go Go.RowKit
section
variable {W w w1 w2 w3 : World} {o o1 o2 o3 : Roles} {p q T : Nat} {ps ps' : List Nat} {n : NI}
def Did' (o : Roles) (w : World) (r : List Nat) (p : Nat) (n : NI) (v : Value) (e : Ending) (w' : World) : Prop := ∃ ps, Did o w r p ps n v e w'

set_option maxRecDepth 100000 in
set_option maxHeartbeats 1000000 in
theorem step0_any (h : Pair W o w p q ps n T) (op : OpM) (hk : op.kind = 0) (A E : Int) (n' : NI) (hn : n' = (doneM n op).1)
    (HA : Calls Try.prog 8 #[ptr p] (w.alloc (opC op)) (Did' (o.put w.heap.size [9]) (w.alloc (opC op)) [0] p n' (.tuple #[.int .i64 A, .int .i64 E])))
    (HB : ∀ o2 w2, Ref o2 w2 [1] q n.win n.conns → Calls Try.prog 25 #[ptr q] w2 (RDid o2 w2 [1] q n.win n'.conns (.tuple #[.int .i64 A, .int .i64 E]))) :
    Calls Try.prog 12 #[ptr p, ptr q, opV op] w (StepP W p q (doneM n op).1 (T + op.data.length)) := by
  have hP := h.alloc (opC op) [9]
  have hBx := Blk.new o w [9] #[.int .i64 op.kind, .int .i64 op.conn, .int .i64 op.n, .string ⟨op.data.toArray⟩] 39 _ rfl
  have HF : ∀ ps' o2 w2 o3 w3, Net o2 w2 [0] p ps' n' → Stp [0] (o.put w.heap.size [9]) (w.alloc (opC op)) o2 w2 → Ref o3 w3 [1] q n.win n'.conns → Stp [1] o2 w2 o3 w3 → StepP W p q (doneM n op).1 (T + op.data.length) (.returned (.bool true)) w3 :=
    fun ps' o2 w2 o3 w3 a b c d => ⟨rfl, o3, ps', hP.next op hn a b c d⟩
  have HG := fun o2 w2 (st : Stp [0] (o.put w.heap.size [9]) (w.alloc (opC op)) o2 w2) => HB o2 w2 (hP.ref2 st)
  have HX : ∀ o2 w2, Stp [0] (o.put w.heap.size [9]) (w.alloc (opC op)) o2 w2 → ∀ j, w2.cell? ⟨w.heap.size, j, none⟩ = #[.int .i64 op.kind, .int .i64 op.conn, .int .i64 op.n, .string ⟨op.data.toArray⟩][j]? := fun o2 w2 st => (hBx.keep st (by simp)).cell

  have HF := Lib.hid HF
  have HG := Lib.hid HG
  have HX := Lib.hid HX
  clear h hP HB hn hBx
  generalize (doneM n op).1 = N2 at *
  generalize T + op.data.length = T2 at *
  obtain ⟨kind, conn, nn, data⟩ := op
  subst hk
  unfold ptr opV opC at *
  try unfold txt at *
  dsimp only at *
  go_enter Try.func12, Try.ntmps12
  go_wp2_with fail
  refine HA.mono ?_; rintro e w2 ⟨ps', rfl, o2, hN, s1⟩
  have hx := HX.out o2 w2 s1
  have HG2 := HG.out o2 w2 s1
  have HF2 := Lib.hid (HF.out ps' o2 w2)
  have Hs1 := Lib.hid s1
  have HN := Lib.hid hN
  clear HA HF HG s1 hN HX
  go_wp2_with fail
  refine HG2.mono ?_; rintro e w3 ⟨rfl, o3, hR, s2⟩
  have HE := Lib.hid (HF2.out o3 w3 HN.out Hs1.out hR s2)
  clear HG2 hR s2 HF2
  go_wp2_with fail
  go_ret
  exact HE.out

set_option maxRecDepth 100000 in
set_option maxHeartbeats 1000000 in
theorem step3_any (h : Pair W o w p q ps n T) (op : OpM) (hk : op.kind = 3) (A : List UInt8) (E : Int) (n' : NI) (hn : n' = (doneM n op).1)
    (HA : Calls Try.prog 24 #[ptr p, .int .i64 op.conn, .int .i64 op.n] (w.alloc (opC op)) (Did' (o.put w.heap.size [9]) (w.alloc (opC op)) [0] p n' (.tuple #[txt A, .int .i64 E])))
    (HB : ∀ o2 w2, Ref o2 w2 [1] q n.win n.conns → Calls Try.prog 29 #[ptr q, .int .i64 op.conn, .int .i64 op.n] w2 (RDid o2 w2 [1] q n.win n'.conns (.tuple #[txt A, .int .i64 E]))) :
    Calls Try.prog 12 #[ptr p, ptr q, opV op] w (StepP W p q (doneM n op).1 (T + op.data.length)) := by
  have hP := h.alloc (opC op) [9]
  have hBx := Blk.new o w [9] #[.int .i64 op.kind, .int .i64 op.conn, .int .i64 op.n, .string ⟨op.data.toArray⟩] 39 _ rfl
  have HF : ∀ ps' o2 w2 o3 w3, Net o2 w2 [0] p ps' n' → Stp [0] (o.put w.heap.size [9]) (w.alloc (opC op)) o2 w2 → Ref o3 w3 [1] q n.win n'.conns → Stp [1] o2 w2 o3 w3 → StepP W p q (doneM n op).1 (T + op.data.length) (.returned (.bool true)) w3 :=
    fun ps' o2 w2 o3 w3 a b c d => ⟨rfl, o3, ps', hP.next op hn a b c d⟩
  have HG := fun o2 w2 (st : Stp [0] (o.put w.heap.size [9]) (w.alloc (opC op)) o2 w2) => HB o2 w2 (hP.ref2 st)
  have HX : ∀ o2 w2, Stp [0] (o.put w.heap.size [9]) (w.alloc (opC op)) o2 w2 → ∀ j, w2.cell? ⟨w.heap.size, j, none⟩ = #[.int .i64 op.kind, .int .i64 op.conn, .int .i64 op.n, .string ⟨op.data.toArray⟩][j]? := fun o2 w2 st => (hBx.keep st (by simp)).cell
  have hqA : ((⟨A.toArray⟩ : ByteArray).toList == (⟨A.toArray⟩ : ByteArray).toList) = true := by simp

  have HF := Lib.hid HF
  have HG := Lib.hid HG
  have HX := Lib.hid HX
  clear h hP HB hn hBx
  generalize (doneM n op).1 = N2 at *
  generalize T + op.data.length = T2 at *
  obtain ⟨kind, conn, nn, data⟩ := op
  subst hk
  unfold ptr opV opC at *
  try unfold txt at *
  dsimp only at *
  go_enter Try.func12, Try.ntmps12
  go_wp2_with fail
  refine HA.mono ?_; rintro e w2 ⟨ps', rfl, o2, hN, s1⟩
  have hx := HX.out o2 w2 s1
  have HG2 := HG.out o2 w2 s1
  have HF2 := Lib.hid (HF.out ps' o2 w2)
  have Hs1 := Lib.hid s1
  have HN := Lib.hid hN
  clear HA HF HG s1 hN HX
  go_wp2_with fail
  refine HG2.mono ?_; rintro e w3 ⟨rfl, o3, hR, s2⟩
  have HE := Lib.hid (HF2.out o3 w3 HN.out Hs1.out hR s2)
  clear HG2 hR s2 HF2
  go_wp2_with fail
  go_ret
  exact HE.out

set_option maxRecDepth 100000 in
set_option maxHeartbeats 1000000 in
theorem step5_any (h : Pair W o w p q ps n T) (op : OpM) (hk : op.kind = 5) (A : Int) (E : Bool) (n' : NI) (hn : n' = (doneM n op).1)
    (HA : Calls Try.prog 19 #[ptr p] (w.alloc (opC op)) (Did' (o.put w.heap.size [9]) (w.alloc (opC op)) [0] p n' (.tuple #[.int .i64 A, .bool E])))
    (HB : ∀ o2 w2, Ref o2 w2 [1] q n.win n.conns → Calls Try.prog 32 #[ptr q] w2 (RDid o2 w2 [1] q n.win n'.conns (.tuple #[.int .i64 A, .bool E]))) :
    Calls Try.prog 12 #[ptr p, ptr q, opV op] w (StepP W p q (doneM n op).1 (T + op.data.length)) := by
  have hP := h.alloc (opC op) [9]
  have hBx := Blk.new o w [9] #[.int .i64 op.kind, .int .i64 op.conn, .int .i64 op.n, .string ⟨op.data.toArray⟩] 39 _ rfl
  have HF : ∀ ps' o2 w2 o3 w3, Net o2 w2 [0] p ps' n' → Stp [0] (o.put w.heap.size [9]) (w.alloc (opC op)) o2 w2 → Ref o3 w3 [1] q n.win n'.conns → Stp [1] o2 w2 o3 w3 → StepP W p q (doneM n op).1 (T + op.data.length) (.returned (.bool true)) w3 :=
    fun ps' o2 w2 o3 w3 a b c d => ⟨rfl, o3, ps', hP.next op hn a b c d⟩
  have HG := fun o2 w2 (st : Stp [0] (o.put w.heap.size [9]) (w.alloc (opC op)) o2 w2) => HB o2 w2 (hP.ref2 st)
  have HX : ∀ o2 w2, Stp [0] (o.put w.heap.size [9]) (w.alloc (opC op)) o2 w2 → ∀ j, w2.cell? ⟨w.heap.size, j, none⟩ = #[.int .i64 op.kind, .int .i64 op.conn, .int .i64 op.n, .string ⟨op.data.toArray⟩][j]? := fun o2 w2 st => (hBx.keep st (by simp)).cell

  have HF := Lib.hid HF
  have HG := Lib.hid HG
  have HX := Lib.hid HX
  clear h hP HB hn hBx
  generalize (doneM n op).1 = N2 at *
  generalize T + op.data.length = T2 at *
  obtain ⟨kind, conn, nn, data⟩ := op
  subst hk
  unfold ptr opV opC at *
  try unfold txt at *
  dsimp only at *
  go_enter Try.func12, Try.ntmps12
  go_wp2_with fail
  refine HA.mono ?_; rintro e w2 ⟨ps', rfl, o2, hN, s1⟩
  have hx := HX.out o2 w2 s1
  have HG2 := HG.out o2 w2 s1
  have HF2 := Lib.hid (HF.out ps' o2 w2)
  have Hs1 := Lib.hid s1
  have HN := Lib.hid hN
  clear HA HF HG s1 hN HX
  go_wp2_with fail
  refine HG2.mono ?_; rintro e w3 ⟨rfl, o3, hR, s2⟩
  have HE := Lib.hid (HF2.out o3 w3 HN.out Hs1.out hR s2)
  clear HG2 hR s2 HF2
  go_wp2_with fail
  go_ret
  exact HE.out

set_option maxRecDepth 100000 in
set_option maxHeartbeats 1000000 in
theorem step6_any (h : Pair W o w p q ps n T) (op : OpM) (hk : op.kind = 6) (A : List UInt8) (B : Bool) (E : Int) (n' : NI) (hn : n' = (doneM n op).1)
    (HA : Calls Try.prog 22 #[ptr p, .int .i64 op.conn, .int .i64 op.n] (w.alloc (opC op)) (Did' (o.put w.heap.size [9]) (w.alloc (opC op)) [0] p n' (.tuple #[txt A, .bool B, .int .i64 E])))
    (HB : ∀ o2 w2, Ref o2 w2 [1] q n.win n.conns → Calls Try.prog 33 #[ptr q, .int .i64 op.conn, .int .i64 op.n] w2 (RDid o2 w2 [1] q n.win n'.conns (.tuple #[txt A, .bool B, .int .i64 E]))) :
    Calls Try.prog 12 #[ptr p, ptr q, opV op] w (StepP W p q (doneM n op).1 (T + op.data.length)) := by
  have hP := h.alloc (opC op) [9]
  have hBx := Blk.new o w [9] #[.int .i64 op.kind, .int .i64 op.conn, .int .i64 op.n, .string ⟨op.data.toArray⟩] 39 _ rfl
  have HF : ∀ ps' o2 w2 o3 w3, Net o2 w2 [0] p ps' n' → Stp [0] (o.put w.heap.size [9]) (w.alloc (opC op)) o2 w2 → Ref o3 w3 [1] q n.win n'.conns → Stp [1] o2 w2 o3 w3 → StepP W p q (doneM n op).1 (T + op.data.length) (.returned (.bool true)) w3 :=
    fun ps' o2 w2 o3 w3 a b c d => ⟨rfl, o3, ps', hP.next op hn a b c d⟩
  have HG := fun o2 w2 (st : Stp [0] (o.put w.heap.size [9]) (w.alloc (opC op)) o2 w2) => HB o2 w2 (hP.ref2 st)
  have HX : ∀ o2 w2, Stp [0] (o.put w.heap.size [9]) (w.alloc (opC op)) o2 w2 → ∀ j, w2.cell? ⟨w.heap.size, j, none⟩ = #[.int .i64 op.kind, .int .i64 op.conn, .int .i64 op.n, .string ⟨op.data.toArray⟩][j]? := fun o2 w2 st => (hBx.keep st (by simp)).cell
  have hqA : ((⟨A.toArray⟩ : ByteArray).toList == (⟨A.toArray⟩ : ByteArray).toList) = true := by simp

  have HF := Lib.hid HF
  have HG := Lib.hid HG
  have HX := Lib.hid HX
  clear h hP HB hn hBx
  generalize (doneM n op).1 = N2 at *
  generalize T + op.data.length = T2 at *
  obtain ⟨kind, conn, nn, data⟩ := op
  subst hk
  unfold ptr opV opC at *
  try unfold txt at *
  dsimp only at *
  go_enter Try.func12, Try.ntmps12
  go_wp2_with fail
  refine HA.mono ?_; rintro e w2 ⟨ps', rfl, o2, hN, s1⟩
  have hx := HX.out o2 w2 s1
  have HG2 := HG.out o2 w2 s1
  have HF2 := Lib.hid (HF.out ps' o2 w2)
  have Hs1 := Lib.hid s1
  have HN := Lib.hid hN
  clear HA HF HG s1 hN HX
  go_wp2_with fail
  refine HG2.mono ?_; rintro e w3 ⟨rfl, o3, hR, s2⟩
  have HE := Lib.hid (HF2.out o3 w3 HN.out Hs1.out hR s2)
  clear HG2 hR s2 HF2
  go_wp2_with fail
  go_ret
  exact HE.out

set_option maxRecDepth 100000 in
set_option maxHeartbeats 1000000 in
theorem step7_any (h : Pair W o w p q ps n T) (op : OpM) (hk : op.kind = 7) (A E : Int) (n' : NI) (hn : n' = (doneM n op).1)
    (HA : Calls Try.prog 23 #[ptr p, .int .i64 op.conn, .string ⟨op.data.toArray⟩] (w.alloc (opC op)) (Did' (o.put w.heap.size [9]) (w.alloc (opC op)) [0] p n' (.tuple #[.int .i64 A, .int .i64 E])))
    (HB : ∀ o2 w2, Ref o2 w2 [1] q n.win n.conns → Calls Try.prog 34 #[ptr q, .int .i64 op.conn, .string ⟨op.data.toArray⟩] w2 (RDid o2 w2 [1] q n.win n'.conns (.tuple #[.int .i64 A, .int .i64 E]))) :
    Calls Try.prog 12 #[ptr p, ptr q, opV op] w (StepP W p q (doneM n op).1 (T + op.data.length)) := by
  have hP := h.alloc (opC op) [9]
  have hBx := Blk.new o w [9] #[.int .i64 op.kind, .int .i64 op.conn, .int .i64 op.n, .string ⟨op.data.toArray⟩] 39 _ rfl
  have HF : ∀ ps' o2 w2 o3 w3, Net o2 w2 [0] p ps' n' → Stp [0] (o.put w.heap.size [9]) (w.alloc (opC op)) o2 w2 → Ref o3 w3 [1] q n.win n'.conns → Stp [1] o2 w2 o3 w3 → StepP W p q (doneM n op).1 (T + op.data.length) (.returned (.bool true)) w3 :=
    fun ps' o2 w2 o3 w3 a b c d => ⟨rfl, o3, ps', hP.next op hn a b c d⟩
  have HG := fun o2 w2 (st : Stp [0] (o.put w.heap.size [9]) (w.alloc (opC op)) o2 w2) => HB o2 w2 (hP.ref2 st)
  have HX : ∀ o2 w2, Stp [0] (o.put w.heap.size [9]) (w.alloc (opC op)) o2 w2 → ∀ j, w2.cell? ⟨w.heap.size, j, none⟩ = #[.int .i64 op.kind, .int .i64 op.conn, .int .i64 op.n, .string ⟨op.data.toArray⟩][j]? := fun o2 w2 st => (hBx.keep st (by simp)).cell

  have HF := Lib.hid HF
  have HG := Lib.hid HG
  have HX := Lib.hid HX
  clear h hP HB hn hBx
  generalize (doneM n op).1 = N2 at *
  generalize T + op.data.length = T2 at *
  obtain ⟨kind, conn, nn, data⟩ := op
  subst hk
  unfold ptr opV opC at *
  try unfold txt at *
  dsimp only at *
  go_enter Try.func12, Try.ntmps12
  go_wp2_with fail
  refine HA.mono ?_; rintro e w2 ⟨ps', rfl, o2, hN, s1⟩
  have hx := HX.out o2 w2 s1
  have HG2 := HG.out o2 w2 s1
  have HF2 := Lib.hid (HF.out ps' o2 w2)
  have Hs1 := Lib.hid s1
  have HN := Lib.hid hN
  clear HA HF HG s1 hN HX
  go_wp2_with fail
  refine HG2.mono ?_; rintro e w3 ⟨rfl, o3, hR, s2⟩
  have HE := Lib.hid (HF2.out o3 w3 HN.out Hs1.out hR s2)
  clear HG2 hR s2 HF2
  go_wp2_with fail
  go_ret
  exact HE.out
end
end Go.Proofs.Ytlgboamedjoidaa
