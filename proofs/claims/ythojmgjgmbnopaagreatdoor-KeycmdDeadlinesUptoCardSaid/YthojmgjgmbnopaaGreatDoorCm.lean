import Derived.Test.YthojmgjgmbnopaaGreatDoorRp
import Derived.Test.YthojmgjgmbnopaaGreatDoorXA
import Derived.Test.YthojmgjgmbnopaaGreatDoorXO
namespace Go.Proofs.YthojmgjgmbnopaaGreatDoor
open Go Go.RowKit
/-! A table of functions by their names: a map literal. -/
def fnV (f : Nat) : Value := .agg #[.func (.func f) #[] #[]]
def opB (tT d f : Nat) (ps : String) : Oper := { dst := some d, op := Op.build tT #[(0, Operand.func f)], type := tT, pos := ps, after := #[], guard := none }
def opI (tM d : Nat) (k : List UInt8) (ps : String) : Oper := { dst := none, op := Op.insert tM (Operand.tmp 1) (Operand.const (.string ⟨k.toArray⟩)) (Operand.tmp d), type := 0, pos := ps, after := #[{ on := 0, ground := Ground.data }, { on := 2 * d - 3, ground := Ground.data }], guard := none }
def genOps (tM tT : Nat) (ps : String) : Nat → List (Nat × List UInt8) → List Oper
  | _, [] => []
  | d, (f, k) :: l => opB tT d f ps :: opI tM d k ps :: genOps tM tT ps (d + 1) l
def putAll : KV → List (Nat × List UInt8) → KV
  | kvs, [] => kvs
  | kvs, (f, k) :: l => putAll (mput kvs k (fnV f)) l
section
variable {P : Program} {o : Roles} {r : List Nat} {b : Nat} {kt e : TypeId}
theorem wpList_insert {w : World} {kvs : KV} {ops : Array Oper} {rest : List Oper} {op : Oper} {a : Act} {Q : Exit → Act → World → Prop} (hg : op.guard = none) (m x v : Operand) (t : TypeId) (hop : op.op = Op.insert t m x v)
    (ht : P.underlying t = some (.map kt e)) (hk : P.underlying kt = some .string) (h : MBlk o w r b kvs) (hm : a.eval m = .map (some b)) {k : List UInt8} (hx : a.eval x = txt k) {val : Value} (hv : a.eval v = val)
    (hK : ∀ w', MBlk o w' r b (mput kvs k val) → Stp r o w o w' → wpList P ops Q rest (a.put op.dst undef) w') : wpList P ops Q (op :: rest) a w := by
  refine wpList_plain hg fun K' hK' => ?_
  obtain ⟨w', hrun, r1, r2⟩ := run_put h ht hk k val
  unfold Oper.wp
  simp [execOp, hop, hm, hx, hv, hrun, Result.andThen]
  exact hK' _ _ (hK w' r1 r2)
theorem wpList_gen {ops : Array Oper} {rest : List Oper} {Q : Exit → Act → World → Prop} {tM tT : Nat} {ps : String} (ht : P.underlying tM = some (.map kt e)) (hk : P.underlying kt = some .string)
    (hB : ∀ f (w : World), (Instr.build tT #[(0, .func (.func f) #[] #[])]).run P w = .ok (fnV f) w) :
    ∀ (l : List (Nat × List UInt8)) (d : Nat) (a : Act) (w : World) (kvs : KV), MBlk o w r b kvs → a.tmps[1]? = some (.map (some b)) → 1 < d → d + l.length ≤ a.tmps.size →
      (∀ a' w', MBlk o w' r b (putAll kvs l) → Stp r o w o w' → a'.tmps[1]? = some (.map (some b)) → a'.tmps.size = a.tmps.size → a'.defers = a.defers → wpList P ops Q rest a' w') →
      wpList P ops Q (genOps tM tT ps d l ++ rest) a w
  | [], d, a, w, kvs, hm, h1, hd, hs, hK => hK a w hm (Stp.refl _ _ _) h1 rfl rfl
  | (f, k) :: l, d, a, w, kvs, hm, h1, hd, hs, hK => by
    simp only [List.length_cons] at hs
    show wpList P ops Q (opB tT d f ps :: (opI tM d k ps :: (genOps tM tT ps (d + 1) l ++ rest))) a w
    refine wpList_plain rfl fun K' hK' => ?_
    unfold Oper.wp
    have hrun := hB f w
    have he : a.eval (.func f) = .func (.func f) #[] #[] := rfl
    simp [execOp, opB, he, hrun, Result.andThen]
    refine hK' _ _ ?_
    have hg1 : ∀ {A : Array Value} {i : Nat} (v : Value), A[i]? = some v → A.getD i undef = v := fun v h => by rw [Array.getD_eq_getD_getElem?, h]; rfl
    refine wpList_insert rfl (.tmp 1) (.const (.string ⟨k.toArray⟩)) (.tmp d) tM rfl ht hk hm (k := k) (val := fnV f) ?_ rfl ?_ ?_
    · show (a.put (some d) (fnV f)).tmps.getD 1 undef = _
      exact hg1 _ (by simp [Act.put, show d ≠ 1 by omega, h1])
    · show (a.put (some d) (fnV f)).tmps.getD d undef = _
      exact hg1 _ (by simp [Act.put, Array.getElem?_setIfInBounds]; omega)
    · intro w' hm' st'
      refine wpList_gen ht hk hB l (d + 1) _ w' _ hm' ?_ (by omega) ?_ ?_
      · simp [opI, Act.put, show d ≠ 1 by omega, h1]
      · simp [opI, Act.put]; omega
      · intro a' w'' hm'' st'' g1 g2 g3
        refine hK a' w'' hm'' (st'.trans st'') g1 ?_ ?_
        · rw [g2]; simp [opI, Act.put]
        · rw [g3]; rfl
end
/-- The table of this layer. -/
def cmdL : List (Nat × List UInt8) := [
  (98, [97, 112, 112, 101, 110, 100]),
  (99, [98, 105, 116, 99, 111, 117, 110, 116]),
  (100, [98, 105, 116, 111, 112]),
  (101, [98, 105, 116, 112, 111, 115]),
  (102, [100, 101, 99, 114]),
  (102, [100, 101, 99, 114, 98, 121]),
  (103, [103, 101, 116]),
  (104, [103, 101, 116, 98, 105, 116]),
  (105, [103, 101, 116, 100, 101, 108]),
  (106, [103, 101, 116, 101, 120]),
  (107, [103, 101, 116, 114, 97, 110, 103, 101]),
  (108, [103, 101, 116, 115, 101, 116]),
  (102, [105, 110, 99, 114]),
  (102, [105, 110, 99, 114, 98, 121]),
  (109, [109, 103, 101, 116]),
  (110, [109, 115, 101, 116]),
  (110, [109, 115, 101, 116, 110, 120]),
  (111, [112, 115, 101, 116, 101, 120]),
  (112, [115, 101, 116]),
  (113, [115, 101, 116, 98, 105, 116]),
  (111, [115, 101, 116, 101, 120]),
  (114, [115, 101, 116, 110, 120]),
  (115, [115, 101, 116, 114, 97, 110, 103, 101]),
  (116, [115, 116, 114, 108, 101, 110])]
def CmdDid (w : World) (e : Ending) (w' : World) : Prop := ∃ b, e = .returned (.map (some b)) ∧ MBlk (none0.put b [0]) w' [0] b (putAll [] cmdL) ∧ Below w.heap.size w w'
set_option maxRecDepth 20000 in
set_option maxHeartbeats 4000000 in
theorem commands_ok (w : World) : Calls Tryz.prog 63 #[] w (CmdDid w) := by
  go_enter Tryz.func63, Tryz.ntmps63
  refine wp_seq (wp_region_lit (wpList_run (a' := ⟨#[.map none, undef, undef, undef, undef, undef, undef, undef, undef, undef, undef, undef, undef, undef, undef, undef, undef, undef, undef, undef, undef, undef, undef, undef, undef, undef, undef], []⟩) (w' := w) (by kernel_rfl) ?_))
  refine wp_seq (wp_region_list ?_)
  show wpList _ _ _ ({ dst := some 1, op := Op.makeMap 104 none, type := 104, pos := "strcmd.go:30", after := #[], guard := none } :: (genOps 104 102 "strcmd.go:30" 2 cmdL ++ _)) _ _
  refine wpList_plain rfl fun K' hK' => ?_
  unfold Oper.wp
  have hrun : (Instr.makeMap 104 none).run Tryz.prog w = .ok (.map (some w.heap.size)) (w.alloc (.map #[] 0)) := by kernel_rfl
  simp only [execOp, Option.map_none]
  simp [hrun, Result.andThen]
  refine hK' _ _ ?_
  have hm0 := MBlk.new none0 w [0] w.heap.size rfl
  refine wpList_gen (P := Tryz.prog) (kt := 9) (e := 102) (by kernel_rfl) (by kernel_rfl) (fun f w => by kernel_rfl) cmdL 2 _ _ [] hm0 rfl (by decide) (by show (26 : Nat) ≤ 27; decide) ?_
  intro a' w' hm st g1 g2 g3
  have g2' : a'.tmps.size = 27 := g2
  have e1 : a'.eval (.tmp 1) = .map (some w.heap.size) := by
    show a'.tmps.getD 1 undef = _
    rw [Array.getD_eq_getD_getElem?, g1]; rfl
  refine wpList_plain rfl fun K1 hK1 => ?_
  unfold Oper.wp
  simp only [execOp]
  simp [e1]
  refine hK1 _ _ ?_
  have e2 : (a'.put (some 26) (.map (some w.heap.size))).eval (.tmp 26) = .map (some w.heap.size) := by
    show (a'.put (some 26) (.map (some w.heap.size))).tmps.getD 26 undef = _
    rw [Array.getD_eq_getD_getElem?]
    simp [Act.put, g2']
  refine wpList_plain rfl fun K2 hK2 => ?_
  unfold Oper.wp
  simp only [execOp]
  simp [e2]
  refine hK2 _ _ ?_
  refine wpList_nil ?_
  refine wp_ret ?_
  refine bodyPost_ret (v := .map (some w.heap.size)) ?_ ?_ ⟨_, rfl, hm, ?_⟩
  · refine (results_tmp rfl _ _ _).trans ?_
    show Result.ok (((a'.put (some 26) (.map (some w.heap.size))).put (some 0) (.map (some w.heap.size))).tmps.getD 0 undef) w' = _
    rw [Array.getD_eq_getD_getElem?]
    simp [Act.put, g2']
  · exact g3
  · refine ⟨st.os, st.tape, st.output, Nat.le_trans (by simp) st.size, fun b hb => ?_⟩
    rw [st.block b (by simp; omega) (by rw [Roles.put_other (by omega)]; simp [none0])]
    exact Below.heap_alloc _ _ _ hb
end Go.Proofs.YthojmgjgmbnopaaGreatDoor
