import Derived.Test.YtgmmeeikjofefaaGreatDoorDr
namespace Go.Proofs.YtgmmeeikjofefaaGreatDoor
open Go Go.RowKit
/-! The commands' table. -/
structure SpecM where
  name : List UInt8
  arity : Int
  write : Bool
  control : Bool
  first : Int
  last : Int
  step : Int
  deriving DecidableEq
def controlL : List SpecM := [
  ⟨[100, 105, 115, 99, 97, 114, 100], 1, false, true, 0, 0, 0⟩,
  ⟨[101, 120, 101, 99], 1, false, true, 0, 0, 0⟩,
  ⟨[109, 117, 108, 116, 105], 1, false, true, 0, 0, 0⟩,
  ⟨[113, 117, 105, 116], 1, false, true, 0, 0, 0⟩,
  ⟨[114, 101, 115, 101, 116], 1, false, true, 0, 0, 0⟩,
  ⟨[117, 110, 119, 97, 116, 99, 104], 1, false, true, 0, 0, 0⟩,
  ⟨[119, 97, 116, 99, 104], -2, false, true, 1, -1, 1⟩]
def textsL : List SpecM := [
  ⟨[97, 112, 112, 101, 110, 100], 3, true, false, 1, 1, 1⟩,
  ⟨[98, 105, 116, 99, 111, 117, 110, 116], -2, false, false, 1, 1, 1⟩,
  ⟨[98, 105, 116, 111, 112], -4, true, false, 2, -1, 1⟩,
  ⟨[98, 105, 116, 112, 111, 115], -3, false, false, 1, 1, 1⟩,
  ⟨[100, 101, 99, 114], 2, true, false, 1, 1, 1⟩,
  ⟨[100, 101, 99, 114, 98, 121], 3, true, false, 1, 1, 1⟩,
  ⟨[103, 101, 116], 2, false, false, 1, 1, 1⟩,
  ⟨[103, 101, 116, 98, 105, 116], 3, false, false, 1, 1, 1⟩,
  ⟨[103, 101, 116, 100, 101, 108], 2, true, false, 1, 1, 1⟩,
  ⟨[103, 101, 116, 101, 120], -2, true, false, 1, 1, 1⟩,
  ⟨[103, 101, 116, 114, 97, 110, 103, 101], 4, false, false, 1, 1, 1⟩,
  ⟨[103, 101, 116, 115, 101, 116], 3, true, false, 1, 1, 1⟩,
  ⟨[105, 110, 99, 114], 2, true, false, 1, 1, 1⟩,
  ⟨[105, 110, 99, 114, 98, 121], 3, true, false, 1, 1, 1⟩,
  ⟨[109, 103, 101, 116], -2, false, false, 1, -1, 1⟩,
  ⟨[109, 115, 101, 116], -3, true, false, 1, -1, 2⟩,
  ⟨[109, 115, 101, 116, 110, 120], -3, true, false, 1, -1, 2⟩,
  ⟨[112, 115, 101, 116, 101, 120], 4, true, false, 1, 1, 1⟩,
  ⟨[115, 101, 116], -3, true, false, 1, 1, 1⟩,
  ⟨[115, 101, 116, 98, 105, 116], 4, true, false, 1, 1, 1⟩,
  ⟨[115, 101, 116, 101, 120], 4, true, false, 1, 1, 1⟩,
  ⟨[115, 101, 116, 110, 120], 3, true, false, 1, 1, 1⟩,
  ⟨[115, 101, 116, 114, 97, 110, 103, 101], 4, true, false, 1, 1, 1⟩,
  ⟨[115, 116, 114, 108, 101, 110], 2, false, false, 1, 1, 1⟩]
def keysL : List SpecM := [
  ⟨[99, 111, 112, 121], -3, true, false, 1, 2, 1⟩,
  ⟨[100, 98, 115, 105, 122, 101], 1, false, false, 0, 0, 0⟩,
  ⟨[100, 101, 108], -2, true, false, 1, -1, 1⟩,
  ⟨[100, 117, 109, 112], 2, false, false, 1, 1, 1⟩,
  ⟨[101, 99, 104, 111], 2, false, false, 0, 0, 0⟩,
  ⟨[101, 120, 105, 115, 116, 115], -2, false, false, 1, -1, 1⟩,
  ⟨[101, 120, 112, 105, 114, 101], -3, true, false, 1, 1, 1⟩,
  ⟨[101, 120, 112, 105, 114, 101, 97, 116], -3, true, false, 1, 1, 1⟩,
  ⟨[101, 120, 112, 105, 114, 101, 116, 105, 109, 101], 2, false, false, 1, 1, 1⟩,
  ⟨[102, 108, 117, 115, 104, 97, 108, 108], 1, true, false, 0, 0, 0⟩,
  ⟨[102, 108, 117, 115, 104, 100, 98], 1, true, false, 0, 0, 0⟩,
  ⟨[107, 101, 121, 115], 2, false, false, 0, 0, 0⟩,
  ⟨[112, 101, 114, 115, 105, 115, 116], 2, true, false, 1, 1, 1⟩,
  ⟨[112, 101, 120, 112, 105, 114, 101], -3, true, false, 1, 1, 1⟩,
  ⟨[112, 101, 120, 112, 105, 114, 101, 97, 116], -3, true, false, 1, 1, 1⟩,
  ⟨[112, 101, 120, 112, 105, 114, 101, 116, 105, 109, 101], 2, false, false, 1, 1, 1⟩,
  ⟨[112, 105, 110, 103], -1, false, false, 0, 0, 0⟩,
  ⟨[112, 116, 116, 108], 2, false, false, 1, 1, 1⟩,
  ⟨[114, 101, 110, 97, 109, 101], 3, true, false, 1, 2, 1⟩,
  ⟨[114, 101, 110, 97, 109, 101, 110, 120], 3, true, false, 1, 2, 1⟩,
  ⟨[114, 101, 115, 116, 111, 114, 101], -4, true, false, 1, 1, 1⟩,
  ⟨[115, 99, 97, 110], -2, false, false, 0, 0, 0⟩,
  ⟨[116, 116, 108], 2, false, false, 1, 1, 1⟩,
  ⟨[116, 121, 112, 101], 2, false, false, 1, 1, 1⟩,
  ⟨[117, 110, 108, 105, 110, 107], -2, true, false, 1, -1, 1⟩]
def listsL : List SpecM := [
  ⟨[108, 105, 110, 100, 101, 120], 3, false, false, 1, 1, 1⟩,
  ⟨[108, 105, 110, 115, 101, 114, 116], 5, true, false, 1, 1, 1⟩,
  ⟨[108, 108, 101, 110], 2, false, false, 1, 1, 1⟩,
  ⟨[108, 109, 111, 118, 101], 5, true, false, 1, 2, 1⟩,
  ⟨[108, 112, 111, 112], -2, true, false, 1, 1, 1⟩,
  ⟨[108, 112, 111, 115], -3, false, false, 1, 1, 1⟩,
  ⟨[108, 112, 117, 115, 104], -3, true, false, 1, 1, 1⟩,
  ⟨[108, 112, 117, 115, 104, 120], -3, true, false, 1, 1, 1⟩,
  ⟨[108, 114, 97, 110, 103, 101], 4, false, false, 1, 1, 1⟩,
  ⟨[108, 114, 101, 109], 4, true, false, 1, 1, 1⟩,
  ⟨[108, 115, 101, 116], 4, true, false, 1, 1, 1⟩,
  ⟨[108, 116, 114, 105, 109], 4, true, false, 1, 1, 1⟩,
  ⟨[114, 112, 111, 112], -2, true, false, 1, 1, 1⟩,
  ⟨[114, 112, 111, 112, 108, 112, 117, 115, 104], 3, true, false, 1, 2, 1⟩,
  ⟨[114, 112, 117, 115, 104], -3, true, false, 1, 1, 1⟩,
  ⟨[114, 112, 117, 115, 104, 120], -3, true, false, 1, 1, 1⟩]
def hashesL : List SpecM := [
  ⟨[104, 100, 101, 108], -3, true, false, 1, 1, 1⟩,
  ⟨[104, 101, 120, 105, 115, 116, 115], 3, false, false, 1, 1, 1⟩,
  ⟨[104, 103, 101, 116], 3, false, false, 1, 1, 1⟩,
  ⟨[104, 103, 101, 116, 97, 108, 108], 2, false, false, 1, 1, 1⟩,
  ⟨[104, 105, 110, 99, 114, 98, 121], 4, true, false, 1, 1, 1⟩,
  ⟨[104, 107, 101, 121, 115], 2, false, false, 1, 1, 1⟩,
  ⟨[104, 108, 101, 110], 2, false, false, 1, 1, 1⟩,
  ⟨[104, 109, 103, 101, 116], -3, false, false, 1, 1, 1⟩,
  ⟨[104, 109, 115, 101, 116], -4, true, false, 1, 1, 1⟩,
  ⟨[104, 115, 99, 97, 110], -3, false, false, 1, 1, 1⟩,
  ⟨[104, 115, 101, 116], -4, true, false, 1, 1, 1⟩,
  ⟨[104, 115, 101, 116, 110, 120], 4, true, false, 1, 1, 1⟩,
  ⟨[104, 115, 116, 114, 108, 101, 110], 3, false, false, 1, 1, 1⟩,
  ⟨[104, 118, 97, 108, 115], 2, false, false, 1, 1, 1⟩]
def setsL : List SpecM := [
  ⟨[115, 97, 100, 100], -3, true, false, 1, 1, 1⟩,
  ⟨[115, 99, 97, 114, 100], 2, false, false, 1, 1, 1⟩,
  ⟨[115, 100, 105, 102, 102], -2, false, false, 1, -1, 1⟩,
  ⟨[115, 100, 105, 102, 102, 115, 116, 111, 114, 101], -3, true, false, 1, -1, 1⟩,
  ⟨[115, 105, 110, 116, 101, 114], -2, false, false, 1, -1, 1⟩,
  ⟨[115, 105, 110, 116, 101, 114, 115, 116, 111, 114, 101], -3, true, false, 1, -1, 1⟩,
  ⟨[115, 105, 115, 109, 101, 109, 98, 101, 114], 3, false, false, 1, 1, 1⟩,
  ⟨[115, 109, 101, 109, 98, 101, 114, 115], 2, false, false, 1, 1, 1⟩,
  ⟨[115, 109, 105, 115, 109, 101, 109, 98, 101, 114], -3, false, false, 1, 1, 1⟩,
  ⟨[115, 109, 111, 118, 101], 4, true, false, 1, 2, 1⟩,
  ⟨[115, 112, 111, 112], -2, true, false, 1, 1, 1⟩,
  ⟨[115, 114, 101, 109], -3, true, false, 1, 1, 1⟩,
  ⟨[115, 115, 99, 97, 110], -3, false, false, 1, 1, 1⟩,
  ⟨[115, 117, 110, 105, 111, 110], -2, false, false, 1, -1, 1⟩,
  ⟨[115, 117, 110, 105, 111, 110, 115, 116, 111, 114, 101], -3, true, false, 1, -1, 1⟩]
def ranksL : List SpecM := [
  ⟨[122, 97, 100, 100], -4, true, false, 1, 1, 1⟩,
  ⟨[122, 99, 97, 114, 100], 2, false, false, 1, 1, 1⟩,
  ⟨[122, 99, 111, 117, 110, 116], 4, false, false, 1, 1, 1⟩,
  ⟨[122, 105, 110, 99, 114, 98, 121], 4, true, false, 1, 1, 1⟩,
  ⟨[122, 108, 101, 120, 99, 111, 117, 110, 116], 4, false, false, 1, 1, 1⟩,
  ⟨[122, 109, 115, 99, 111, 114, 101], -3, false, false, 1, 1, 1⟩,
  ⟨[122, 112, 111, 112, 109, 97, 120], -2, true, false, 1, 1, 1⟩,
  ⟨[122, 112, 111, 112, 109, 105, 110], -2, true, false, 1, 1, 1⟩,
  ⟨[122, 114, 97, 110, 103, 101], -4, false, false, 1, 1, 1⟩,
  ⟨[122, 114, 97, 110, 107], 3, false, false, 1, 1, 1⟩,
  ⟨[122, 114, 101, 109], -3, true, false, 1, 1, 1⟩,
  ⟨[122, 114, 101, 109, 114, 97, 110, 103, 101, 98, 121, 108, 101, 120], 4, true, false, 1, 1, 1⟩,
  ⟨[122, 114, 101, 109, 114, 97, 110, 103, 101, 98, 121, 114, 97, 110, 107], 4, true, false, 1, 1, 1⟩,
  ⟨[122, 114, 101, 109, 114, 97, 110, 103, 101, 98, 121, 115, 99, 111, 114, 101], 4, true, false, 1, 1, 1⟩,
  ⟨[122, 114, 101, 118, 114, 97, 110, 107], 3, false, false, 1, 1, 1⟩,
  ⟨[122, 115, 99, 97, 110], -3, false, false, 1, 1, 1⟩,
  ⟨[122, 115, 99, 111, 114, 101], 3, false, false, 1, 1, 1⟩]

def specC (s : SpecM) : List Value := [.string ⟨s.name.toArray⟩, .int .i64 s.arity, .bool s.write, .bool s.control, .int .i64 s.first, .int .i64 s.last, .int .i64 s.step]
def specsC (l : List SpecM) : List Value := l.flatMap specC
theorem specsC_len (l : List SpecM) : (specsC l).length = l.length * 7 := by
  unfold specsC
  induction l with
  | nil => rfl
  | cons x t ih => rw [List.flatMap_cons, List.length_append, ih]; simp [specC]; omega
theorem vw_new {w : World} {cs : Array Value} {T : TypeId} {sz n : Nat} {xs : List Value} (h : cs = xs.toArray) (hl : xs.length = n * sz) (hn : n ≤ maxLen) : Vw (fun b => w.heap.size ≤ b) (w.alloc (.cells cs T)) (.slice (some ⟨w.heap.size, 0, none⟩) n n) sz n xs := by
  refine ⟨⟨_, n, rfl, Nat.le_refl _, hn, .inr ⟨w.heap.size, 0, rfl, by simp, Nat.le_refl _, fun k u hk => ?_⟩⟩, hl⟩
  rw [Nat.zero_add]
  unfold World.cell?
  rw [heap_alloc_new]
  simp [h, hk]
/-- A region's operations, run where each yields a value or nothing. -/
def runList (P : Program) (ops : Array Oper) : List Oper → Act → World → Option (Act × World)
  | [], a, w => some (a, w)
  | o :: rest, a, w =>
    if Region.wanted o (yielded ops a.tmps) then
      match (execOp a.eval o).run P w with
      | .ok (.value v) w' => runList P ops rest (a.put o.dst v) w'
      | .ok .skip w' => runList P ops rest (a.put o.dst undef) w'
      | _ => none
    else runList P ops rest (a.put o.dst undef) w
theorem wpList_run {P : Program} {ops : Array Oper} {Q : Exit → Act → World → Prop} {a' : Act} {w' : World} : ∀ {os : List Oper} {a : Act} {w : World}, runList P ops os a w = some (a', w') → Q .normal a' w' → wpList P ops Q os a w
  | [], a, w, h, hq => by cases h; exact hq
  | o :: rest, a, w, h, hq => by
    unfold runList at h
    unfold wpList
    split at h
    · rename_i hw
      rw [if_pos hw]
      refine .inl ?_
      unfold Oper.wp
      split at h
      · rename_i v w2 hr
        rw [hr]
        exact wpList_run h hq
      · rename_i w2 hr
        rw [hr]
        exact wpList_run h hq
      · cases h
    · rename_i hw
      rw [if_neg hw]
      exact wpList_run h hq
def TDid (L : List SpecM) (n : Nat) (w : World) (e : Ending) (w' : World) : Prop := ∃ v, e = .returned v ∧ Vw (fun b => w.heap.size ≤ b) w' v 7 n (specsC L) ∧ Below w.heap.size w w'
set_option maxRecDepth 20000 in
set_option maxHeartbeats 1000000 in
theorem tcontrol_ok (w : World) : Calls Tryz.prog 148 #[] w (TDid controlL 7 w) := by
  go_enter Tryz.func148, Tryz.ntmps148
  refine wp_seq (wp_region_lit (wpList_run (a' := ⟨#[.slice none 0 0, undef, undef, undef, undef, undef, undef, undef, undef], []⟩) (w' := w) (by kernel_rfl) ?_))
  refine wp_seq (wp_region_lit (wpList_run (a' := ⟨#[.slice (some ⟨w.heap.size, 0, none⟩) 7 7, .agg #[.string ⟨#[100, 105, 115, 99, 97, 114, 100]⟩, .int .i64 1, .bool false, .bool true, .int .i64 0, .int .i64 0, .int .i64 0], .agg #[.string ⟨#[101, 120, 101, 99]⟩, .int .i64 1, .bool false, .bool true, .int .i64 0, .int .i64 0, .int .i64 0], .agg #[.string ⟨#[109, 117, 108, 116, 105]⟩, .int .i64 1, .bool false, .bool true, .int .i64 0, .int .i64 0, .int .i64 0], .agg #[.string ⟨#[113, 117, 105, 116]⟩, .int .i64 1, .bool false, .bool true, .int .i64 0, .int .i64 0, .int .i64 0], .agg #[.string ⟨#[114, 101, 115, 101, 116]⟩, .int .i64 1, .bool false, .bool true, .int .i64 0, .int .i64 0, .int .i64 0], .agg #[.string ⟨#[117, 110, 119, 97, 116, 99, 104]⟩, .int .i64 1, .bool false, .bool true, .int .i64 0, .int .i64 0, .int .i64 0], .agg #[.string ⟨#[119, 97, 116, 99, 104]⟩, .int .i64 (-2), .bool false, .bool true, .int .i64 1, .int .i64 (-1), .int .i64 1], .slice (some ⟨w.heap.size, 0, none⟩) 7 7], []⟩) (w' := (w.alloc (.cells (specsC controlL).toArray 107))) (by kernel_rfl) ?_))
  refine wp_ret ?_
  exact bodyPost_ret (results_tmp rfl _ _ _) rfl ⟨_, rfl, vw_new rfl (specsC_len _) (by decide), (Below.refl _ _).alloc (Nat.le_refl _) _⟩
set_option maxRecDepth 20000 in
set_option maxHeartbeats 1000000 in
theorem ttexts_ok (w : World) : Calls Tryz.prog 149 #[] w (TDid textsL 24 w) := by
  go_enter Tryz.func149, Tryz.ntmps149
  refine wp_seq (wp_region_lit (wpList_run (a' := ⟨#[.slice none 0 0, undef, undef, undef, undef, undef, undef, undef, undef, undef, undef, undef, undef, undef, undef, undef, undef, undef, undef, undef, undef, undef, undef, undef, undef, undef], []⟩) (w' := w) (by kernel_rfl) ?_))
  refine wp_seq (wp_region_lit (wpList_run (a' := ⟨#[.slice (some ⟨w.heap.size, 0, none⟩) 24 24, .agg #[.string ⟨#[97, 112, 112, 101, 110, 100]⟩, .int .i64 3, .bool true, .bool false, .int .i64 1, .int .i64 1, .int .i64 1], .agg #[.string ⟨#[98, 105, 116, 99, 111, 117, 110, 116]⟩, .int .i64 (-2), .bool false, .bool false, .int .i64 1, .int .i64 1, .int .i64 1], .agg #[.string ⟨#[98, 105, 116, 111, 112]⟩, .int .i64 (-4), .bool true, .bool false, .int .i64 2, .int .i64 (-1), .int .i64 1], .agg #[.string ⟨#[98, 105, 116, 112, 111, 115]⟩, .int .i64 (-3), .bool false, .bool false, .int .i64 1, .int .i64 1, .int .i64 1], .agg #[.string ⟨#[100, 101, 99, 114]⟩, .int .i64 2, .bool true, .bool false, .int .i64 1, .int .i64 1, .int .i64 1], .agg #[.string ⟨#[100, 101, 99, 114, 98, 121]⟩, .int .i64 3, .bool true, .bool false, .int .i64 1, .int .i64 1, .int .i64 1], .agg #[.string ⟨#[103, 101, 116]⟩, .int .i64 2, .bool false, .bool false, .int .i64 1, .int .i64 1, .int .i64 1], .agg #[.string ⟨#[103, 101, 116, 98, 105, 116]⟩, .int .i64 3, .bool false, .bool false, .int .i64 1, .int .i64 1, .int .i64 1], .agg #[.string ⟨#[103, 101, 116, 100, 101, 108]⟩, .int .i64 2, .bool true, .bool false, .int .i64 1, .int .i64 1, .int .i64 1], .agg #[.string ⟨#[103, 101, 116, 101, 120]⟩, .int .i64 (-2), .bool true, .bool false, .int .i64 1, .int .i64 1, .int .i64 1], .agg #[.string ⟨#[103, 101, 116, 114, 97, 110, 103, 101]⟩, .int .i64 4, .bool false, .bool false, .int .i64 1, .int .i64 1, .int .i64 1], .agg #[.string ⟨#[103, 101, 116, 115, 101, 116]⟩, .int .i64 3, .bool true, .bool false, .int .i64 1, .int .i64 1, .int .i64 1], .agg #[.string ⟨#[105, 110, 99, 114]⟩, .int .i64 2, .bool true, .bool false, .int .i64 1, .int .i64 1, .int .i64 1], .agg #[.string ⟨#[105, 110, 99, 114, 98, 121]⟩, .int .i64 3, .bool true, .bool false, .int .i64 1, .int .i64 1, .int .i64 1], .agg #[.string ⟨#[109, 103, 101, 116]⟩, .int .i64 (-2), .bool false, .bool false, .int .i64 1, .int .i64 (-1), .int .i64 1], .agg #[.string ⟨#[109, 115, 101, 116]⟩, .int .i64 (-3), .bool true, .bool false, .int .i64 1, .int .i64 (-1), .int .i64 2], .agg #[.string ⟨#[109, 115, 101, 116, 110, 120]⟩, .int .i64 (-3), .bool true, .bool false, .int .i64 1, .int .i64 (-1), .int .i64 2], .agg #[.string ⟨#[112, 115, 101, 116, 101, 120]⟩, .int .i64 4, .bool true, .bool false, .int .i64 1, .int .i64 1, .int .i64 1], .agg #[.string ⟨#[115, 101, 116]⟩, .int .i64 (-3), .bool true, .bool false, .int .i64 1, .int .i64 1, .int .i64 1], .agg #[.string ⟨#[115, 101, 116, 98, 105, 116]⟩, .int .i64 4, .bool true, .bool false, .int .i64 1, .int .i64 1, .int .i64 1], .agg #[.string ⟨#[115, 101, 116, 101, 120]⟩, .int .i64 4, .bool true, .bool false, .int .i64 1, .int .i64 1, .int .i64 1], .agg #[.string ⟨#[115, 101, 116, 110, 120]⟩, .int .i64 3, .bool true, .bool false, .int .i64 1, .int .i64 1, .int .i64 1], .agg #[.string ⟨#[115, 101, 116, 114, 97, 110, 103, 101]⟩, .int .i64 4, .bool true, .bool false, .int .i64 1, .int .i64 1, .int .i64 1], .agg #[.string ⟨#[115, 116, 114, 108, 101, 110]⟩, .int .i64 2, .bool false, .bool false, .int .i64 1, .int .i64 1, .int .i64 1], .slice (some ⟨w.heap.size, 0, none⟩) 24 24], []⟩) (w' := (w.alloc (.cells (specsC textsL).toArray 107))) (by kernel_rfl) ?_))
  refine wp_ret ?_
  exact bodyPost_ret (results_tmp rfl _ _ _) rfl ⟨_, rfl, vw_new rfl (specsC_len _) (by decide), (Below.refl _ _).alloc (Nat.le_refl _) _⟩
set_option maxRecDepth 20000 in
set_option maxHeartbeats 1000000 in
theorem tkeys_ok (w : World) : Calls Tryz.prog 150 #[] w (TDid keysL 25 w) := by
  go_enter Tryz.func150, Tryz.ntmps150
  refine wp_seq (wp_region_lit (wpList_run (a' := ⟨#[.slice none 0 0, undef, undef, undef, undef, undef, undef, undef, undef, undef, undef, undef, undef, undef, undef, undef, undef, undef, undef, undef, undef, undef, undef, undef, undef, undef, undef], []⟩) (w' := w) (by kernel_rfl) ?_))
  refine wp_seq (wp_region_lit (wpList_run (a' := ⟨#[.slice (some ⟨w.heap.size, 0, none⟩) 25 25, .agg #[.string ⟨#[99, 111, 112, 121]⟩, .int .i64 (-3), .bool true, .bool false, .int .i64 1, .int .i64 2, .int .i64 1], .agg #[.string ⟨#[100, 98, 115, 105, 122, 101]⟩, .int .i64 1, .bool false, .bool false, .int .i64 0, .int .i64 0, .int .i64 0], .agg #[.string ⟨#[100, 101, 108]⟩, .int .i64 (-2), .bool true, .bool false, .int .i64 1, .int .i64 (-1), .int .i64 1], .agg #[.string ⟨#[100, 117, 109, 112]⟩, .int .i64 2, .bool false, .bool false, .int .i64 1, .int .i64 1, .int .i64 1], .agg #[.string ⟨#[101, 99, 104, 111]⟩, .int .i64 2, .bool false, .bool false, .int .i64 0, .int .i64 0, .int .i64 0], .agg #[.string ⟨#[101, 120, 105, 115, 116, 115]⟩, .int .i64 (-2), .bool false, .bool false, .int .i64 1, .int .i64 (-1), .int .i64 1], .agg #[.string ⟨#[101, 120, 112, 105, 114, 101]⟩, .int .i64 (-3), .bool true, .bool false, .int .i64 1, .int .i64 1, .int .i64 1], .agg #[.string ⟨#[101, 120, 112, 105, 114, 101, 97, 116]⟩, .int .i64 (-3), .bool true, .bool false, .int .i64 1, .int .i64 1, .int .i64 1], .agg #[.string ⟨#[101, 120, 112, 105, 114, 101, 116, 105, 109, 101]⟩, .int .i64 2, .bool false, .bool false, .int .i64 1, .int .i64 1, .int .i64 1], .agg #[.string ⟨#[102, 108, 117, 115, 104, 97, 108, 108]⟩, .int .i64 1, .bool true, .bool false, .int .i64 0, .int .i64 0, .int .i64 0], .agg #[.string ⟨#[102, 108, 117, 115, 104, 100, 98]⟩, .int .i64 1, .bool true, .bool false, .int .i64 0, .int .i64 0, .int .i64 0], .agg #[.string ⟨#[107, 101, 121, 115]⟩, .int .i64 2, .bool false, .bool false, .int .i64 0, .int .i64 0, .int .i64 0], .agg #[.string ⟨#[112, 101, 114, 115, 105, 115, 116]⟩, .int .i64 2, .bool true, .bool false, .int .i64 1, .int .i64 1, .int .i64 1], .agg #[.string ⟨#[112, 101, 120, 112, 105, 114, 101]⟩, .int .i64 (-3), .bool true, .bool false, .int .i64 1, .int .i64 1, .int .i64 1], .agg #[.string ⟨#[112, 101, 120, 112, 105, 114, 101, 97, 116]⟩, .int .i64 (-3), .bool true, .bool false, .int .i64 1, .int .i64 1, .int .i64 1], .agg #[.string ⟨#[112, 101, 120, 112, 105, 114, 101, 116, 105, 109, 101]⟩, .int .i64 2, .bool false, .bool false, .int .i64 1, .int .i64 1, .int .i64 1], .agg #[.string ⟨#[112, 105, 110, 103]⟩, .int .i64 (-1), .bool false, .bool false, .int .i64 0, .int .i64 0, .int .i64 0], .agg #[.string ⟨#[112, 116, 116, 108]⟩, .int .i64 2, .bool false, .bool false, .int .i64 1, .int .i64 1, .int .i64 1], .agg #[.string ⟨#[114, 101, 110, 97, 109, 101]⟩, .int .i64 3, .bool true, .bool false, .int .i64 1, .int .i64 2, .int .i64 1], .agg #[.string ⟨#[114, 101, 110, 97, 109, 101, 110, 120]⟩, .int .i64 3, .bool true, .bool false, .int .i64 1, .int .i64 2, .int .i64 1], .agg #[.string ⟨#[114, 101, 115, 116, 111, 114, 101]⟩, .int .i64 (-4), .bool true, .bool false, .int .i64 1, .int .i64 1, .int .i64 1], .agg #[.string ⟨#[115, 99, 97, 110]⟩, .int .i64 (-2), .bool false, .bool false, .int .i64 0, .int .i64 0, .int .i64 0], .agg #[.string ⟨#[116, 116, 108]⟩, .int .i64 2, .bool false, .bool false, .int .i64 1, .int .i64 1, .int .i64 1], .agg #[.string ⟨#[116, 121, 112, 101]⟩, .int .i64 2, .bool false, .bool false, .int .i64 1, .int .i64 1, .int .i64 1], .agg #[.string ⟨#[117, 110, 108, 105, 110, 107]⟩, .int .i64 (-2), .bool true, .bool false, .int .i64 1, .int .i64 (-1), .int .i64 1], .slice (some ⟨w.heap.size, 0, none⟩) 25 25], []⟩) (w' := (w.alloc (.cells (specsC keysL).toArray 107))) (by kernel_rfl) ?_))
  refine wp_ret ?_
  exact bodyPost_ret (results_tmp rfl _ _ _) rfl ⟨_, rfl, vw_new rfl (specsC_len _) (by decide), (Below.refl _ _).alloc (Nat.le_refl _) _⟩
set_option maxRecDepth 20000 in
set_option maxHeartbeats 1000000 in
theorem tlists_ok (w : World) : Calls Tryz.prog 151 #[] w (TDid listsL 16 w) := by
  go_enter Tryz.func151, Tryz.ntmps151
  refine wp_seq (wp_region_lit (wpList_run (a' := ⟨#[.slice none 0 0, undef, undef, undef, undef, undef, undef, undef, undef, undef, undef, undef, undef, undef, undef, undef, undef, undef], []⟩) (w' := w) (by kernel_rfl) ?_))
  refine wp_seq (wp_region_lit (wpList_run (a' := ⟨#[.slice (some ⟨w.heap.size, 0, none⟩) 16 16, .agg #[.string ⟨#[108, 105, 110, 100, 101, 120]⟩, .int .i64 3, .bool false, .bool false, .int .i64 1, .int .i64 1, .int .i64 1], .agg #[.string ⟨#[108, 105, 110, 115, 101, 114, 116]⟩, .int .i64 5, .bool true, .bool false, .int .i64 1, .int .i64 1, .int .i64 1], .agg #[.string ⟨#[108, 108, 101, 110]⟩, .int .i64 2, .bool false, .bool false, .int .i64 1, .int .i64 1, .int .i64 1], .agg #[.string ⟨#[108, 109, 111, 118, 101]⟩, .int .i64 5, .bool true, .bool false, .int .i64 1, .int .i64 2, .int .i64 1], .agg #[.string ⟨#[108, 112, 111, 112]⟩, .int .i64 (-2), .bool true, .bool false, .int .i64 1, .int .i64 1, .int .i64 1], .agg #[.string ⟨#[108, 112, 111, 115]⟩, .int .i64 (-3), .bool false, .bool false, .int .i64 1, .int .i64 1, .int .i64 1], .agg #[.string ⟨#[108, 112, 117, 115, 104]⟩, .int .i64 (-3), .bool true, .bool false, .int .i64 1, .int .i64 1, .int .i64 1], .agg #[.string ⟨#[108, 112, 117, 115, 104, 120]⟩, .int .i64 (-3), .bool true, .bool false, .int .i64 1, .int .i64 1, .int .i64 1], .agg #[.string ⟨#[108, 114, 97, 110, 103, 101]⟩, .int .i64 4, .bool false, .bool false, .int .i64 1, .int .i64 1, .int .i64 1], .agg #[.string ⟨#[108, 114, 101, 109]⟩, .int .i64 4, .bool true, .bool false, .int .i64 1, .int .i64 1, .int .i64 1], .agg #[.string ⟨#[108, 115, 101, 116]⟩, .int .i64 4, .bool true, .bool false, .int .i64 1, .int .i64 1, .int .i64 1], .agg #[.string ⟨#[108, 116, 114, 105, 109]⟩, .int .i64 4, .bool true, .bool false, .int .i64 1, .int .i64 1, .int .i64 1], .agg #[.string ⟨#[114, 112, 111, 112]⟩, .int .i64 (-2), .bool true, .bool false, .int .i64 1, .int .i64 1, .int .i64 1], .agg #[.string ⟨#[114, 112, 111, 112, 108, 112, 117, 115, 104]⟩, .int .i64 3, .bool true, .bool false, .int .i64 1, .int .i64 2, .int .i64 1], .agg #[.string ⟨#[114, 112, 117, 115, 104]⟩, .int .i64 (-3), .bool true, .bool false, .int .i64 1, .int .i64 1, .int .i64 1], .agg #[.string ⟨#[114, 112, 117, 115, 104, 120]⟩, .int .i64 (-3), .bool true, .bool false, .int .i64 1, .int .i64 1, .int .i64 1], .slice (some ⟨w.heap.size, 0, none⟩) 16 16], []⟩) (w' := (w.alloc (.cells (specsC listsL).toArray 107))) (by kernel_rfl) ?_))
  refine wp_ret ?_
  exact bodyPost_ret (results_tmp rfl _ _ _) rfl ⟨_, rfl, vw_new rfl (specsC_len _) (by decide), (Below.refl _ _).alloc (Nat.le_refl _) _⟩
set_option maxRecDepth 20000 in
set_option maxHeartbeats 1000000 in
theorem thashes_ok (w : World) : Calls Tryz.prog 152 #[] w (TDid hashesL 14 w) := by
  go_enter Tryz.func152, Tryz.ntmps152
  refine wp_seq (wp_region_lit (wpList_run (a' := ⟨#[.slice none 0 0, undef, undef, undef, undef, undef, undef, undef, undef, undef, undef, undef, undef, undef, undef, undef], []⟩) (w' := w) (by kernel_rfl) ?_))
  refine wp_seq (wp_region_lit (wpList_run (a' := ⟨#[.slice (some ⟨w.heap.size, 0, none⟩) 14 14, .agg #[.string ⟨#[104, 100, 101, 108]⟩, .int .i64 (-3), .bool true, .bool false, .int .i64 1, .int .i64 1, .int .i64 1], .agg #[.string ⟨#[104, 101, 120, 105, 115, 116, 115]⟩, .int .i64 3, .bool false, .bool false, .int .i64 1, .int .i64 1, .int .i64 1], .agg #[.string ⟨#[104, 103, 101, 116]⟩, .int .i64 3, .bool false, .bool false, .int .i64 1, .int .i64 1, .int .i64 1], .agg #[.string ⟨#[104, 103, 101, 116, 97, 108, 108]⟩, .int .i64 2, .bool false, .bool false, .int .i64 1, .int .i64 1, .int .i64 1], .agg #[.string ⟨#[104, 105, 110, 99, 114, 98, 121]⟩, .int .i64 4, .bool true, .bool false, .int .i64 1, .int .i64 1, .int .i64 1], .agg #[.string ⟨#[104, 107, 101, 121, 115]⟩, .int .i64 2, .bool false, .bool false, .int .i64 1, .int .i64 1, .int .i64 1], .agg #[.string ⟨#[104, 108, 101, 110]⟩, .int .i64 2, .bool false, .bool false, .int .i64 1, .int .i64 1, .int .i64 1], .agg #[.string ⟨#[104, 109, 103, 101, 116]⟩, .int .i64 (-3), .bool false, .bool false, .int .i64 1, .int .i64 1, .int .i64 1], .agg #[.string ⟨#[104, 109, 115, 101, 116]⟩, .int .i64 (-4), .bool true, .bool false, .int .i64 1, .int .i64 1, .int .i64 1], .agg #[.string ⟨#[104, 115, 99, 97, 110]⟩, .int .i64 (-3), .bool false, .bool false, .int .i64 1, .int .i64 1, .int .i64 1], .agg #[.string ⟨#[104, 115, 101, 116]⟩, .int .i64 (-4), .bool true, .bool false, .int .i64 1, .int .i64 1, .int .i64 1], .agg #[.string ⟨#[104, 115, 101, 116, 110, 120]⟩, .int .i64 4, .bool true, .bool false, .int .i64 1, .int .i64 1, .int .i64 1], .agg #[.string ⟨#[104, 115, 116, 114, 108, 101, 110]⟩, .int .i64 3, .bool false, .bool false, .int .i64 1, .int .i64 1, .int .i64 1], .agg #[.string ⟨#[104, 118, 97, 108, 115]⟩, .int .i64 2, .bool false, .bool false, .int .i64 1, .int .i64 1, .int .i64 1], .slice (some ⟨w.heap.size, 0, none⟩) 14 14], []⟩) (w' := (w.alloc (.cells (specsC hashesL).toArray 107))) (by kernel_rfl) ?_))
  refine wp_ret ?_
  exact bodyPost_ret (results_tmp rfl _ _ _) rfl ⟨_, rfl, vw_new rfl (specsC_len _) (by decide), (Below.refl _ _).alloc (Nat.le_refl _) _⟩
set_option maxRecDepth 20000 in
set_option maxHeartbeats 1000000 in
theorem tsets_ok (w : World) : Calls Tryz.prog 153 #[] w (TDid setsL 15 w) := by
  go_enter Tryz.func153, Tryz.ntmps153
  refine wp_seq (wp_region_lit (wpList_run (a' := ⟨#[.slice none 0 0, undef, undef, undef, undef, undef, undef, undef, undef, undef, undef, undef, undef, undef, undef, undef, undef], []⟩) (w' := w) (by kernel_rfl) ?_))
  refine wp_seq (wp_region_lit (wpList_run (a' := ⟨#[.slice (some ⟨w.heap.size, 0, none⟩) 15 15, .agg #[.string ⟨#[115, 97, 100, 100]⟩, .int .i64 (-3), .bool true, .bool false, .int .i64 1, .int .i64 1, .int .i64 1], .agg #[.string ⟨#[115, 99, 97, 114, 100]⟩, .int .i64 2, .bool false, .bool false, .int .i64 1, .int .i64 1, .int .i64 1], .agg #[.string ⟨#[115, 100, 105, 102, 102]⟩, .int .i64 (-2), .bool false, .bool false, .int .i64 1, .int .i64 (-1), .int .i64 1], .agg #[.string ⟨#[115, 100, 105, 102, 102, 115, 116, 111, 114, 101]⟩, .int .i64 (-3), .bool true, .bool false, .int .i64 1, .int .i64 (-1), .int .i64 1], .agg #[.string ⟨#[115, 105, 110, 116, 101, 114]⟩, .int .i64 (-2), .bool false, .bool false, .int .i64 1, .int .i64 (-1), .int .i64 1], .agg #[.string ⟨#[115, 105, 110, 116, 101, 114, 115, 116, 111, 114, 101]⟩, .int .i64 (-3), .bool true, .bool false, .int .i64 1, .int .i64 (-1), .int .i64 1], .agg #[.string ⟨#[115, 105, 115, 109, 101, 109, 98, 101, 114]⟩, .int .i64 3, .bool false, .bool false, .int .i64 1, .int .i64 1, .int .i64 1], .agg #[.string ⟨#[115, 109, 101, 109, 98, 101, 114, 115]⟩, .int .i64 2, .bool false, .bool false, .int .i64 1, .int .i64 1, .int .i64 1], .agg #[.string ⟨#[115, 109, 105, 115, 109, 101, 109, 98, 101, 114]⟩, .int .i64 (-3), .bool false, .bool false, .int .i64 1, .int .i64 1, .int .i64 1], .agg #[.string ⟨#[115, 109, 111, 118, 101]⟩, .int .i64 4, .bool true, .bool false, .int .i64 1, .int .i64 2, .int .i64 1], .agg #[.string ⟨#[115, 112, 111, 112]⟩, .int .i64 (-2), .bool true, .bool false, .int .i64 1, .int .i64 1, .int .i64 1], .agg #[.string ⟨#[115, 114, 101, 109]⟩, .int .i64 (-3), .bool true, .bool false, .int .i64 1, .int .i64 1, .int .i64 1], .agg #[.string ⟨#[115, 115, 99, 97, 110]⟩, .int .i64 (-3), .bool false, .bool false, .int .i64 1, .int .i64 1, .int .i64 1], .agg #[.string ⟨#[115, 117, 110, 105, 111, 110]⟩, .int .i64 (-2), .bool false, .bool false, .int .i64 1, .int .i64 (-1), .int .i64 1], .agg #[.string ⟨#[115, 117, 110, 105, 111, 110, 115, 116, 111, 114, 101]⟩, .int .i64 (-3), .bool true, .bool false, .int .i64 1, .int .i64 (-1), .int .i64 1], .slice (some ⟨w.heap.size, 0, none⟩) 15 15], []⟩) (w' := (w.alloc (.cells (specsC setsL).toArray 107))) (by kernel_rfl) ?_))
  refine wp_ret ?_
  exact bodyPost_ret (results_tmp rfl _ _ _) rfl ⟨_, rfl, vw_new rfl (specsC_len _) (by decide), (Below.refl _ _).alloc (Nat.le_refl _) _⟩
set_option maxRecDepth 20000 in
set_option maxHeartbeats 1000000 in
theorem tranks_ok (w : World) : Calls Tryz.prog 154 #[] w (TDid ranksL 17 w) := by
  go_enter Tryz.func154, Tryz.ntmps154
  refine wp_seq (wp_region_lit (wpList_run (a' := ⟨#[.slice none 0 0, undef, undef, undef, undef, undef, undef, undef, undef, undef, undef, undef, undef, undef, undef, undef, undef, undef, undef], []⟩) (w' := w) (by kernel_rfl) ?_))
  refine wp_seq (wp_region_lit (wpList_run (a' := ⟨#[.slice (some ⟨w.heap.size, 0, none⟩) 17 17, .agg #[.string ⟨#[122, 97, 100, 100]⟩, .int .i64 (-4), .bool true, .bool false, .int .i64 1, .int .i64 1, .int .i64 1], .agg #[.string ⟨#[122, 99, 97, 114, 100]⟩, .int .i64 2, .bool false, .bool false, .int .i64 1, .int .i64 1, .int .i64 1], .agg #[.string ⟨#[122, 99, 111, 117, 110, 116]⟩, .int .i64 4, .bool false, .bool false, .int .i64 1, .int .i64 1, .int .i64 1], .agg #[.string ⟨#[122, 105, 110, 99, 114, 98, 121]⟩, .int .i64 4, .bool true, .bool false, .int .i64 1, .int .i64 1, .int .i64 1], .agg #[.string ⟨#[122, 108, 101, 120, 99, 111, 117, 110, 116]⟩, .int .i64 4, .bool false, .bool false, .int .i64 1, .int .i64 1, .int .i64 1], .agg #[.string ⟨#[122, 109, 115, 99, 111, 114, 101]⟩, .int .i64 (-3), .bool false, .bool false, .int .i64 1, .int .i64 1, .int .i64 1], .agg #[.string ⟨#[122, 112, 111, 112, 109, 97, 120]⟩, .int .i64 (-2), .bool true, .bool false, .int .i64 1, .int .i64 1, .int .i64 1], .agg #[.string ⟨#[122, 112, 111, 112, 109, 105, 110]⟩, .int .i64 (-2), .bool true, .bool false, .int .i64 1, .int .i64 1, .int .i64 1], .agg #[.string ⟨#[122, 114, 97, 110, 103, 101]⟩, .int .i64 (-4), .bool false, .bool false, .int .i64 1, .int .i64 1, .int .i64 1], .agg #[.string ⟨#[122, 114, 97, 110, 107]⟩, .int .i64 3, .bool false, .bool false, .int .i64 1, .int .i64 1, .int .i64 1], .agg #[.string ⟨#[122, 114, 101, 109]⟩, .int .i64 (-3), .bool true, .bool false, .int .i64 1, .int .i64 1, .int .i64 1], .agg #[.string ⟨#[122, 114, 101, 109, 114, 97, 110, 103, 101, 98, 121, 108, 101, 120]⟩, .int .i64 4, .bool true, .bool false, .int .i64 1, .int .i64 1, .int .i64 1], .agg #[.string ⟨#[122, 114, 101, 109, 114, 97, 110, 103, 101, 98, 121, 114, 97, 110, 107]⟩, .int .i64 4, .bool true, .bool false, .int .i64 1, .int .i64 1, .int .i64 1], .agg #[.string ⟨#[122, 114, 101, 109, 114, 97, 110, 103, 101, 98, 121, 115, 99, 111, 114, 101]⟩, .int .i64 4, .bool true, .bool false, .int .i64 1, .int .i64 1, .int .i64 1], .agg #[.string ⟨#[122, 114, 101, 118, 114, 97, 110, 107]⟩, .int .i64 3, .bool false, .bool false, .int .i64 1, .int .i64 1, .int .i64 1], .agg #[.string ⟨#[122, 115, 99, 97, 110]⟩, .int .i64 (-3), .bool false, .bool false, .int .i64 1, .int .i64 1, .int .i64 1], .agg #[.string ⟨#[122, 115, 99, 111, 114, 101]⟩, .int .i64 3, .bool false, .bool false, .int .i64 1, .int .i64 1, .int .i64 1], .slice (some ⟨w.heap.size, 0, none⟩) 17 17], []⟩) (w' := (w.alloc (.cells (specsC ranksL).toArray 107))) (by kernel_rfl) ?_))
  refine wp_ret ?_
  exact bodyPost_ret (results_tmp rfl _ _ _) rfl ⟨_, rfl, vw_new rfl (specsC_len _) (by decide), (Below.refl _ _).alloc (Nat.le_refl _) _⟩
end Go.Proofs.YtgmmeeikjofefaaGreatDoor
