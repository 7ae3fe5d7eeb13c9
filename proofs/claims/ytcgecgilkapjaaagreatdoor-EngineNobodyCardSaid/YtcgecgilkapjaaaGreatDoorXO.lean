import Derived.Test.YtcgecgilkapjaaaGreatDoorXE
import Derived.Lib.AppendZeros
import Derived.Shelf.SlLaysF0
import Derived.Shelf.SlSortCmp.WholeK
import Derived.Lib.Bytealg
namespace Go.Proofs.YtcgecgilkapjaaaGreatDoor
open Go Go.RowKit
/-! The commands' table. -/
structure SpecM where
  name : List UInt8
  arity : Int
  write : Bool
  control : Bool
  first : Int
  last : Int
  step : Int
  deriving DecidableEq
def controlL : List SpecM := [
  ⟨[100, 105, 115, 99, 97, 114, 100], 1, false, true, 0, 0, 0⟩,
  ⟨[101, 120, 101, 99], 1, false, true, 0, 0, 0⟩,
  ⟨[109, 117, 108, 116, 105], 1, false, true, 0, 0, 0⟩,
  ⟨[113, 117, 105, 116], 1, false, true, 0, 0, 0⟩,
  ⟨[114, 101, 115, 101, 116], 1, false, true, 0, 0, 0⟩,
  ⟨[117, 110, 119, 97, 116, 99, 104], 1, false, true, 0, 0, 0⟩,
  ⟨[119, 97, 116, 99, 104], -2, false, true, 1, -1, 1⟩]
def textsL : List SpecM := [
  ⟨[97, 112, 112, 101, 110, 100], 3, true, false, 1, 1, 1⟩,
  ⟨[98, 105, 116, 99, 111, 117, 110, 116], -2, false, false, 1, 1, 1⟩,
  ⟨[98, 105, 116, 111, 112], -4, true, false, 2, -1, 1⟩,
  ⟨[98, 105, 116, 112, 111, 115], -3, false, false, 1, 1, 1⟩,
  ⟨[100, 101, 99, 114], 2, true, false, 1, 1, 1⟩,
  ⟨[100, 101, 99, 114, 98, 121], 3, true, false, 1, 1, 1⟩,
  ⟨[103, 101, 116], 2, false, false, 1, 1, 1⟩,
  ⟨[103, 101, 116, 98, 105, 116], 3, false, false, 1, 1, 1⟩,
  ⟨[103, 101, 116, 100, 101, 108], 2, true, false, 1, 1, 1⟩,
  ⟨[103, 101, 116, 101, 120], -2, true, false, 1, 1, 1⟩,
  ⟨[103, 101, 116, 114, 97, 110, 103, 101], 4, false, false, 1, 1, 1⟩,
  ⟨[103, 101, 116, 115, 101, 116], 3, true, false, 1, 1, 1⟩,
  ⟨[105, 110, 99, 114], 2, true, false, 1, 1, 1⟩,
  ⟨[105, 110, 99, 114, 98, 121], 3, true, false, 1, 1, 1⟩,
  ⟨[109, 103, 101, 116], -2, false, false, 1, -1, 1⟩,
  ⟨[109, 115, 101, 116], -3, true, false, 1, -1, 2⟩,
  ⟨[109, 115, 101, 116, 110, 120], -3, true, false, 1, -1, 2⟩,
  ⟨[112, 115, 101, 116, 101, 120], 4, true, false, 1, 1, 1⟩,
  ⟨[115, 101, 116], -3, true, false, 1, 1, 1⟩,
  ⟨[115, 101, 116, 98, 105, 116], 4, true, false, 1, 1, 1⟩,
  ⟨[115, 101, 116, 101, 120], 4, true, false, 1, 1, 1⟩,
  ⟨[115, 101, 116, 110, 120], 3, true, false, 1, 1, 1⟩,
  ⟨[115, 101, 116, 114, 97, 110, 103, 101], 4, true, false, 1, 1, 1⟩,
  ⟨[115, 116, 114, 108, 101, 110], 2, false, false, 1, 1, 1⟩]
def keysL : List SpecM := [
  ⟨[99, 111, 112, 121], -3, true, false, 1, 2, 1⟩,
  ⟨[100, 98, 115, 105, 122, 101], 1, false, false, 0, 0, 0⟩,
  ⟨[100, 101, 108], -2, true, false, 1, -1, 1⟩,
  ⟨[100, 117, 109, 112], 2, false, false, 1, 1, 1⟩,
  ⟨[101, 99, 104, 111], 2, false, false, 0, 0, 0⟩,
  ⟨[101, 120, 105, 115, 116, 115], -2, false, false, 1, -1, 1⟩,
  ⟨[101, 120, 112, 105, 114, 101], -3, true, false, 1, 1, 1⟩,
  ⟨[101, 120, 112, 105, 114, 101, 97, 116], -3, true, false, 1, 1, 1⟩,
  ⟨[101, 120, 112, 105, 114, 101, 116, 105, 109, 101], 2, false, false, 1, 1, 1⟩,
  ⟨[102, 108, 117, 115, 104, 97, 108, 108], 1, true, false, 0, 0, 0⟩,
  ⟨[102, 108, 117, 115, 104, 100, 98], 1, true, false, 0, 0, 0⟩,
  ⟨[107, 101, 121, 115], 2, false, false, 0, 0, 0⟩,
  ⟨[112, 101, 114, 115, 105, 115, 116], 2, true, false, 1, 1, 1⟩,
  ⟨[112, 101, 120, 112, 105, 114, 101], -3, true, false, 1, 1, 1⟩,
  ⟨[112, 101, 120, 112, 105, 114, 101, 97, 116], -3, true, false, 1, 1, 1⟩,
  ⟨[112, 101, 120, 112, 105, 114, 101, 116, 105, 109, 101], 2, false, false, 1, 1, 1⟩,
  ⟨[112, 105, 110, 103], -1, false, false, 0, 0, 0⟩,
  ⟨[112, 116, 116, 108], 2, false, false, 1, 1, 1⟩,
  ⟨[114, 101, 110, 97, 109, 101], 3, true, false, 1, 2, 1⟩,
  ⟨[114, 101, 110, 97, 109, 101, 110, 120], 3, true, false, 1, 2, 1⟩,
  ⟨[114, 101, 115, 116, 111, 114, 101], -4, true, false, 1, 1, 1⟩,
  ⟨[115, 99, 97, 110], -2, false, false, 0, 0, 0⟩,
  ⟨[116, 116, 108], 2, false, false, 1, 1, 1⟩,
  ⟨[116, 121, 112, 101], 2, false, false, 1, 1, 1⟩,
  ⟨[117, 110, 108, 105, 110, 107], -2, true, false, 1, -1, 1⟩]
def listsL : List SpecM := [
  ⟨[108, 105, 110, 100, 101, 120], 3, false, false, 1, 1, 1⟩,
  ⟨[108, 105, 110, 115, 101, 114, 116], 5, true, false, 1, 1, 1⟩,
  ⟨[108, 108, 101, 110], 2, false, false, 1, 1, 1⟩,
  ⟨[108, 109, 111, 118, 101], 5, true, false, 1, 2, 1⟩,
  ⟨[108, 112, 111, 112], -2, true, false, 1, 1, 1⟩,
  ⟨[108, 112, 111, 115], -3, false, false, 1, 1, 1⟩,
  ⟨[108, 112, 117, 115, 104], -3, true, false, 1, 1, 1⟩,
  ⟨[108, 112, 117, 115, 104, 120], -3, true, false, 1, 1, 1⟩,
  ⟨[108, 114, 97, 110, 103, 101], 4, false, false, 1, 1, 1⟩,
  ⟨[108, 114, 101, 109], 4, true, false, 1, 1, 1⟩,
  ⟨[108, 115, 101, 116], 4, true, false, 1, 1, 1⟩,
  ⟨[108, 116, 114, 105, 109], 4, true, false, 1, 1, 1⟩,
  ⟨[114, 112, 111, 112], -2, true, false, 1, 1, 1⟩,
  ⟨[114, 112, 111, 112, 108, 112, 117, 115, 104], 3, true, false, 1, 2, 1⟩,
  ⟨[114, 112, 117, 115, 104], -3, true, false, 1, 1, 1⟩,
  ⟨[114, 112, 117, 115, 104, 120], -3, true, false, 1, 1, 1⟩]
def hashesL : List SpecM := [
  ⟨[104, 100, 101, 108], -3, true, false, 1, 1, 1⟩,
  ⟨[104, 101, 120, 105, 115, 116, 115], 3, false, false, 1, 1, 1⟩,
  ⟨[104, 103, 101, 116], 3, false, false, 1, 1, 1⟩,
  ⟨[104, 103, 101, 116, 97, 108, 108], 2, false, false, 1, 1, 1⟩,
  ⟨[104, 105, 110, 99, 114, 98, 121], 4, true, false, 1, 1, 1⟩,
  ⟨[104, 107, 101, 121, 115], 2, false, false, 1, 1, 1⟩,
  ⟨[104, 108, 101, 110], 2, false, false, 1, 1, 1⟩,
  ⟨[104, 109, 103, 101, 116], -3, false, false, 1, 1, 1⟩,
  ⟨[104, 109, 115, 101, 116], -4, true, false, 1, 1, 1⟩,
  ⟨[104, 115, 99, 97, 110], -3, false, false, 1, 1, 1⟩,
  ⟨[104, 115, 101, 116], -4, true, false, 1, 1, 1⟩,
  ⟨[104, 115, 101, 116, 110, 120], 4, true, false, 1, 1, 1⟩,
  ⟨[104, 115, 116, 114, 108, 101, 110], 3, false, false, 1, 1, 1⟩,
  ⟨[104, 118, 97, 108, 115], 2, false, false, 1, 1, 1⟩]
def setsL : List SpecM := [
  ⟨[115, 97, 100, 100], -3, true, false, 1, 1, 1⟩,
  ⟨[115, 99, 97, 114, 100], 2, false, false, 1, 1, 1⟩,
  ⟨[115, 100, 105, 102, 102], -2, false, false, 1, -1, 1⟩,
  ⟨[115, 100, 105, 102, 102, 115, 116, 111, 114, 101], -3, true, false, 1, -1, 1⟩,
  ⟨[115, 105, 110, 116, 101, 114], -2, false, false, 1, -1, 1⟩,
  ⟨[115, 105, 110, 116, 101, 114, 115, 116, 111, 114, 101], -3, true, false, 1, -1, 1⟩,
  ⟨[115, 105, 115, 109, 101, 109, 98, 101, 114], 3, false, false, 1, 1, 1⟩,
  ⟨[115, 109, 101, 109, 98, 101, 114, 115], 2, false, false, 1, 1, 1⟩,
  ⟨[115, 109, 105, 115, 109, 101, 109, 98, 101, 114], -3, false, false, 1, 1, 1⟩,
  ⟨[115, 109, 111, 118, 101], 4, true, false, 1, 2, 1⟩,
  ⟨[115, 112, 111, 112], -2, true, false, 1, 1, 1⟩,
  ⟨[115, 114, 101, 109], -3, true, false, 1, 1, 1⟩,
  ⟨[115, 115, 99, 97, 110], -3, false, false, 1, 1, 1⟩,
  ⟨[115, 117, 110, 105, 111, 110], -2, false, false, 1, -1, 1⟩,
  ⟨[115, 117, 110, 105, 111, 110, 115, 116, 111, 114, 101], -3, true, false, 1, -1, 1⟩]
def ranksL : List SpecM := [
  ⟨[122, 97, 100, 100], -4, true, false, 1, 1, 1⟩,
  ⟨[122, 99, 97, 114, 100], 2, false, false, 1, 1, 1⟩,
  ⟨[122, 99, 111, 117, 110, 116], 4, false, false, 1, 1, 1⟩,
  ⟨[122, 105, 110, 99, 114, 98, 121], 4, true, false, 1, 1, 1⟩,
  ⟨[122, 108, 101, 120, 99, 111, 117, 110, 116], 4, false, false, 1, 1, 1⟩,
  ⟨[122, 109, 115, 99, 111, 114, 101], -3, false, false, 1, 1, 1⟩,
  ⟨[122, 112, 111, 112, 109, 97, 120], -2, true, false, 1, 1, 1⟩,
  ⟨[122, 112, 111, 112, 109, 105, 110], -2, true, false, 1, 1, 1⟩,
  ⟨[122, 114, 97, 110, 103, 101], -4, false, false, 1, 1, 1⟩,
  ⟨[122, 114, 97, 110, 107], 3, false, false, 1, 1, 1⟩,
  ⟨[122, 114, 101, 109], -3, true, false, 1, 1, 1⟩,
  ⟨[122, 114, 101, 109, 114, 97, 110, 103, 101, 98, 121, 108, 101, 120], 4, true, false, 1, 1, 1⟩,
  ⟨[122, 114, 101, 109, 114, 97, 110, 103, 101, 98, 121, 114, 97, 110, 107], 4, true, false, 1, 1, 1⟩,
  ⟨[122, 114, 101, 109, 114, 97, 110, 103, 101, 98, 121, 115, 99, 111, 114, 101], 4, true, false, 1, 1, 1⟩,
  ⟨[122, 114, 101, 118, 114, 97, 110, 107], 3, false, false, 1, 1, 1⟩,
  ⟨[122, 115, 99, 97, 110], -3, false, false, 1, 1, 1⟩,
  ⟨[122, 115, 99, 111, 114, 101], 3, false, false, 1, 1, 1⟩]

def specC (s : SpecM) : List Value := [.string ⟨s.name.toArray⟩, .int .i64 s.arity, .bool s.write, .bool s.control, .int .i64 s.first, .int .i64 s.last, .int .i64 s.step]
def specsC (l : List SpecM) : List Value := l.flatMap specC
theorem specsC_len (l : List SpecM) : (specsC l).length = l.length * 7 := by
  unfold specsC
  induction l with
  | nil => rfl
  | cons x t ih => rw [List.flatMap_cons, List.length_append, ih]; simp [specC]; omega
theorem vw_new {w : World} {cs : Array Value} {T : TypeId} {sz n : Nat} {xs : List Value} (h : cs = xs.toArray) (hl : xs.length = n * sz) (hn : n ≤ maxLen) : Vw (fun b => w.heap.size ≤ b) (w.alloc (.cells cs T)) (.slice (some ⟨w.heap.size, 0, none⟩) n n) sz n xs := by
  refine ⟨⟨_, n, rfl, Nat.le_refl _, hn, .inr ⟨w.heap.size, 0, rfl, by simp, Nat.le_refl _, fun k u hk => ?_⟩⟩, hl⟩
  rw [Nat.zero_add]
  unfold World.cell?
  rw [heap_alloc_new]
  simp [h, hk]
/-- A region's operations, run where each yields a value or nothing. -/
def runList (P : Program) (ops : Array Oper) : List Oper → Act → World → Option (Act × World)
  | [], a, w => some (a, w)
  | o :: rest, a, w =>
    if Region.wanted o (yielded ops a.tmps) then
      match (execOp a.eval o).run P w with
      | .ok (.value v) w' => runList P ops rest (a.put o.dst v) w'
      | .ok .skip w' => runList P ops rest (a.put o.dst undef) w'
      | _ => none
    else runList P ops rest (a.put o.dst undef) w
theorem wpList_run {P : Program} {ops : Array Oper} {Q : Exit → Act → World → Prop} {a' : Act} {w' : World} : ∀ {os : List Oper} {a : Act} {w : World}, runList P ops os a w = some (a', w') → Q .normal a' w' → wpList P ops Q os a w
  | [], a, w, h, hq => by cases h; exact hq
  | o :: rest, a, w, h, hq => by
    unfold runList at h
    unfold wpList
    split at h
    · rename_i hw
      rw [if_pos hw]
      refine .inl ?_
      unfold Oper.wp
      split at h
      · rename_i v w2 hr
        rw [hr]
        exact wpList_run h hq
      · rename_i w2 hr
        rw [hr]
        exact wpList_run h hq
      · cases h
    · rename_i hw
      rw [if_neg hw]
      exact wpList_run h hq
def TDid (L : List SpecM) (n : Nat) (w : World) (e : Ending) (w' : World) : Prop := ∃ v, e = .returned v ∧ Vw (fun b => w.heap.size ≤ b) w' v 7 n (specsC L) ∧ Below w.heap.size w w'
set_option maxRecDepth 20000 in
set_option maxHeartbeats 1000000 in
theorem tcontrol_ok (w : World) : Calls Tryz.prog 85 #[] w (TDid controlL 7 w) := by
  go_enter Tryz.func85, Tryz.ntmps85
  refine wp_seq (wp_region_lit (wpList_run (a' := ⟨#[.slice none 0 0, undef, undef, undef, undef, undef, undef, undef, undef], []⟩) (w' := w) (by kernel_rfl) ?_))
  refine wp_seq (wp_region_lit (wpList_run (a' := ⟨#[.slice (some ⟨w.heap.size, 0, none⟩) 7 7, .agg #[.string ⟨#[100, 105, 115, 99, 97, 114, 100]⟩, .int .i64 1, .bool false, .bool true, .int .i64 0, .int .i64 0, .int .i64 0], .agg #[.string ⟨#[101, 120, 101, 99]⟩, .int .i64 1, .bool false, .bool true, .int .i64 0, .int .i64 0, .int .i64 0], .agg #[.string ⟨#[109, 117, 108, 116, 105]⟩, .int .i64 1, .bool false, .bool true, .int .i64 0, .int .i64 0, .int .i64 0], .agg #[.string ⟨#[113, 117, 105, 116]⟩, .int .i64 1, .bool false, .bool true, .int .i64 0, .int .i64 0, .int .i64 0], .agg #[.string ⟨#[114, 101, 115, 101, 116]⟩, .int .i64 1, .bool false, .bool true, .int .i64 0, .int .i64 0, .int .i64 0], .agg #[.string ⟨#[117, 110, 119, 97, 116, 99, 104]⟩, .int .i64 1, .bool false, .bool true, .int .i64 0, .int .i64 0, .int .i64 0], .agg #[.string ⟨#[119, 97, 116, 99, 104]⟩, .int .i64 (-2), .bool false, .bool true, .int .i64 1, .int .i64 (-1), .int .i64 1], .slice (some ⟨w.heap.size, 0, none⟩) 7 7], []⟩) (w' := (w.alloc (.cells (specsC controlL).toArray 54))) (by kernel_rfl) ?_))
  refine wp_ret ?_
  exact bodyPost_ret (results_tmp rfl _ _ _) rfl ⟨_, rfl, vw_new rfl (specsC_len _) (by decide), (Below.refl _ _).alloc (Nat.le_refl _) _⟩
set_option maxRecDepth 20000 in
set_option maxHeartbeats 1000000 in
theorem ttexts_ok (w : World) : Calls Tryz.prog 86 #[] w (TDid textsL 24 w) := by
  go_enter Tryz.func86, Tryz.ntmps86
  refine wp_seq (wp_region_lit (wpList_run (a' := ⟨#[.slice none 0 0, undef, undef, undef, undef, undef, undef, undef, undef, undef, undef, undef, undef, undef, undef, undef, undef, undef, undef, undef, undef, undef, undef, undef, undef, undef], []⟩) (w' := w) (by kernel_rfl) ?_))
  refine wp_seq (wp_region_lit (wpList_run (a' := ⟨#[.slice (some ⟨w.heap.size, 0, none⟩) 24 24, .agg #[.string ⟨#[97, 112, 112, 101, 110, 100]⟩, .int .i64 3, .bool true, .bool false, .int .i64 1, .int .i64 1, .int .i64 1], .agg #[.string ⟨#[98, 105, 116, 99, 111, 117, 110, 116]⟩, .int .i64 (-2), .bool false, .bool false, .int .i64 1, .int .i64 1, .int .i64 1], .agg #[.string ⟨#[98, 105, 116, 111, 112]⟩, .int .i64 (-4), .bool true, .bool false, .int .i64 2, .int .i64 (-1), .int .i64 1], .agg #[.string ⟨#[98, 105, 116, 112, 111, 115]⟩, .int .i64 (-3), .bool false, .bool false, .int .i64 1, .int .i64 1, .int .i64 1], .agg #[.string ⟨#[100, 101, 99, 114]⟩, .int .i64 2, .bool true, .bool false, .int .i64 1, .int .i64 1, .int .i64 1], .agg #[.string ⟨#[100, 101, 99, 114, 98, 121]⟩, .int .i64 3, .bool true, .bool false, .int .i64 1, .int .i64 1, .int .i64 1], .agg #[.string ⟨#[103, 101, 116]⟩, .int .i64 2, .bool false, .bool false, .int .i64 1, .int .i64 1, .int .i64 1], .agg #[.string ⟨#[103, 101, 116, 98, 105, 116]⟩, .int .i64 3, .bool false, .bool false, .int .i64 1, .int .i64 1, .int .i64 1], .agg #[.string ⟨#[103, 101, 116, 100, 101, 108]⟩, .int .i64 2, .bool true, .bool false, .int .i64 1, .int .i64 1, .int .i64 1], .agg #[.string ⟨#[103, 101, 116, 101, 120]⟩, .int .i64 (-2), .bool true, .bool false, .int .i64 1, .int .i64 1, .int .i64 1], .agg #[.string ⟨#[103, 101, 116, 114, 97, 110, 103, 101]⟩, .int .i64 4, .bool false, .bool false, .int .i64 1, .int .i64 1, .int .i64 1], .agg #[.string ⟨#[103, 101, 116, 115, 101, 116]⟩, .int .i64 3, .bool true, .bool false, .int .i64 1, .int .i64 1, .int .i64 1], .agg #[.string ⟨#[105, 110, 99, 114]⟩, .int .i64 2, .bool true, .bool false, .int .i64 1, .int .i64 1, .int .i64 1], .agg #[.string ⟨#[105, 110, 99, 114, 98, 121]⟩, .int .i64 3, .bool true, .bool false, .int .i64 1, .int .i64 1, .int .i64 1], .agg #[.string ⟨#[109, 103, 101, 116]⟩, .int .i64 (-2), .bool false, .bool false, .int .i64 1, .int .i64 (-1), .int .i64 1], .agg #[.string ⟨#[109, 115, 101, 116]⟩, .int .i64 (-3), .bool true, .bool false, .int .i64 1, .int .i64 (-1), .int .i64 2], .agg #[.string ⟨#[109, 115, 101, 116, 110, 120]⟩, .int .i64 (-3), .bool true, .bool false, .int .i64 1, .int .i64 (-1), .int .i64 2], .agg #[.string ⟨#[112, 115, 101, 116, 101, 120]⟩, .int .i64 4, .bool true, .bool false, .int .i64 1, .int .i64 1, .int .i64 1], .agg #[.string ⟨#[115, 101, 116]⟩, .int .i64 (-3), .bool true, .bool false, .int .i64 1, .int .i64 1, .int .i64 1], .agg #[.string ⟨#[115, 101, 116, 98, 105, 116]⟩, .int .i64 4, .bool true, .bool false, .int .i64 1, .int .i64 1, .int .i64 1], .agg #[.string ⟨#[115, 101, 116, 101, 120]⟩, .int .i64 4, .bool true, .bool false, .int .i64 1, .int .i64 1, .int .i64 1], .agg #[.string ⟨#[115, 101, 116, 110, 120]⟩, .int .i64 3, .bool true, .bool false, .int .i64 1, .int .i64 1, .int .i64 1], .agg #[.string ⟨#[115, 101, 116, 114, 97, 110, 103, 101]⟩, .int .i64 4, .bool true, .bool false, .int .i64 1, .int .i64 1, .int .i64 1], .agg #[.string ⟨#[115, 116, 114, 108, 101, 110]⟩, .int .i64 2, .bool false, .bool false, .int .i64 1, .int .i64 1, .int .i64 1], .slice (some ⟨w.heap.size, 0, none⟩) 24 24], []⟩) (w' := (w.alloc (.cells (specsC textsL).toArray 54))) (by kernel_rfl) ?_))
  refine wp_ret ?_
  exact bodyPost_ret (results_tmp rfl _ _ _) rfl ⟨_, rfl, vw_new rfl (specsC_len _) (by decide), (Below.refl _ _).alloc (Nat.le_refl _) _⟩
set_option maxRecDepth 20000 in
set_option maxHeartbeats 1000000 in
theorem tkeys_ok (w : World) : Calls Tryz.prog 87 #[] w (TDid keysL 25 w) := by
  go_enter Tryz.func87, Tryz.ntmps87
  refine wp_seq (wp_region_lit (wpList_run (a' := ⟨#[.slice none 0 0, undef, undef, undef, undef, undef, undef, undef, undef, undef, undef, undef, undef, undef, undef, undef, undef, undef, undef, undef, undef, undef, undef, undef, undef, undef, undef], []⟩) (w' := w) (by kernel_rfl) ?_))
  refine wp_seq (wp_region_lit (wpList_run (a' := ⟨#[.slice (some ⟨w.heap.size, 0, none⟩) 25 25, .agg #[.string ⟨#[99, 111, 112, 121]⟩, .int .i64 (-3), .bool true, .bool false, .int .i64 1, .int .i64 2, .int .i64 1], .agg #[.string ⟨#[100, 98, 115, 105, 122, 101]⟩, .int .i64 1, .bool false, .bool false, .int .i64 0, .int .i64 0, .int .i64 0], .agg #[.string ⟨#[100, 101, 108]⟩, .int .i64 (-2), .bool true, .bool false, .int .i64 1, .int .i64 (-1), .int .i64 1], .agg #[.string ⟨#[100, 117, 109, 112]⟩, .int .i64 2, .bool false, .bool false, .int .i64 1, .int .i64 1, .int .i64 1], .agg #[.string ⟨#[101, 99, 104, 111]⟩, .int .i64 2, .bool false, .bool false, .int .i64 0, .int .i64 0, .int .i64 0], .agg #[.string ⟨#[101, 120, 105, 115, 116, 115]⟩, .int .i64 (-2), .bool false, .bool false, .int .i64 1, .int .i64 (-1), .int .i64 1], .agg #[.string ⟨#[101, 120, 112, 105, 114, 101]⟩, .int .i64 (-3), .bool true, .bool false, .int .i64 1, .int .i64 1, .int .i64 1], .agg #[.string ⟨#[101, 120, 112, 105, 114, 101, 97, 116]⟩, .int .i64 (-3), .bool true, .bool false, .int .i64 1, .int .i64 1, .int .i64 1], .agg #[.string ⟨#[101, 120, 112, 105, 114, 101, 116, 105, 109, 101]⟩, .int .i64 2, .bool false, .bool false, .int .i64 1, .int .i64 1, .int .i64 1], .agg #[.string ⟨#[102, 108, 117, 115, 104, 97, 108, 108]⟩, .int .i64 1, .bool true, .bool false, .int .i64 0, .int .i64 0, .int .i64 0], .agg #[.string ⟨#[102, 108, 117, 115, 104, 100, 98]⟩, .int .i64 1, .bool true, .bool false, .int .i64 0, .int .i64 0, .int .i64 0], .agg #[.string ⟨#[107, 101, 121, 115]⟩, .int .i64 2, .bool false, .bool false, .int .i64 0, .int .i64 0, .int .i64 0], .agg #[.string ⟨#[112, 101, 114, 115, 105, 115, 116]⟩, .int .i64 2, .bool true, .bool false, .int .i64 1, .int .i64 1, .int .i64 1], .agg #[.string ⟨#[112, 101, 120, 112, 105, 114, 101]⟩, .int .i64 (-3), .bool true, .bool false, .int .i64 1, .int .i64 1, .int .i64 1], .agg #[.string ⟨#[112, 101, 120, 112, 105, 114, 101, 97, 116]⟩, .int .i64 (-3), .bool true, .bool false, .int .i64 1, .int .i64 1, .int .i64 1], .agg #[.string ⟨#[112, 101, 120, 112, 105, 114, 101, 116, 105, 109, 101]⟩, .int .i64 2, .bool false, .bool false, .int .i64 1, .int .i64 1, .int .i64 1], .agg #[.string ⟨#[112, 105, 110, 103]⟩, .int .i64 (-1), .bool false, .bool false, .int .i64 0, .int .i64 0, .int .i64 0], .agg #[.string ⟨#[112, 116, 116, 108]⟩, .int .i64 2, .bool false, .bool false, .int .i64 1, .int .i64 1, .int .i64 1], .agg #[.string ⟨#[114, 101, 110, 97, 109, 101]⟩, .int .i64 3, .bool true, .bool false, .int .i64 1, .int .i64 2, .int .i64 1], .agg #[.string ⟨#[114, 101, 110, 97, 109, 101, 110, 120]⟩, .int .i64 3, .bool true, .bool false, .int .i64 1, .int .i64 2, .int .i64 1], .agg #[.string ⟨#[114, 101, 115, 116, 111, 114, 101]⟩, .int .i64 (-4), .bool true, .bool false, .int .i64 1, .int .i64 1, .int .i64 1], .agg #[.string ⟨#[115, 99, 97, 110]⟩, .int .i64 (-2), .bool false, .bool false, .int .i64 0, .int .i64 0, .int .i64 0], .agg #[.string ⟨#[116, 116, 108]⟩, .int .i64 2, .bool false, .bool false, .int .i64 1, .int .i64 1, .int .i64 1], .agg #[.string ⟨#[116, 121, 112, 101]⟩, .int .i64 2, .bool false, .bool false, .int .i64 1, .int .i64 1, .int .i64 1], .agg #[.string ⟨#[117, 110, 108, 105, 110, 107]⟩, .int .i64 (-2), .bool true, .bool false, .int .i64 1, .int .i64 (-1), .int .i64 1], .slice (some ⟨w.heap.size, 0, none⟩) 25 25], []⟩) (w' := (w.alloc (.cells (specsC keysL).toArray 54))) (by kernel_rfl) ?_))
  refine wp_ret ?_
  exact bodyPost_ret (results_tmp rfl _ _ _) rfl ⟨_, rfl, vw_new rfl (specsC_len _) (by decide), (Below.refl _ _).alloc (Nat.le_refl _) _⟩
set_option maxRecDepth 20000 in
set_option maxHeartbeats 1000000 in
theorem tlists_ok (w : World) : Calls Tryz.prog 88 #[] w (TDid listsL 16 w) := by
  go_enter Tryz.func88, Tryz.ntmps88
  refine wp_seq (wp_region_lit (wpList_run (a' := ⟨#[.slice none 0 0, undef, undef, undef, undef, undef, undef, undef, undef, undef, undef, undef, undef, undef, undef, undef, undef, undef], []⟩) (w' := w) (by kernel_rfl) ?_))
  refine wp_seq (wp_region_lit (wpList_run (a' := ⟨#[.slice (some ⟨w.heap.size, 0, none⟩) 16 16, .agg #[.string ⟨#[108, 105, 110, 100, 101, 120]⟩, .int .i64 3, .bool false, .bool false, .int .i64 1, .int .i64 1, .int .i64 1], .agg #[.string ⟨#[108, 105, 110, 115, 101, 114, 116]⟩, .int .i64 5, .bool true, .bool false, .int .i64 1, .int .i64 1, .int .i64 1], .agg #[.string ⟨#[108, 108, 101, 110]⟩, .int .i64 2, .bool false, .bool false, .int .i64 1, .int .i64 1, .int .i64 1], .agg #[.string ⟨#[108, 109, 111, 118, 101]⟩, .int .i64 5, .bool true, .bool false, .int .i64 1, .int .i64 2, .int .i64 1], .agg #[.string ⟨#[108, 112, 111, 112]⟩, .int .i64 (-2), .bool true, .bool false, .int .i64 1, .int .i64 1, .int .i64 1], .agg #[.string ⟨#[108, 112, 111, 115]⟩, .int .i64 (-3), .bool false, .bool false, .int .i64 1, .int .i64 1, .int .i64 1], .agg #[.string ⟨#[108, 112, 117, 115, 104]⟩, .int .i64 (-3), .bool true, .bool false, .int .i64 1, .int .i64 1, .int .i64 1], .agg #[.string ⟨#[108, 112, 117, 115, 104, 120]⟩, .int .i64 (-3), .bool true, .bool false, .int .i64 1, .int .i64 1, .int .i64 1], .agg #[.string ⟨#[108, 114, 97, 110, 103, 101]⟩, .int .i64 4, .bool false, .bool false, .int .i64 1, .int .i64 1, .int .i64 1], .agg #[.string ⟨#[108, 114, 101, 109]⟩, .int .i64 4, .bool true, .bool false, .int .i64 1, .int .i64 1, .int .i64 1], .agg #[.string ⟨#[108, 115, 101, 116]⟩, .int .i64 4, .bool true, .bool false, .int .i64 1, .int .i64 1, .int .i64 1], .agg #[.string ⟨#[108, 116, 114, 105, 109]⟩, .int .i64 4, .bool true, .bool false, .int .i64 1, .int .i64 1, .int .i64 1], .agg #[.string ⟨#[114, 112, 111, 112]⟩, .int .i64 (-2), .bool true, .bool false, .int .i64 1, .int .i64 1, .int .i64 1], .agg #[.string ⟨#[114, 112, 111, 112, 108, 112, 117, 115, 104]⟩, .int .i64 3, .bool true, .bool false, .int .i64 1, .int .i64 2, .int .i64 1], .agg #[.string ⟨#[114, 112, 117, 115, 104]⟩, .int .i64 (-3), .bool true, .bool false, .int .i64 1, .int .i64 1, .int .i64 1], .agg #[.string ⟨#[114, 112, 117, 115, 104, 120]⟩, .int .i64 (-3), .bool true, .bool false, .int .i64 1, .int .i64 1, .int .i64 1], .slice (some ⟨w.heap.size, 0, none⟩) 16 16], []⟩) (w' := (w.alloc (.cells (specsC listsL).toArray 54))) (by kernel_rfl) ?_))
  refine wp_ret ?_
  exact bodyPost_ret (results_tmp rfl _ _ _) rfl ⟨_, rfl, vw_new rfl (specsC_len _) (by decide), (Below.refl _ _).alloc (Nat.le_refl _) _⟩
set_option maxRecDepth 20000 in
set_option maxHeartbeats 1000000 in
theorem thashes_ok (w : World) : Calls Tryz.prog 89 #[] w (TDid hashesL 14 w) := by
  go_enter Tryz.func89, Tryz.ntmps89
  refine wp_seq (wp_region_lit (wpList_run (a' := ⟨#[.slice none 0 0, undef, undef, undef, undef, undef, undef, undef, undef, undef, undef, undef, undef, undef, undef, undef], []⟩) (w' := w) (by kernel_rfl) ?_))
  refine wp_seq (wp_region_lit (wpList_run (a' := ⟨#[.slice (some ⟨w.heap.size, 0, none⟩) 14 14, .agg #[.string ⟨#[104, 100, 101, 108]⟩, .int .i64 (-3), .bool true, .bool false, .int .i64 1, .int .i64 1, .int .i64 1], .agg #[.string ⟨#[104, 101, 120, 105, 115, 116, 115]⟩, .int .i64 3, .bool false, .bool false, .int .i64 1, .int .i64 1, .int .i64 1], .agg #[.string ⟨#[104, 103, 101, 116]⟩, .int .i64 3, .bool false, .bool false, .int .i64 1, .int .i64 1, .int .i64 1], .agg #[.string ⟨#[104, 103, 101, 116, 97, 108, 108]⟩, .int .i64 2, .bool false, .bool false, .int .i64 1, .int .i64 1, .int .i64 1], .agg #[.string ⟨#[104, 105, 110, 99, 114, 98, 121]⟩, .int .i64 4, .bool true, .bool false, .int .i64 1, .int .i64 1, .int .i64 1], .agg #[.string ⟨#[104, 107, 101, 121, 115]⟩, .int .i64 2, .bool false, .bool false, .int .i64 1, .int .i64 1, .int .i64 1], .agg #[.string ⟨#[104, 108, 101, 110]⟩, .int .i64 2, .bool false, .bool false, .int .i64 1, .int .i64 1, .int .i64 1], .agg #[.string ⟨#[104, 109, 103, 101, 116]⟩, .int .i64 (-3), .bool false, .bool false, .int .i64 1, .int .i64 1, .int .i64 1], .agg #[.string ⟨#[104, 109, 115, 101, 116]⟩, .int .i64 (-4), .bool true, .bool false, .int .i64 1, .int .i64 1, .int .i64 1], .agg #[.string ⟨#[104, 115, 99, 97, 110]⟩, .int .i64 (-3), .bool false, .bool false, .int .i64 1, .int .i64 1, .int .i64 1], .agg #[.string ⟨#[104, 115, 101, 116]⟩, .int .i64 (-4), .bool true, .bool false, .int .i64 1, .int .i64 1, .int .i64 1], .agg #[.string ⟨#[104, 115, 101, 116, 110, 120]⟩, .int .i64 4, .bool true, .bool false, .int .i64 1, .int .i64 1, .int .i64 1], .agg #[.string ⟨#[104, 115, 116, 114, 108, 101, 110]⟩, .int .i64 3, .bool false, .bool false, .int .i64 1, .int .i64 1, .int .i64 1], .agg #[.string ⟨#[104, 118, 97, 108, 115]⟩, .int .i64 2, .bool false, .bool false, .int .i64 1, .int .i64 1, .int .i64 1], .slice (some ⟨w.heap.size, 0, none⟩) 14 14], []⟩) (w' := (w.alloc (.cells (specsC hashesL).toArray 54))) (by kernel_rfl) ?_))
  refine wp_ret ?_
  exact bodyPost_ret (results_tmp rfl _ _ _) rfl ⟨_, rfl, vw_new rfl (specsC_len _) (by decide), (Below.refl _ _).alloc (Nat.le_refl _) _⟩
set_option maxRecDepth 20000 in
set_option maxHeartbeats 1000000 in
theorem tsets_ok (w : World) : Calls Tryz.prog 90 #[] w (TDid setsL 15 w) := by
  go_enter Tryz.func90, Tryz.ntmps90
  refine wp_seq (wp_region_lit (wpList_run (a' := ⟨#[.slice none 0 0, undef, undef, undef, undef, undef, undef, undef, undef, undef, undef, undef, undef, undef, undef, undef, undef], []⟩) (w' := w) (by kernel_rfl) ?_))
  refine wp_seq (wp_region_lit (wpList_run (a' := ⟨#[.slice (some ⟨w.heap.size, 0, none⟩) 15 15, .agg #[.string ⟨#[115, 97, 100, 100]⟩, .int .i64 (-3), .bool true, .bool false, .int .i64 1, .int .i64 1, .int .i64 1], .agg #[.string ⟨#[115, 99, 97, 114, 100]⟩, .int .i64 2, .bool false, .bool false, .int .i64 1, .int .i64 1, .int .i64 1], .agg #[.string ⟨#[115, 100, 105, 102, 102]⟩, .int .i64 (-2), .bool false, .bool false, .int .i64 1, .int .i64 (-1), .int .i64 1], .agg #[.string ⟨#[115, 100, 105, 102, 102, 115, 116, 111, 114, 101]⟩, .int .i64 (-3), .bool true, .bool false, .int .i64 1, .int .i64 (-1), .int .i64 1], .agg #[.string ⟨#[115, 105, 110, 116, 101, 114]⟩, .int .i64 (-2), .bool false, .bool false, .int .i64 1, .int .i64 (-1), .int .i64 1], .agg #[.string ⟨#[115, 105, 110, 116, 101, 114, 115, 116, 111, 114, 101]⟩, .int .i64 (-3), .bool true, .bool false, .int .i64 1, .int .i64 (-1), .int .i64 1], .agg #[.string ⟨#[115, 105, 115, 109, 101, 109, 98, 101, 114]⟩, .int .i64 3, .bool false, .bool false, .int .i64 1, .int .i64 1, .int .i64 1], .agg #[.string ⟨#[115, 109, 101, 109, 98, 101, 114, 115]⟩, .int .i64 2, .bool false, .bool false, .int .i64 1, .int .i64 1, .int .i64 1], .agg #[.string ⟨#[115, 109, 105, 115, 109, 101, 109, 98, 101, 114]⟩, .int .i64 (-3), .bool false, .bool false, .int .i64 1, .int .i64 1, .int .i64 1], .agg #[.string ⟨#[115, 109, 111, 118, 101]⟩, .int .i64 4, .bool true, .bool false, .int .i64 1, .int .i64 2, .int .i64 1], .agg #[.string ⟨#[115, 112, 111, 112]⟩, .int .i64 (-2), .bool true, .bool false, .int .i64 1, .int .i64 1, .int .i64 1], .agg #[.string ⟨#[115, 114, 101, 109]⟩, .int .i64 (-3), .bool true, .bool false, .int .i64 1, .int .i64 1, .int .i64 1], .agg #[.string ⟨#[115, 115, 99, 97, 110]⟩, .int .i64 (-3), .bool false, .bool false, .int .i64 1, .int .i64 1, .int .i64 1], .agg #[.string ⟨#[115, 117, 110, 105, 111, 110]⟩, .int .i64 (-2), .bool false, .bool false, .int .i64 1, .int .i64 (-1), .int .i64 1], .agg #[.string ⟨#[115, 117, 110, 105, 111, 110, 115, 116, 111, 114, 101]⟩, .int .i64 (-3), .bool true, .bool false, .int .i64 1, .int .i64 (-1), .int .i64 1], .slice (some ⟨w.heap.size, 0, none⟩) 15 15], []⟩) (w' := (w.alloc (.cells (specsC setsL).toArray 54))) (by kernel_rfl) ?_))
  refine wp_ret ?_
  exact bodyPost_ret (results_tmp rfl _ _ _) rfl ⟨_, rfl, vw_new rfl (specsC_len _) (by decide), (Below.refl _ _).alloc (Nat.le_refl _) _⟩
set_option maxRecDepth 20000 in
set_option maxHeartbeats 1000000 in
theorem tranks_ok (w : World) : Calls Tryz.prog 91 #[] w (TDid ranksL 17 w) := by
  go_enter Tryz.func91, Tryz.ntmps91
  refine wp_seq (wp_region_lit (wpList_run (a' := ⟨#[.slice none 0 0, undef, undef, undef, undef, undef, undef, undef, undef, undef, undef, undef, undef, undef, undef, undef, undef, undef, undef], []⟩) (w' := w) (by kernel_rfl) ?_))
  refine wp_seq (wp_region_lit (wpList_run (a' := ⟨#[.slice (some ⟨w.heap.size, 0, none⟩) 17 17, .agg #[.string ⟨#[122, 97, 100, 100]⟩, .int .i64 (-4), .bool true, .bool false, .int .i64 1, .int .i64 1, .int .i64 1], .agg #[.string ⟨#[122, 99, 97, 114, 100]⟩, .int .i64 2, .bool false, .bool false, .int .i64 1, .int .i64 1, .int .i64 1], .agg #[.string ⟨#[122, 99, 111, 117, 110, 116]⟩, .int .i64 4, .bool false, .bool false, .int .i64 1, .int .i64 1, .int .i64 1], .agg #[.string ⟨#[122, 105, 110, 99, 114, 98, 121]⟩, .int .i64 4, .bool true, .bool false, .int .i64 1, .int .i64 1, .int .i64 1], .agg #[.string ⟨#[122, 108, 101, 120, 99, 111, 117, 110, 116]⟩, .int .i64 4, .bool false, .bool false, .int .i64 1, .int .i64 1, .int .i64 1], .agg #[.string ⟨#[122, 109, 115, 99, 111, 114, 101]⟩, .int .i64 (-3), .bool false, .bool false, .int .i64 1, .int .i64 1, .int .i64 1], .agg #[.string ⟨#[122, 112, 111, 112, 109, 97, 120]⟩, .int .i64 (-2), .bool true, .bool false, .int .i64 1, .int .i64 1, .int .i64 1], .agg #[.string ⟨#[122, 112, 111, 112, 109, 105, 110]⟩, .int .i64 (-2), .bool true, .bool false, .int .i64 1, .int .i64 1, .int .i64 1], .agg #[.string ⟨#[122, 114, 97, 110, 103, 101]⟩, .int .i64 (-4), .bool false, .bool false, .int .i64 1, .int .i64 1, .int .i64 1], .agg #[.string ⟨#[122, 114, 97, 110, 107]⟩, .int .i64 3, .bool false, .bool false, .int .i64 1, .int .i64 1, .int .i64 1], .agg #[.string ⟨#[122, 114, 101, 109]⟩, .int .i64 (-3), .bool true, .bool false, .int .i64 1, .int .i64 1, .int .i64 1], .agg #[.string ⟨#[122, 114, 101, 109, 114, 97, 110, 103, 101, 98, 121, 108, 101, 120]⟩, .int .i64 4, .bool true, .bool false, .int .i64 1, .int .i64 1, .int .i64 1], .agg #[.string ⟨#[122, 114, 101, 109, 114, 97, 110, 103, 101, 98, 121, 114, 97, 110, 107]⟩, .int .i64 4, .bool true, .bool false, .int .i64 1, .int .i64 1, .int .i64 1], .agg #[.string ⟨#[122, 114, 101, 109, 114, 97, 110, 103, 101, 98, 121, 115, 99, 111, 114, 101]⟩, .int .i64 4, .bool true, .bool false, .int .i64 1, .int .i64 1, .int .i64 1], .agg #[.string ⟨#[122, 114, 101, 118, 114, 97, 110, 107]⟩, .int .i64 3, .bool false, .bool false, .int .i64 1, .int .i64 1, .int .i64 1], .agg #[.string ⟨#[122, 115, 99, 97, 110]⟩, .int .i64 (-3), .bool false, .bool false, .int .i64 1, .int .i64 1, .int .i64 1], .agg #[.string ⟨#[122, 115, 99, 111, 114, 101]⟩, .int .i64 3, .bool false, .bool false, .int .i64 1, .int .i64 1, .int .i64 1], .slice (some ⟨w.heap.size, 0, none⟩) 17 17], []⟩) (w' := (w.alloc (.cells (specsC ranksL).toArray 54))) (by kernel_rfl) ?_))
  refine wp_ret ?_
  exact bodyPost_ret (results_tmp rfl _ _ _) rfl ⟨_, rfl, vw_new rfl (specsC_len _) (by decide), (Below.refl _ _).alloc (Nat.le_refl _) _⟩
end Go.Proofs.YtcgecgilkapjaaaGreatDoor
namespace Go.Proofs.YtcgecgilkapjaaaGreatDoor
open Go Go.RowKit
/-! slices.Grow and slices.Concat at the table's rows. -/
abbrev zSpec : Value := .agg #[.string ⟨#[]⟩, .int .i64 0, .bool false, .bool false, .int .i64 0, .int .i64 0, .int .i64 0]
theorem infoSpec : (Tryz.prog.info? 54).map (fun i => (i.zero, i.size, i.bytes)) = some (some zSpec, 7, 56) := by kernel_rfl
set_option maxRecDepth 10000 in
theorem growNil_ok (w : World) (n : Nat) (h0 : 0 < n) (h1 : n ≤ 1048576) : Calls Tryz.prog 148 #[.slice none 0 0, .int .i64 n] w fun e w' => ∃ v' o', e = .returned v' ∧ Row o' w' [9] 54 7 v' 0 [] ∧ Stp [9] none0 w o' w' := by
  obtain ⟨i0, hi0, hz0, hz1, hz2⟩ := info_parts infoSpec
  have hrun := Lib.run_append_nil_zeros (P := Tryz.prog) w 97 3 97 54 i0 zSpec .i64 .i64 Tryz.underlying97 Tryz.underlying3 hi0 hz0 n h0 (by omega) (by omega) (by rw [hz2]; omega)
  have hge := grownCap_ge w n 0 54
  have hle := grownCap_le_maxLen w n 0 54 (by unfold maxLen; omega)
  generalize hG : grownCap w n 0 54 = G at *
  have hs1 : ∀ W, (Instr.slice 97 (.slice none 0 0) none (some (.int .i64 0)) none).run Tryz.prog W = .ok (.slice none 0 0) W := fun W => by
    simp [Instr.slice, run_underlying Tryz.underlying97, Instr.sliceBounds, Instr.sliceBound, asIntOf, sizeOf, typeInfo, hi0]
  have hs2 : ∀ W, (Instr.slice 97 (.slice (some ⟨w.heap.size, 0, none⟩) n G) none (some (.int .i64 0)) none).run Tryz.prog W = .ok (.slice (some ⟨w.heap.size, 0, none⟩) 0 G) W := fun W => by
    simp [Instr.slice, run_underlying Tryz.underlying97, Instr.sliceBounds, Instr.sliceBound, asIntOf, sizeOf, typeInfo, hi0, Addr.add]
  have hR : Row (none0.put w.heap.size [9]) (w.drew.alloc (.cells (Builtin.zeroCells zSpec.cells n ++ Builtin.zeroCells zSpec.cells (G - n)) 54)) [9] 54 7 (.slice (some ⟨w.heap.size, 0, none⟩) 0 G) 0 [] := by
    refine ⟨⟨by simp, .inr ⟨w.heap.size, G, _, rfl, Nat.zero_le _, heap_alloc_new w.drew _, Nat.zero_le _, hle, ?_, by simp⟩⟩, fun g hg => ?_⟩
    · simp only [Array.size_append, size_zeroCells, Value.cells, List.size_toArray, List.length_cons, List.length_nil]
      omega
    · simp only [Value.ownBlock, Option.some.injEq] at hg
      subst hg; exact Roles.put_same _ _ _
  have hST : Stp [9] none0 w (none0.put w.heap.size [9]) (w.drew.alloc (.cells (Builtin.zeroCells zSpec.cells n ++ Builtin.zeroCells zSpec.cells (G - n)) 54)) := (Stp.refl [9] none0 w).drew.alloc (r' := [9]) _ w.heap.size rfl
  have HR := Lib.hid hR
  have HST := Lib.hid hST
  have d0 : decide ((n : Int) < 0) = false := by simp
  have d1 : decide (0 < (n : Int)) = true := by simpa using h0
  clear hR hST hi0 hz0 hz1 hz2 hG hge hle
  go_enter Tryz.func148, Tryz.ntmps148
  go_wp2_with (
    at_builtin
    refine Lib.wpList_append_run _ rfl _ _ 97 3 rfl _ _ rfl rfl _ _ hrun ?_)
  go_ret
  exact ⟨_, _, rfl, HR.out, HST.out⟩
theorem specsC_one (l : List SpecM) : ∀ u ∈ specsC l, u.oneCell' = true := by
  intro u hu
  obtain ⟨x, _, hx⟩ := List.mem_flatMap.1 hu
  simp [specC] at hx
  rcases hx with rfl | rfl | rfl | rfl | rfl | rfl | rfl <;> rfl
abbrev catN (vs : List (Value × List SpecM)) : Nat := (vs.map fun p => p.2.length).sum
theorem catN_take {vs : List (Value × List SpecM)} {k : Nat} {x : Value × List SpecM} (h : vs[k]? = some x) : catN (vs.take (k + 1)) = catN (vs.take k) + x.2.length := by
  unfold catN; rw [List.take_add_one, h]; simp
theorem catN_le (vs : List (Value × List SpecM)) (k : Nat) : catN (vs.take k) ≤ catN vs := by
  unfold catN
  induction vs generalizing k with
  | nil => simp
  | cons y t ih => cases k with
    | zero => simp
    | succ k => have := ih k; simp only [List.take_succ_cons, List.map_cons, List.sum_cons]; omega
abbrev catL (vs : List (Value × List SpecM)) : List SpecM := (vs.map (·.2)).flatten
theorem catL_take {vs : List (Value × List SpecM)} {k : Nat} {x : Value × List SpecM} (h : vs[k]? = some x) : catL (vs.take (k + 1)) = catL (vs.take k) ++ x.2 := by
  unfold catL; rw [List.take_add_one, h]; simp
theorem catL_len (vs : List (Value × List SpecM)) : (catL vs).length = catN vs := by
  unfold catL catN
  induction vs with
  | nil => rfl
  | cons y t ih => simp only [List.map_cons, List.flatten_cons, List.length_append, List.sum_cons, ih]
theorem specsC_app (a b : List SpecM) : specsC (a ++ b) = specsC a ++ specsC b := by unfold specsC; exact List.flatMap_append
structure CatArg (A : Nat → Prop) (w : World) (b off : Nat) (vs : List (Value × List SpecM)) : Prop where
  cell : ∀ (i : Nat) x, vs[i]? = some x → w.cell? ⟨b, off + i, none⟩ = some x.1 ∧ Vw A w x.1 7 x.2.length (specsC x.2)
  lt : b < w.heap.size
def CatRel (w : World) (vs : List (Value × List SpecM)) (v i : Value) (wr : World) : Prop :=
  ∃ k o', k ≤ vs.length ∧ i = .int .i64 ((k : Nat) : Int) ∧ Row o' wr [9] 54 7 v (catN (vs.take k)) (specsC (catL (vs.take k))) ∧ Stp [9] none0 w o' wr
set_option maxRecDepth 10000 in
set_option maxHeartbeats 1000000 in
theorem concat_ok {A : Nat → Prop} {w : World} {b off cap : Nat} {vs : List (Value × List SpecM)} (h : CatArg A w b off vs) (h0 : 0 < catN vs) (h1 : catN vs ≤ 1048576) (hl : vs.length ≤ 1048576) :
    Calls Tryz.prog 84 #[.slice (some ⟨b, off, none⟩) vs.length cap] w fun e w' => ∃ v', e = .returned v' ∧ Fresh w w' 54 7 v' (catN vs) (specsC (catL vs)) := by
  have HG := Lib.hid (growNil_ok w (catN vs) h0 h1)
  have HH := Lib.hid h
  clear h
  go_enter Tryz.func84, Tryz.ntmps84
  go_wp2_with fail
  go_loopw [3, 11] (fun s i wr => wr = w ∧ ∃ k : Nat, k ≤ vs.length ∧ i = .int .i64 (k : Int) ∧ s = .int .i64 (catN (vs.take k) : Nat)) (fun _ i _ => vs.length - (intOf i).toNat)
  case atStart => exact ⟨rfl, 0, Nat.zero_le _, rfl, rfl⟩
  case round =>
    obtain ⟨hwr, k, hk, rfl, rfl⟩ := hrel
    obtain rfl : w = wr := hwr.symm
    clear hwr
    by_cases hkl : k < vs.length
    · obtain ⟨x, hx⟩ : ∃ x, vs[k]? = some x := ⟨_, List.getElem?_eq_getElem hkl⟩
      obtain ⟨hc, hv⟩ := HH.out.cell k x hx
      obtain ⟨ax, cx, hxv, _⟩ := hv.slice
      rw [hxv] at hc
      have hct := catN_take hx
      have hcl := catN_le vs (k + 1)
      rw [hct] at hcl
      have hkI : (0 : Int) ≤ k ∧ (k : Int) < vs.length := by omega
      have HCT := Lib.hid hct
      clear hct hv hx hxv
      have d2 : decide ((catN (vs.take k) : Int) + (x.2.length : Int) < 0) = false := by simp; omega
      generalize catN (vs.take k) = N at *
      go_wp2_with fail
      go_roundw
      case rel => exact ⟨trivial, k + 1, hkl, by go_num, by rw [HCT.out]; go_num⟩
      case measure => simp [intOf]; omega
    · obtain rfl : k = vs.length := by omega
      rw [List.take_length] at *
      go_wp2_with fail
      refine HG.out.mono ?_; rintro e w2 ⟨v2, o2, rfl, hR2, hS2⟩
      obtain ⟨a2, c2, rfl, _⟩ := id hR2.slice
      have hat : CatRel w vs (.slice a2 0 c2) (.int .i64 0) w2 := ⟨0, o2, Nat.zero_le _, rfl, hR2, hS2⟩
      clear hR2 hS2 HG
      go_wp2_with fail
      go_loopw [6, 27] (fun v i wi => CatRel w vs v i wi) (fun _ i _ => vs.length - (intOf i).toNat)
      case atStart => exact hat
      case round =>
        obtain ⟨k, o3, hk3, rfl, hR, hS⟩ := hrel
        clear hat
        by_cases hkl : k < vs.length
        · obtain ⟨x, hx⟩ : ∃ x, vs[k]? = some x := ⟨_, List.getElem?_eq_getElem hkl⟩
          have hB := hS.below0
          obtain ⟨hc0, hv0⟩ := HH.out.cell k x hx
          have hv := hv0.below hB
          have hc : wr.cell? ⟨b, off + k, none⟩ = some x.1 := by rw [hB.cell (p := ⟨b, off + k, none⟩) HH.out.lt]; exact hc0
          have hsrc := hv.src (P := Tryz.prog) Tryz.underlying97 (specsC_one _)
          obtain ⟨ax, cx, hxv, _⟩ := hv.slice
          rw [hxv] at hc hsrc
          have hct := catN_take hx
          have hcl := catN_le vs (k + 1)
          rw [hct] at hcl
          have hkI : (0 : Int) ≤ k ∧ (k : Int) < vs.length := by omega
          have hlt := catL_take hx
          have hNL : catN (vs.take (k + 1)) = catN (vs.take k) + x.2.length ∧ specsC (catL (vs.take (k + 1))) = specsC (catL (vs.take k)) ++ specsC x.2 := ⟨hct, by rw [hlt, specsC_app]⟩
          have HNL := Lib.hid hNL
          have HR := Lib.hid hR
          have HS := Lib.hid hS
          have HSRC := Lib.hid hsrc
          obtain ⟨av, cv, rfl, _⟩ := id hR.slice
          obtain ⟨i0, hi0, hz0, hz1, hz2⟩ := info_parts infoSpec
          clear hv hv0 hc0 hx hxv hct hlt hNL hR hS hsrc hB
          generalize catN (vs.take k) = N at *
          generalize specsC (catL (vs.take k)) = X at *
          go_wp2_with (
            at_builtin
            refine wpList_app _ rfl _ _ 97 97 rfl 54 i0 _ 7 56 Tryz.underlying97 hi0 hz0 hz1 hz2 rfl rfl HR.out rfl HSRC.out (by unfold maxLen; omega) (by omega) ?_
            intro v' w3 o4 hrow hst
            obtain ⟨av3, cv3, rfl, _⟩ := id hrow.slice
            have HROW := Lib.hid hrow
            have HST := Lib.hid (HS.out.trans hst)
            clear hrow hst HR HSRC)
          go_roundw
          case rel => exact ⟨k + 1, o4, hkl, by go_num, by rw [HNL.out.1, HNL.out.2]; exact HROW.out, HST.out⟩
          case measure => simp [intOf]; omega
        · obtain rfl : k = vs.length := by omega
          rw [List.take_length] at *
          obtain ⟨av, cv, rfl, _⟩ := id hR.slice
          have HF := Lib.hid (hR.fresh hS)
          clear hR hS
          go_wp2_with fail
          go_ret
          exact ⟨_, rfl, HF.out⟩
end Go.Proofs.YtcgecgilkapjaaaGreatDoor
namespace Go.Proofs.YtcgecgilkapjaaaGreatDoor
open Go Go.Proofs
def sortSpecs_ren : Go.Shelf.Ren := ⟨fun | 6 => 92 | 15 => 150 | 14 => 149 | 28 => 280 | 29 => 281 | 20 => 272 | 21 => 273 | 22 => 274 | 23 => 275 | 24 => 276 | 25 => 277 | 26 => 278 | 27 => 279 | 46 => 363 | 47 => 364 | 48 => 365 | 49 => 366 | 50 => 367 | 57 => 415 | n => n, fun | 22 => 97 | 24 => 54 | 25 => 132 | 3 => 3 | 39 => 187 | 0 => 0 | 53 => 275 | 55 => 74 | 4 => 4 | 46 => 269 | 45 => 268 | 50 => 170 | 5 => 5 | 9 => 9 | 66 => 353 | 70 => 357 | 76 => 385 | 77 => 312 | n => n, fun | n => n⟩
theorem sortSpecs : Go.Proofs.SlLaysF0.n6 Tryz.prog sortSpecs_ren := {
  mixed := by kernel_rfl
  f6 := ⟨Tryz.f92.name, by decide, Tryz.func92.trans (congrArg some (by kernel_rfl))⟩
  f14 := ⟨Tryz.f149.name, by decide, Tryz.func149.trans (congrArg some (by kernel_rfl))⟩
  f15 := Tryz.func150.trans (congrArg some (by kernel_rfl))
  f20 := ⟨Tryz.f272.name, by decide, Tryz.func272.trans (congrArg some (by kernel_rfl))⟩
  f21 := ⟨Tryz.f273.name, by decide, Tryz.func273.trans (congrArg some (by kernel_rfl))⟩
  f22 := ⟨Tryz.f274.name, by decide, Tryz.func274.trans (congrArg some (by kernel_rfl))⟩
  f23 := ⟨Tryz.f275.name, by decide, Tryz.func275.trans (congrArg some (by kernel_rfl))⟩
  f24 := ⟨Tryz.f276.name, by decide, Tryz.func276.trans (congrArg some (by kernel_rfl))⟩
  f25 := ⟨Tryz.f277.name, by decide, Tryz.func277.trans (congrArg some (by kernel_rfl))⟩
  f26 := ⟨Tryz.f278.name, by decide, Tryz.func278.trans (congrArg some (by kernel_rfl))⟩
  f27 := ⟨Tryz.f279.name, by decide, Tryz.func279.trans (congrArg some (by kernel_rfl))⟩
  f28 := Tryz.func280.trans (congrArg some (by kernel_rfl))
  f29 := Tryz.func281.trans (congrArg some (by kernel_rfl))
  f46 := ⟨Tryz.f363.name, by decide, Tryz.func363.trans (congrArg some (by kernel_rfl))⟩
  f47 := Tryz.func364.trans (congrArg some (by kernel_rfl))
  f48 := Tryz.func365.trans (congrArg some (by kernel_rfl))
  f49 := ⟨Tryz.f366.name, by decide, Tryz.func366.trans (congrArg some (by kernel_rfl))⟩
  f50 := ⟨Tryz.f367.name, by decide, Tryz.func367.trans (congrArg some (by kernel_rfl))⟩
  f57 := ⟨Tryz.f415.name, by decide, Tryz.func415.trans (congrArg some (by kernel_rfl))⟩
  t0 := Tryz.underlying0
  a0 := Tryz.isAgg0
  z0 := Tryz.sizeOf0
  v0 := Tryz.zeroValue0
  t3 := Tryz.underlying3
  a3 := Tryz.isAgg3
  z3 := Tryz.sizeOf3
  v3 := Tryz.zeroValue3
  t4 := Tryz.underlying4
  a4 := Tryz.isAgg4
  z4 := Tryz.sizeOf4
  v4 := Tryz.zeroValue4
  t5 := Tryz.underlying5
  a5 := Tryz.isAgg5
  z5 := Tryz.sizeOf5
  v5 := Tryz.zeroValue5
  t9 := Tryz.underlying9
  a9 := Tryz.isAgg9
  z9 := Tryz.sizeOf9
  v9 := Tryz.zeroValue9
  t22 := Tryz.underlying97
  a22 := Tryz.isAgg97
  z22 := Tryz.sizeOf97
  v22 := Tryz.zeroValue97
  t25 := Tryz.underlying132
  a25 := Tryz.isAgg132
  z25 := Tryz.sizeOf132
  v25 := Tryz.zeroValue132
  t39 := Tryz.underlying187
  a39 := Tryz.isAgg187
  z39 := Tryz.sizeOf187
  v39 := Tryz.zeroValue187
  t45 := Tryz.underlying268
  a45 := Tryz.isAgg268
  z45 := Tryz.sizeOf268
  v45 := Tryz.zeroValue268
  t46 := Tryz.underlying269
  a46 := Tryz.isAgg269
  z46 := Tryz.sizeOf269
  v46 := Tryz.zeroValue269
  t50 := Tryz.underlying170
  a50 := Tryz.isAgg170
  z50 := Tryz.sizeOf170
  v50 := Tryz.zeroValue170
  t53 := Tryz.underlying275
  a53 := Tryz.isAgg275
  z53 := Tryz.sizeOf275
  v53 := Tryz.zeroValue275
  t55 := Tryz.underlying74
  a55 := Tryz.isAgg74
  z55 := Tryz.sizeOf74
  v55 := Tryz.zeroValue74
  t66 := Tryz.underlying353
  a66 := Tryz.isAgg353
  z66 := Tryz.sizeOf353
  v66 := Tryz.zeroValue353
  t70 := Tryz.underlying357
  a70 := Tryz.isAgg357
  z70 := Tryz.sizeOf357
  v70 := Tryz.zeroValue357
  t76 := Tryz.underlying385
  a76 := Tryz.isAgg385
  z76 := Tryz.sizeOf385
  v76 := Tryz.zeroValue385
  t77 := Tryz.underlying312
  a77 := Tryz.isAgg312
  z77 := Tryz.sizeOf312
  v77 := Tryz.zeroValue312
}
end Go.Proofs.YtcgecgilkapjaaaGreatDoor
namespace Go.Proofs.YtcgecgilkapjaaaGreatDoor
open Go Go.RowKit
/-! The table's rows, sorted by name. -/
instance : Inhabited SpecM := ⟨⟨[], 0, false, false, 0, 0, 0⟩⟩
set_option maxRecDepth 10000 in
theorem bCompare_ok (a b : ByteArray) (w : World) : Calls Tryz.prog 151 #[.string a, .string b] w fun e w' => e = .returned (.int .i64 (Lib.compareBytes a.data.toList b.data.toList)) ∧ w' = w := by
  go_enter Tryz.func151, Tryz.ntmps151
  go_wp2
  rw [run_callFunc_extern Tryz.func282 (by kernel_rfl) (by kernel_rfl) (by kernel_rfl) (e := Extern.BytealgCompare.compare) (by kernel_rfl), Lib.run_compareString]
  simp only [Result.andThen]
  rw [Oper.upon_value]
  go_wp2
  go_ret
  exact ⟨rfl, rfl⟩
set_option maxRecDepth 10000 in
theorem sCompare_ok (a b : ByteArray) (w : World) : Calls Tryz.prog 94 #[.string a, .string b] w fun e w' => e = .returned (.int .i64 (Lib.compareBytes a.data.toList b.data.toList)) ∧ w' = w := by
  have H := bCompare_ok a b w
  generalize Lib.compareBytes a.data.toList b.data.toList = r at *
  go_enter Tryz.func94, Tryz.ntmps94
  go_wp2_with fail
  refine H.mono ?_; rintro e w' ⟨rfl, rfl⟩
  go_wp2_with fail
  go_ret
  exact ⟨rfl, rfl⟩
def cfS (x y : SpecM) : Int := Lib.compareBytes x.name y.name
set_option maxRecDepth 10000 in
theorem tCmp_ok (x y : SpecM) (W : World) : Calls Tryz.prog 93 #[.agg (specC x).toArray, .agg (specC y).toArray] W fun e w' => e = .returned (.int .i64 (cfS x y)) ∧ ∃ q os', w' = Sort.grow (W.drewN q) os' := by
  have H := fun W' => sCompare_ok ⟨x.name.toArray⟩ ⟨y.name.toArray⟩ W'
  unfold cfS
  simp only at H
  generalize Lib.compareBytes x.name y.name = r at *
  unfold specC
  go_enter Tryz.func93, Tryz.ntmps93
  go_wp2_with fail
  refine (H _).mono ?_; rintro e w' ⟨rfl, rfl⟩
  go_wp2_with fail
  go_ret
  exact ⟨rfl, 0, _, by rw [Sort.alloc_eq_grow, Sort.alloc_eq_grow, Sort.grow_grow]; rfl⟩
theorem cb_cons (x : UInt8) (a : List UInt8) (y : UInt8) (b : List UInt8) : Lib.compareBytes (x :: a) (y :: b) = if x < y then -1 else if y < x then 1 else Lib.compareBytes a b := rfl
theorem cb_irrefl : ∀ a : List UInt8, Lib.compareBytes a a = 0
  | [] => rfl
  | x :: t => by unfold Lib.compareBytes; simp [cb_irrefl t]
theorem cb_trans : ∀ a b c : List UInt8, Lib.compareBytes a b < 0 → Lib.compareBytes b c < 0 → Lib.compareBytes a c < 0
  | [], [], _, h, _ => by simp [Lib.compareBytes] at h
  | [], _ :: _, [], _, h => by simp [Lib.compareBytes] at h
  | [], _ :: _, _ :: _, _, _ => by simp [Lib.compareBytes]
  | _ :: _, [], _, h, _ => by simp [Lib.compareBytes] at h
  | _ :: _, _ :: _, [], _, h => by simp [Lib.compareBytes] at h
  | x :: a, y :: b, z :: c, h1, h2 => by
    have ih := cb_trans a b c
    rw [cb_cons] at h1 h2 ⊢
    simp only [UInt8.lt_iff_toNat_lt] at h1 h2 ⊢
    split at h1
    · split at h2
      · rw [if_pos (by omega)]; decide
      · split at h2
        · exact absurd h2 (by decide)
        · rw [if_pos (by omega)]; decide
    · split at h1
      · exact absurd h1 (by decide)
      · split at h2
        · rw [if_pos (by omega)]; decide
        · split at h2
          · exact absurd h2 (by decide)
          · rw [if_neg (by omega), if_neg (by omega)]
            exact ih h1 h2
theorem cb_ntrans : ∀ a b c : List UInt8, ¬ Lib.compareBytes a b < 0 → ¬ Lib.compareBytes b c < 0 → ¬ Lib.compareBytes a c < 0
  | [], [], _, _, h => h
  | [], _ :: _, _, h, _ => absurd (by simp [Lib.compareBytes]) h
  | _ :: _, [], [], _, _ => by simp [Lib.compareBytes]
  | _ :: _, [], _ :: _, _, h => absurd (by simp [Lib.compareBytes]) h
  | _ :: _, _ :: _, [], _, _ => by simp [Lib.compareBytes]
  | x :: a, y :: b, z :: c, h1, h2 => by
    have ih := cb_ntrans a b c
    rw [cb_cons] at h1 h2 ⊢
    simp only [UInt8.lt_iff_toNat_lt] at h1 h2 ⊢
    split at h1
    · exact absurd (by decide) h1
    · split at h1
      · split at h2
        · exact absurd (by decide) h2
        · split at h2
          · rw [if_neg (by omega), if_pos (by omega)]; decide
          · rw [if_neg (by omega), if_pos (by omega)]; decide
      · split at h2
        · exact absurd (by decide) h2
        · split at h2
          · rw [if_neg (by omega), if_pos (by omega)]; decide
          · rw [if_neg (by omega), if_neg (by omega)]
            exact ih h1 h2
theorem cf_swo : Sort.SWO (ltOf cfS) where
  irrefl x := by simp [ltOf, cfS, cb_irrefl]
  trans x y z h1 h2 := by
    exact decide_eq_true (cb_trans _ _ _ (of_decide_eq_true h1) (of_decide_eq_true h2))
  ntrans x y z h1 h2 := by
    exact decide_eq_false (cb_ntrans _ _ _ (of_decide_eq_false h1) (of_decide_eq_false h2))
end Go.Proofs.YtcgecgilkapjaaaGreatDoor
namespace Go.Proofs.YtcgecgilkapjaaaGreatDoor
open Go Go.RowKit
/-! table.All: all rows, in some order. -/
theorem specsC_get : ∀ (l : List SpecM) (t : Nat), (specsC l)[t]? = if h : t / 7 < l.length then (specC (l[t / 7]'h))[t % 7]? else none
  | [], t => by simp [specsC]
  | x :: l, t => by
    have e : specsC (x :: l) = specC x ++ specsC l := by simp [specsC]
    rw [e]
    by_cases ht : t < 7
    · have h0 : t / 7 = 0 := by omega
      have h1 : t % 7 = t := by omega
      rw [List.getElem?_append_left (by simpa [specC] using ht), dif_pos (by rw [h0]; simp)]
      simp only [h0, h1]
      rfl
    · rw [List.getElem?_append_right (by simpa [specC] using Nat.le_of_not_lt ht)]
      have h7 : (specC x).length = 7 := by simp [specC]
      rw [h7, specsC_get l (t - 7)]
      have h0 : (t - 7) / 7 + 1 = t / 7 := by omega
      have h1 : (t - 7) % 7 = t % 7 := by omega
      by_cases hl : (t - 7) / 7 < l.length
      · rw [dif_pos hl, dif_pos (by simp only [List.length_cons]; omega), h1]
        congr 2
        have : t / 7 = (t - 7) / 7 + 1 := h0.symm
        simp only [this, List.getElem_cons_succ]
      · rw [dif_neg hl, dif_neg (by simp only [List.length_cons]; omega)]
theorem flatK_specs (l : List SpecM) (t : Nat) (ht : t < l.length * 7) : (specsC l)[t]? = some (Sort.flatK specC 7 l.toArray)[t]! := by
  have h7 : t / 7 < l.length := by omega
  rw [specsC_get, dif_pos h7]
  rw [Sort.get_flatK _ _ _ _ (by simpa using ht)]
  have e1 : l.toArray[t / 7]! = l[t / 7] := by rw [getElem!_pos l.toArray (t / 7) (by simpa using h7)]; simp
  rw [e1]
  have hm : t % 7 < (specC (l[t / 7])).length := by simp [specC]; omega
  rw [List.getElem!_eq_getElem?_getD, List.getElem?_eq_getElem hm]
  rfl
theorem sortHeap {α : Type} [Inhabited α] (enc : α → List Value) (k : Nat) (w : World) (blk off n : Nat) (d : Array α) (os : Array Obj) {b : Nat} (hb : b < w.heap.size) (hne : b ≠ blk) : (sortWorldK enc k w blk off n d os).heap[b]? = w.heap[b]? := by
  unfold sortWorldK
  rw [Sort.heap_grow_old _ _ (by simpa [Sort.putRowK, Sort.putRow, Sort.mapBlock] using hb)]
  unfold Sort.putRowK Sort.putRow Sort.mapBlock Sort.ahead
  simp [Array.getElem?_modify, Ne.symm hne]
set_option maxRecDepth 10000 in
theorem sort_ok {w w1 : World} {v : Value} {L : List SpecM} (h : Fresh w w1 54 7 v L.length (specsC L)) (h0 : L ≠ []) (hn : L.length ≤ 1048576) :
    Calls Tryz.prog 92 #[v, .func (.func 93) #[] #[]] w1 fun e w' => e = .returned (.tuple #[]) ∧ ∃ L', (L'.Perm L ∧ Sort.SortedIn (ltOf cfS) 0 L.length L'.toArray) ∧ Vw (fun b => w.heap.size ≤ b) w' v 7 L.length (specsC L') ∧ Below w.heap.size w w' := by
  have eg : ∀ args w, (callFunc 93 args).run Tryz.prog w = .ok (.enter 93 args) w := enters_of Tryz.func93 (by kernel_rfl) rfl
  rcases h.own.2 with ⟨_, h2⟩ | ⟨g, cap, cur, rfl, h2, h3, h4, h5, h6, h7⟩
  · exact absurd (List.eq_nil_of_length_eq_zero h2) h0
  have hlt : g < w1.heap.size := (Array.getElem?_eq_some_iff.1 h3).1
  have hH : Sort.HoldsK specC 7 w1 g 0 L.toArray := by
    intro j hj
    have hj' : j < L.length * 7 := by simpa using hj
    rw [Nat.zero_add]
    refine ⟨?_, ?_⟩
    · have hx := flatK_specs L j hj'
      unfold World.cell?
      simp only [h3]
      have : cur[j]? = (specsC L)[j]? := by rw [← h7, List.getElem?_take, if_pos hj']; simp
      simp only [Option.isSome_none, Bool.false_eq_true, if_false, this, hx]
      rfl
    · unfold World.frozen?
      simp only [h3]
      simp
  have hcon := AnyQ.slices_SortFunc sortSpecs 7 Tryz.isAgg54 Tryz.sizeOf54 specC (fun _ => by simp [specC]) (fun x v hv => specsC_one [x] v (by simpa [specsC] using hv)) cfS cf_swo 93 #[] g 0 cap L.toArray w1 eg (fun _ _ _ _ x y => tCmp_ok x y _) hH hlt (by simp; omega)
  change Calls Tryz.prog 92 _ _ _ at hcon
  rw [List.size_toArray] at hcon
  refine hcon.mono ?_
  rintro e w' ⟨rfl, d', n, os, hp, hs, rfl⟩
  have hsz : d'.size = L.length := by simpa using hp.1
  have hH2 := holdsK_sortWorldK specC 7 w1 g 0 n L.toArray d' os hlt hH (by simpa using hsz)
  refine ⟨rfl, d'.toList, ⟨?_, by simpa using hs⟩, ⟨⟨_, cap, rfl, h4, h5, .inr ⟨g, 0, rfl, lt_sortWorldK _ _ _ _ _ _ _ _ hlt, h2, fun k u hk => ?_⟩⟩, by rw [specsC_len]; simp [hsz]⟩, ?_⟩
  · have := hp.2.2
    have e : List.take L.length d'.toList = d'.toList := List.take_of_length_le (by simp [hsz])
    simpa [hsz, e] using this
  · have hkl : k < d'.toList.length * 7 := by have := (List.getElem?_eq_some_iff.1 hk).1; rw [specsC_len] at this; exact this
    have hx := flatK_specs d'.toList k hkl
    rw [hk] at hx
    have := (hH2 k (by simpa using hkl)).1
    rw [this]
    simpa using hx.symm
  · refine h.below.trans ⟨rfl, rfl, rfl, size_sortWorldK_c _ _ _ _ _ _ _ _, fun b hb => sortHeap _ _ _ _ _ _ _ _ (Nat.lt_of_lt_of_le hb h.below.size) (by omega)⟩
def allL : List SpecM := controlL ++ textsL ++ keysL ++ listsL ++ hashesL ++ setsL ++ ranksL
def AllDidS (w : World) (e : Ending) (w' : World) : Prop := ∃ a L, e = .returned (.slice a 118 118) ∧ (L.Perm allL ∧ Sort.SortedIn (ltOf cfS) 0 118 L.toArray) ∧ Vw (fun b => w.heap.size ≤ b) w' (.slice a 118 118) 7 118 (specsC L) ∧ Below w.heap.size w w'
def AllDid (w : World) (e : Ending) (w' : World) : Prop := ∃ v L, e = .returned v ∧ L.Perm allL ∧ Vw (fun b => w.heap.size ≤ b) w' v 7 118 (specsC L) ∧ Below w.heap.size w w'
theorem clipSpec_ok {A : Nat → Prop} {w : World} {v : Value} {n : Nat} {xs : List Value} (h : Vw A w v 7 n xs) : Calls Tryz.prog 95 #[v] w fun e w' => ∃ a, e = .returned (.slice a n n) ∧ w' = w ∧ Vw A w (.slice a n n) 7 n xs := by
  obtain ⟨⟨a, cap, rfl, h1, h2, h3⟩, h4⟩ := h
  obtain ⟨i0, hi0, _⟩ := info_parts infoSpec
  have hcut := cut_own (P := Tryz.prog) Tryz.underlying97 hi0 (a := a) h1
  have HD := Lib.hid (show Vw A w (.slice a n n) 7 n xs from ⟨⟨a, n, rfl, Nat.le_refl _, by omega, h3⟩, h4⟩)
  clear h3 h4
  go_enter Tryz.func95, Tryz.ntmps95
  go_wp2
  go_ret
  exact ⟨_, rfl, rfl, HD.out⟩
set_option maxRecDepth 10000 in
set_option maxHeartbeats 1000000 in
theorem all_okS (w : World) : Calls Tryz.prog 49 #[] w (AllDidS w) := by
  go_enter Tryz.func49, Tryz.ntmps49
  go_wp2_with fail
  refine (tcontrol_ok _).mono ?_; rintro e w1 ⟨v1, rfl, hv1, hB1⟩
  obtain ⟨a1, c1, rfl, _⟩ := id hv1.slice
  have HB1 := Lib.hid hB1
  have HV1_1 := Lib.hid (hv1.imp (B := fun _ => True) (fun _ _ => trivial))
  clear hv1 hB1
  go_wp2_with fail
  refine (ttexts_ok _).mono ?_; rintro e w2 ⟨v2, rfl, hv2, hB2⟩
  obtain ⟨a2, c2, rfl, _⟩ := id hv2.slice
  have HB2 := Lib.hid (HB1.out.trans (hB2.mono HB1.out.size))
  have HV2_2 := Lib.hid (hv2.imp (B := fun _ => True) (fun _ _ => trivial))
  have HV1_2 := Lib.hid (HV1_1.out.below hB2)
  clear hv2 hB2 HV1_1 HB1
  go_wp2_with fail
  refine (tkeys_ok _).mono ?_; rintro e w3 ⟨v3, rfl, hv3, hB3⟩
  obtain ⟨a3, c3, rfl, _⟩ := id hv3.slice
  have HB3 := Lib.hid (HB2.out.trans (hB3.mono HB2.out.size))
  have HV3_3 := Lib.hid (hv3.imp (B := fun _ => True) (fun _ _ => trivial))
  have HV1_3 := Lib.hid (HV1_2.out.below hB3)
  have HV2_3 := Lib.hid (HV2_2.out.below hB3)
  clear hv3 hB3 HV1_2 HV2_2 HB2
  go_wp2_with fail
  refine (tlists_ok _).mono ?_; rintro e w4 ⟨v4, rfl, hv4, hB4⟩
  obtain ⟨a4, c4, rfl, _⟩ := id hv4.slice
  have HB4 := Lib.hid (HB3.out.trans (hB4.mono HB3.out.size))
  have HV4_4 := Lib.hid (hv4.imp (B := fun _ => True) (fun _ _ => trivial))
  have HV1_4 := Lib.hid (HV1_3.out.below hB4)
  have HV2_4 := Lib.hid (HV2_3.out.below hB4)
  have HV3_4 := Lib.hid (HV3_3.out.below hB4)
  clear hv4 hB4 HV1_3 HV2_3 HV3_3 HB3
  go_wp2_with fail
  refine (thashes_ok _).mono ?_; rintro e w5 ⟨v5, rfl, hv5, hB5⟩
  obtain ⟨a5, c5, rfl, _⟩ := id hv5.slice
  have HB5 := Lib.hid (HB4.out.trans (hB5.mono HB4.out.size))
  have HV5_5 := Lib.hid (hv5.imp (B := fun _ => True) (fun _ _ => trivial))
  have HV1_5 := Lib.hid (HV1_4.out.below hB5)
  have HV2_5 := Lib.hid (HV2_4.out.below hB5)
  have HV3_5 := Lib.hid (HV3_4.out.below hB5)
  have HV4_5 := Lib.hid (HV4_4.out.below hB5)
  clear hv5 hB5 HV1_4 HV2_4 HV3_4 HV4_4 HB4
  go_wp2_with fail
  refine (tsets_ok _).mono ?_; rintro e w6 ⟨v6, rfl, hv6, hB6⟩
  obtain ⟨a6, c6, rfl, _⟩ := id hv6.slice
  have HB6 := Lib.hid (HB5.out.trans (hB6.mono HB5.out.size))
  have HV6_6 := Lib.hid (hv6.imp (B := fun _ => True) (fun _ _ => trivial))
  have HV1_6 := Lib.hid (HV1_5.out.below hB6)
  have HV2_6 := Lib.hid (HV2_5.out.below hB6)
  have HV3_6 := Lib.hid (HV3_5.out.below hB6)
  have HV4_6 := Lib.hid (HV4_5.out.below hB6)
  have HV5_6 := Lib.hid (HV5_5.out.below hB6)
  clear hv6 hB6 HV1_5 HV2_5 HV3_5 HV4_5 HV5_5 HB5
  go_wp2_with fail
  refine (tranks_ok _).mono ?_; rintro e w7 ⟨v7, rfl, hv7, hB7⟩
  obtain ⟨a7, c7, rfl, _⟩ := id hv7.slice
  have HB7 := Lib.hid (HB6.out.trans (hB7.mono HB6.out.size))
  have HV7_7 := Lib.hid (hv7.imp (B := fun _ => True) (fun _ _ => trivial))
  have HV1_7 := Lib.hid (HV1_6.out.below hB7)
  have HV2_7 := Lib.hid (HV2_6.out.below hB7)
  have HV3_7 := Lib.hid (HV3_6.out.below hB7)
  have HV4_7 := Lib.hid (HV4_6.out.below hB7)
  have HV5_7 := Lib.hid (HV5_6.out.below hB7)
  have HV6_7 := Lib.hid (HV6_6.out.below hB7)
  clear hv7 hB7 HV1_6 HV2_6 HV3_6 HV4_6 HV5_6 HV6_6 HB6
  have hcat : CatArg (fun _ => True) (w7.alloc (.cells #[.slice a1 7 c1, .slice a2 24 c2, .slice a3 25 c3, .slice a4 16 c4, .slice a5 14 c5, .slice a6 15 c6, .slice a7 17 c7] 97)) w7.heap.size 0 [(.slice a1 7 c1, controlL), (.slice a2 24 c2, textsL), (.slice a3 25 c3, keysL), (.slice a4 16 c4, listsL), (.slice a5 14 c5, hashesL), (.slice a6 15 c6, setsL), (.slice a7 17 c7, ranksL)] := by
    refine ⟨fun i x hx => ?_, by simp⟩
    have hb := (Below.refl w7.heap.size w7).alloc (Nat.le_refl _) (.cells #[.slice a1 7 c1, .slice a2 24 c2, .slice a3 25 c3, .slice a4 16 c4, .slice a5 14 c5, .slice a6 15 c6, .slice a7 17 c7] 97)
    match i, hx with
    | 0, hx => cases hx; exact ⟨by simp [go_sem], HV1_7.out.below hb⟩
    | 1, hx => cases hx; exact ⟨by simp [go_sem], HV2_7.out.below hb⟩
    | 2, hx => cases hx; exact ⟨by simp [go_sem], HV3_7.out.below hb⟩
    | 3, hx => cases hx; exact ⟨by simp [go_sem], HV4_7.out.below hb⟩
    | 4, hx => cases hx; exact ⟨by simp [go_sem], HV5_7.out.below hb⟩
    | 5, hx => cases hx; exact ⟨by simp [go_sem], HV6_7.out.below hb⟩
    | 6, hx => cases hx; exact ⟨by simp [go_sem], HV7_7.out.below hb⟩
    | i + 7, hx => simp at hx
  have hN : catN [(.slice a1 7 c1, controlL), (.slice a2 24 c2, textsL), (.slice a3 25 c3, keysL), (.slice a4 16 c4, listsL), (.slice a5 14 c5, hashesL), (.slice a6 15 c6, setsL), (.slice a7 17 c7, ranksL)] = 118 := rfl
  have HC := Lib.hid (concat_ok (cap := 7) hcat (by rw [hN]; decide) (by rw [hN]; decide) (by simp))
  clear hcat HV1_7 HV2_7 HV3_7 HV4_7 HV5_7 HV6_7 HV7_7
  have HB8 := Lib.hid (HB7.out.alloc HB7.out.size (.cells #[.slice a1 7 c1, .slice a2 24 c2, .slice a3 25 c3, .slice a4 16 c4, .slice a5 14 c5, .slice a6 15 c6, .slice a7 17 c7] 97))
  clear HB7
  go_wp2_with fail
  refine HC.out.mono ?_; rintro e w8 ⟨v8, rfl, hF8⟩
  have hcl : catL [(.slice a1 7 c1, controlL), (.slice a2 24 c2, textsL), (.slice a3 25 c3, keysL), (.slice a4 16 c4, listsL), (.slice a5 14 c5, hashesL), (.slice a6 15 c6, setsL), (.slice a7 17 c7, ranksL)] = allL := by simp [catL, allL]
  have hN2 : allL.length = 118 := by decide
  rw [hcl, hN, ← hN2] at hF8
  have HS := Lib.hid (sort_ok (L := allL) hF8 (by decide) (by decide))
  obtain ⟨a8, c8, rfl, _⟩ := id hF8.vw.slice
  rw [hN2] at HS
  clear hF8 HC hcl hN
  rw [hN2]
  go_wp2_with fail
  refine HS.out.mono ?_; rintro e w9 ⟨rfl, L', hp, hv9, hB9⟩
  have HB9 := Lib.hid (HB8.out.trans (hB9.mono HB8.out.size))
  have HV9 := Lib.hid (hv9.imp (B := fun b => w.heap.size ≤ b) (fun b hb => Nat.le_trans HB8.out.size hb))
  clear hv9 hB9 HS HB8
  go_wp2_with fail
  refine (clipSpec_ok HV9.out).mono ?_; rintro e wa ⟨a9, rfl, rfl, hva⟩
  go_wp2_with fail
  go_ret
  exact ⟨_, L', rfl, hp, hva, HB9.out⟩
theorem all_ok (w : World) : Calls Tryz.prog 49 #[] w (AllDid w) := (all_okS w).mono fun _ _ ⟨_, L, h1, h2, h3, h4⟩ => ⟨_, L, h1, h2.1, h3, h4⟩
end Go.Proofs.YtcgecgilkapjaaaGreatDoor
