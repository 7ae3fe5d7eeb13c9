import Derived.Test.YtgmmeeikjofefaaGreatDoorGE
import Derived.Test.YtgmmeeikjofefaaGreatDoorGF
import Derived.Lib.ConvBytes
namespace Go.Proofs.YtgmmeeikjofefaaGreatDoor
open Go Go.RowKit
/-! The document's rows of the table. -/
def rowsL : List SpecM := [
  ⟨[97, 112, 112, 101, 110, 100], 3, true, false, 1, 1, 1⟩,
  ⟨[98, 105, 116, 99, 111, 117, 110, 116], -2, false, false, 1, 1, 1⟩,
  ⟨[98, 105, 116, 111, 112], -4, true, false, 2, -1, 1⟩,
  ⟨[98, 105, 116, 112, 111, 115], -3, false, false, 1, 1, 1⟩,
  ⟨[99, 111, 112, 121], -3, true, false, 1, 2, 1⟩,
  ⟨[100, 98, 115, 105, 122, 101], 1, false, false, 0, 0, 0⟩,
  ⟨[100, 101, 99, 114], 2, true, false, 1, 1, 1⟩,
  ⟨[100, 101, 99, 114, 98, 121], 3, true, false, 1, 1, 1⟩,
  ⟨[100, 101, 108], -2, true, false, 1, -1, 1⟩,
  ⟨[100, 105, 115, 99, 97, 114, 100], 1, false, true, 0, 0, 0⟩,
  ⟨[100, 117, 109, 112], 2, false, false, 1, 1, 1⟩,
  ⟨[101, 99, 104, 111], 2, false, false, 0, 0, 0⟩,
  ⟨[101, 120, 101, 99], 1, false, true, 0, 0, 0⟩,
  ⟨[101, 120, 105, 115, 116, 115], -2, false, false, 1, -1, 1⟩,
  ⟨[101, 120, 112, 105, 114, 101], -3, true, false, 1, 1, 1⟩,
  ⟨[101, 120, 112, 105, 114, 101, 97, 116], -3, true, false, 1, 1, 1⟩,
  ⟨[101, 120, 112, 105, 114, 101, 116, 105, 109, 101], 2, false, false, 1, 1, 1⟩,
  ⟨[102, 108, 117, 115, 104, 97, 108, 108], 1, true, false, 0, 0, 0⟩,
  ⟨[102, 108, 117, 115, 104, 100, 98], 1, true, false, 0, 0, 0⟩,
  ⟨[103, 101, 116], 2, false, false, 1, 1, 1⟩,
  ⟨[103, 101, 116, 98, 105, 116], 3, false, false, 1, 1, 1⟩,
  ⟨[103, 101, 116, 100, 101, 108], 2, true, false, 1, 1, 1⟩,
  ⟨[103, 101, 116, 101, 120], -2, true, false, 1, 1, 1⟩,
  ⟨[103, 101, 116, 114, 97, 110, 103, 101], 4, false, false, 1, 1, 1⟩,
  ⟨[103, 101, 116, 115, 101, 116], 3, true, false, 1, 1, 1⟩,
  ⟨[104, 100, 101, 108], -3, true, false, 1, 1, 1⟩,
  ⟨[104, 101, 120, 105, 115, 116, 115], 3, false, false, 1, 1, 1⟩,
  ⟨[104, 103, 101, 116], 3, false, false, 1, 1, 1⟩,
  ⟨[104, 103, 101, 116, 97, 108, 108], 2, false, false, 1, 1, 1⟩,
  ⟨[104, 105, 110, 99, 114, 98, 121], 4, true, false, 1, 1, 1⟩,
  ⟨[104, 107, 101, 121, 115], 2, false, false, 1, 1, 1⟩,
  ⟨[104, 108, 101, 110], 2, false, false, 1, 1, 1⟩,
  ⟨[104, 109, 103, 101, 116], -3, false, false, 1, 1, 1⟩,
  ⟨[104, 109, 115, 101, 116], -4, true, false, 1, 1, 1⟩,
  ⟨[104, 115, 99, 97, 110], -3, false, false, 1, 1, 1⟩,
  ⟨[104, 115, 101, 116], -4, true, false, 1, 1, 1⟩,
  ⟨[104, 115, 101, 116, 110, 120], 4, true, false, 1, 1, 1⟩,
  ⟨[104, 115, 116, 114, 108, 101, 110], 3, false, false, 1, 1, 1⟩,
  ⟨[104, 118, 97, 108, 115], 2, false, false, 1, 1, 1⟩,
  ⟨[105, 110, 99, 114], 2, true, false, 1, 1, 1⟩,
  ⟨[105, 110, 99, 114, 98, 121], 3, true, false, 1, 1, 1⟩,
  ⟨[107, 101, 121, 115], 2, false, false, 0, 0, 0⟩,
  ⟨[108, 105, 110, 100, 101, 120], 3, false, false, 1, 1, 1⟩,
  ⟨[108, 105, 110, 115, 101, 114, 116], 5, true, false, 1, 1, 1⟩,
  ⟨[108, 108, 101, 110], 2, false, false, 1, 1, 1⟩,
  ⟨[108, 109, 111, 118, 101], 5, true, false, 1, 2, 1⟩,
  ⟨[108, 112, 111, 112], -2, true, false, 1, 1, 1⟩,
  ⟨[108, 112, 111, 115], -3, false, false, 1, 1, 1⟩,
  ⟨[108, 112, 117, 115, 104], -3, true, false, 1, 1, 1⟩,
  ⟨[108, 112, 117, 115, 104, 120], -3, true, false, 1, 1, 1⟩,
  ⟨[108, 114, 97, 110, 103, 101], 4, false, false, 1, 1, 1⟩,
  ⟨[108, 114, 101, 109], 4, true, false, 1, 1, 1⟩,
  ⟨[108, 115, 101, 116], 4, true, false, 1, 1, 1⟩,
  ⟨[108, 116, 114, 105, 109], 4, true, false, 1, 1, 1⟩,
  ⟨[109, 103, 101, 116], -2, false, false, 1, -1, 1⟩,
  ⟨[109, 115, 101, 116], -3, true, false, 1, -1, 2⟩,
  ⟨[109, 115, 101, 116, 110, 120], -3, true, false, 1, -1, 2⟩,
  ⟨[109, 117, 108, 116, 105], 1, false, true, 0, 0, 0⟩,
  ⟨[112, 101, 114, 115, 105, 115, 116], 2, true, false, 1, 1, 1⟩,
  ⟨[112, 101, 120, 112, 105, 114, 101], -3, true, false, 1, 1, 1⟩,
  ⟨[112, 101, 120, 112, 105, 114, 101, 97, 116], -3, true, false, 1, 1, 1⟩,
  ⟨[112, 101, 120, 112, 105, 114, 101, 116, 105, 109, 101], 2, false, false, 1, 1, 1⟩,
  ⟨[112, 105, 110, 103], -1, false, false, 0, 0, 0⟩,
  ⟨[112, 115, 101, 116, 101, 120], 4, true, false, 1, 1, 1⟩,
  ⟨[112, 116, 116, 108], 2, false, false, 1, 1, 1⟩,
  ⟨[113, 117, 105, 116], 1, false, true, 0, 0, 0⟩,
  ⟨[114, 101, 110, 97, 109, 101], 3, true, false, 1, 2, 1⟩,
  ⟨[114, 101, 110, 97, 109, 101, 110, 120], 3, true, false, 1, 2, 1⟩,
  ⟨[114, 101, 115, 101, 116], 1, false, true, 0, 0, 0⟩,
  ⟨[114, 101, 115, 116, 111, 114, 101], -4, true, false, 1, 1, 1⟩,
  ⟨[114, 112, 111, 112], -2, true, false, 1, 1, 1⟩,
  ⟨[114, 112, 111, 112, 108, 112, 117, 115, 104], 3, true, false, 1, 2, 1⟩,
  ⟨[114, 112, 117, 115, 104], -3, true, false, 1, 1, 1⟩,
  ⟨[114, 112, 117, 115, 104, 120], -3, true, false, 1, 1, 1⟩,
  ⟨[115, 97, 100, 100], -3, true, false, 1, 1, 1⟩,
  ⟨[115, 99, 97, 110], -2, false, false, 0, 0, 0⟩,
  ⟨[115, 99, 97, 114, 100], 2, false, false, 1, 1, 1⟩,
  ⟨[115, 100, 105, 102, 102], -2, false, false, 1, -1, 1⟩,
  ⟨[115, 100, 105, 102, 102, 115, 116, 111, 114, 101], -3, true, false, 1, -1, 1⟩,
  ⟨[115, 101, 116], -3, true, false, 1, 1, 1⟩,
  ⟨[115, 101, 116, 98, 105, 116], 4, true, false, 1, 1, 1⟩,
  ⟨[115, 101, 116, 101, 120], 4, true, false, 1, 1, 1⟩,
  ⟨[115, 101, 116, 110, 120], 3, true, false, 1, 1, 1⟩,
  ⟨[115, 101, 116, 114, 97, 110, 103, 101], 4, true, false, 1, 1, 1⟩,
  ⟨[115, 105, 110, 116, 101, 114], -2, false, false, 1, -1, 1⟩,
  ⟨[115, 105, 110, 116, 101, 114, 115, 116, 111, 114, 101], -3, true, false, 1, -1, 1⟩,
  ⟨[115, 105, 115, 109, 101, 109, 98, 101, 114], 3, false, false, 1, 1, 1⟩,
  ⟨[115, 109, 101, 109, 98, 101, 114, 115], 2, false, false, 1, 1, 1⟩,
  ⟨[115, 109, 105, 115, 109, 101, 109, 98, 101, 114], -3, false, false, 1, 1, 1⟩,
  ⟨[115, 109, 111, 118, 101], 4, true, false, 1, 2, 1⟩,
  ⟨[115, 112, 111, 112], -2, true, false, 1, 1, 1⟩,
  ⟨[115, 114, 101, 109], -3, true, false, 1, 1, 1⟩,
  ⟨[115, 115, 99, 97, 110], -3, false, false, 1, 1, 1⟩,
  ⟨[115, 116, 114, 108, 101, 110], 2, false, false, 1, 1, 1⟩,
  ⟨[115, 117, 110, 105, 111, 110], -2, false, false, 1, -1, 1⟩,
  ⟨[115, 117, 110, 105, 111, 110, 115, 116, 111, 114, 101], -3, true, false, 1, -1, 1⟩,
  ⟨[116, 116, 108], 2, false, false, 1, 1, 1⟩,
  ⟨[116, 121, 112, 101], 2, false, false, 1, 1, 1⟩,
  ⟨[117, 110, 108, 105, 110, 107], -2, true, false, 1, -1, 1⟩,
  ⟨[117, 110, 119, 97, 116, 99, 104], 1, false, true, 0, 0, 0⟩,
  ⟨[119, 97, 116, 99, 104], -2, false, true, 1, -1, 1⟩,
  ⟨[122, 97, 100, 100], -4, true, false, 1, 1, 1⟩,
  ⟨[122, 99, 97, 114, 100], 2, false, false, 1, 1, 1⟩,
  ⟨[122, 99, 111, 117, 110, 116], 4, false, false, 1, 1, 1⟩,
  ⟨[122, 105, 110, 99, 114, 98, 121], 4, true, false, 1, 1, 1⟩,
  ⟨[122, 108, 101, 120, 99, 111, 117, 110, 116], 4, false, false, 1, 1, 1⟩,
  ⟨[122, 109, 115, 99, 111, 114, 101], -3, false, false, 1, 1, 1⟩,
  ⟨[122, 112, 111, 112, 109, 97, 120], -2, true, false, 1, 1, 1⟩,
  ⟨[122, 112, 111, 112, 109, 105, 110], -2, true, false, 1, 1, 1⟩,
  ⟨[122, 114, 97, 110, 103, 101], -4, false, false, 1, 1, 1⟩,
  ⟨[122, 114, 97, 110, 107], 3, false, false, 1, 1, 1⟩,
  ⟨[122, 114, 101, 109], -3, true, false, 1, 1, 1⟩,
  ⟨[122, 114, 101, 109, 114, 97, 110, 103, 101, 98, 121, 108, 101, 120], 4, true, false, 1, 1, 1⟩,
  ⟨[122, 114, 101, 109, 114, 97, 110, 103, 101, 98, 121, 114, 97, 110, 107], 4, true, false, 1, 1, 1⟩,
  ⟨[122, 114, 101, 109, 114, 97, 110, 103, 101, 98, 121, 115, 99, 111, 114, 101], 4, true, false, 1, 1, 1⟩,
  ⟨[122, 114, 101, 118, 114, 97, 110, 107], 3, false, false, 1, 1, 1⟩,
  ⟨[122, 115, 99, 97, 110], -3, false, false, 1, 1, 1⟩,
  ⟨[122, 115, 99, 111, 114, 101], 3, false, false, 1, 1, 1⟩]
set_option maxRecDepth 100000 in
theorem rows_perm : rowsL.Perm allL := by decide +kernel
/-- A part of a region's operations is run. -/
theorem wpList_step {P : Program} {ops : Array Oper} {Q : Exit → Act → World → Prop} {a' : Act} {w' : World} : ∀ (n : Nat) {os : List Oper} {a : Act} {w : World}, runList P ops (os.take n) a w = some (a', w') → wpList P ops Q (os.drop n) a' w' → wpList P ops Q os a w
  | 0, os, a, w, h, hq => by
    rw [List.take_zero] at h
    cases h
    exact hq
  | n + 1, [], a, w, h, hq => by cases h; exact hq
  | n + 1, o :: rest, a, w, h, hq => by
    rw [List.take_succ_cons] at h
    rw [List.drop_succ_cons] at hq
    unfold runList at h
    unfold wpList
    split at h
    · rename_i hw
      rw [if_pos hw]
      refine .inl ?_
      unfold Oper.wp
      split at h
      · rename_i v w2 hr
        rw [hr]
        exact wpList_step n h hq
      · rename_i w2 hr
        rw [hr]
        exact wpList_step n h hq
      · cases h
    · rename_i hw
      rw [if_neg hw]
      exact wpList_step n h hq
theorem wpList_at {P : Program} {ops : Array Oper} {Q : Exit → Act → World → Prop} {a a' : Act} {w w' : World} {os : List Oper} (i n : Nat) (h : runList P ops ((os.drop i).take n) a w = some (a', w')) (hq : wpList P ops Q (os.drop (i + n)) a' w') : wpList P ops Q (os.drop i) a w :=
  wpList_step n h (by rw [List.drop_drop]; exact hq)
def bodyOps : Option Code → Array Oper
  | some (.seq _ (.seq (.region _ ops _) _)) => ops
  | _ => #[]
noncomputable def rOps : Array Oper := bodyOps Tryz.f133.body
noncomputable def rAct0 : Act := ⟨#[.slice none 0 0, undef, undef, undef, undef, undef, undef, undef, undef, undef, undef, undef, undef, undef, undef, undef, undef, undef, undef, undef, undef, undef, undef, undef, undef, undef, undef, undef, undef, undef, undef, undef, undef, undef, undef, undef, undef, undef, undef, undef, undef, undef, undef, undef, undef, undef, undef, undef, undef, undef, undef, undef, undef, undef, undef, undef, undef, undef, undef, undef, undef, undef, undef, undef, undef, undef, undef, undef, undef, undef, undef, undef, undef, undef, undef, undef, undef, undef, undef, undef, undef, undef, undef, undef, undef, undef, undef, undef, undef, undef, undef, undef, undef, undef, undef, undef, undef, undef, undef, undef, undef, undef, undef, undef, undef, undef, undef, undef, undef, undef, undef, undef, undef, undef, undef, undef, undef, undef, undef, undef], []⟩
noncomputable def rAct1 : Act := ⟨#[.slice none 0 0, .agg #[.string ⟨#[97, 112, 112, 101, 110, 100]⟩, .int .i64 3, .bool true, .bool false, .int .i64 1, .int .i64 1, .int .i64 1], .agg #[.string ⟨#[98, 105, 116, 99, 111, 117, 110, 116]⟩, .int .i64 (-2), .bool false, .bool false, .int .i64 1, .int .i64 1, .int .i64 1], .agg #[.string ⟨#[98, 105, 116, 111, 112]⟩, .int .i64 (-4), .bool true, .bool false, .int .i64 2, .int .i64 (-1), .int .i64 1], .agg #[.string ⟨#[98, 105, 116, 112, 111, 115]⟩, .int .i64 (-3), .bool false, .bool false, .int .i64 1, .int .i64 1, .int .i64 1], .agg #[.string ⟨#[99, 111, 112, 121]⟩, .int .i64 (-3), .bool true, .bool false, .int .i64 1, .int .i64 2, .int .i64 1], .agg #[.string ⟨#[100, 98, 115, 105, 122, 101]⟩, .int .i64 1, .bool false, .bool false, .int .i64 0, .int .i64 0, .int .i64 0], .agg #[.string ⟨#[100, 101, 99, 114]⟩, .int .i64 2, .bool true, .bool false, .int .i64 1, .int .i64 1, .int .i64 1], .agg #[.string ⟨#[100, 101, 99, 114, 98, 121]⟩, .int .i64 3, .bool true, .bool false, .int .i64 1, .int .i64 1, .int .i64 1], .agg #[.string ⟨#[100, 101, 108]⟩, .int .i64 (-2), .bool true, .bool false, .int .i64 1, .int .i64 (-1), .int .i64 1], .agg #[.string ⟨#[100, 105, 115, 99, 97, 114, 100]⟩, .int .i64 1, .bool false, .bool true, .int .i64 0, .int .i64 0, .int .i64 0], .agg #[.string ⟨#[100, 117, 109, 112]⟩, .int .i64 2, .bool false, .bool false, .int .i64 1, .int .i64 1, .int .i64 1], .agg #[.string ⟨#[101, 99, 104, 111]⟩, .int .i64 2, .bool false, .bool false, .int .i64 0, .int .i64 0, .int .i64 0], .agg #[.string ⟨#[101, 120, 101, 99]⟩, .int .i64 1, .bool false, .bool true, .int .i64 0, .int .i64 0, .int .i64 0], .agg #[.string ⟨#[101, 120, 105, 115, 116, 115]⟩, .int .i64 (-2), .bool false, .bool false, .int .i64 1, .int .i64 (-1), .int .i64 1], .agg #[.string ⟨#[101, 120, 112, 105, 114, 101]⟩, .int .i64 (-3), .bool true, .bool false, .int .i64 1, .int .i64 1, .int .i64 1], .agg #[.string ⟨#[101, 120, 112, 105, 114, 101, 97, 116]⟩, .int .i64 (-3), .bool true, .bool false, .int .i64 1, .int .i64 1, .int .i64 1], .agg #[.string ⟨#[101, 120, 112, 105, 114, 101, 116, 105, 109, 101]⟩, .int .i64 2, .bool false, .bool false, .int .i64 1, .int .i64 1, .int .i64 1], .agg #[.string ⟨#[102, 108, 117, 115, 104, 97, 108, 108]⟩, .int .i64 1, .bool true, .bool false, .int .i64 0, .int .i64 0, .int .i64 0], .agg #[.string ⟨#[102, 108, 117, 115, 104, 100, 98]⟩, .int .i64 1, .bool true, .bool false, .int .i64 0, .int .i64 0, .int .i64 0], .agg #[.string ⟨#[103, 101, 116]⟩, .int .i64 2, .bool false, .bool false, .int .i64 1, .int .i64 1, .int .i64 1], undef, undef, undef, undef, undef, undef, undef, undef, undef, undef, undef, undef, undef, undef, undef, undef, undef, undef, undef, undef, undef, undef, undef, undef, undef, undef, undef, undef, undef, undef, undef, undef, undef, undef, undef, undef, undef, undef, undef, undef, undef, undef, undef, undef, undef, undef, undef, undef, undef, undef, undef, undef, undef, undef, undef, undef, undef, undef, undef, undef, undef, undef, undef, undef, undef, undef, undef, undef, undef, undef, undef, undef, undef, undef, undef, undef, undef, undef, undef, undef, undef, undef, undef, undef, undef, undef, undef, undef, undef, undef, undef, undef, undef, undef, undef, undef, undef, undef, undef], []⟩
noncomputable def rAct2 : Act := ⟨#[.slice none 0 0, .agg #[.string ⟨#[97, 112, 112, 101, 110, 100]⟩, .int .i64 3, .bool true, .bool false, .int .i64 1, .int .i64 1, .int .i64 1], .agg #[.string ⟨#[98, 105, 116, 99, 111, 117, 110, 116]⟩, .int .i64 (-2), .bool false, .bool false, .int .i64 1, .int .i64 1, .int .i64 1], .agg #[.string ⟨#[98, 105, 116, 111, 112]⟩, .int .i64 (-4), .bool true, .bool false, .int .i64 2, .int .i64 (-1), .int .i64 1], .agg #[.string ⟨#[98, 105, 116, 112, 111, 115]⟩, .int .i64 (-3), .bool false, .bool false, .int .i64 1, .int .i64 1, .int .i64 1], .agg #[.string ⟨#[99, 111, 112, 121]⟩, .int .i64 (-3), .bool true, .bool false, .int .i64 1, .int .i64 2, .int .i64 1], .agg #[.string ⟨#[100, 98, 115, 105, 122, 101]⟩, .int .i64 1, .bool false, .bool false, .int .i64 0, .int .i64 0, .int .i64 0], .agg #[.string ⟨#[100, 101, 99, 114]⟩, .int .i64 2, .bool true, .bool false, .int .i64 1, .int .i64 1, .int .i64 1], .agg #[.string ⟨#[100, 101, 99, 114, 98, 121]⟩, .int .i64 3, .bool true, .bool false, .int .i64 1, .int .i64 1, .int .i64 1], .agg #[.string ⟨#[100, 101, 108]⟩, .int .i64 (-2), .bool true, .bool false, .int .i64 1, .int .i64 (-1), .int .i64 1], .agg #[.string ⟨#[100, 105, 115, 99, 97, 114, 100]⟩, .int .i64 1, .bool false, .bool true, .int .i64 0, .int .i64 0, .int .i64 0], .agg #[.string ⟨#[100, 117, 109, 112]⟩, .int .i64 2, .bool false, .bool false, .int .i64 1, .int .i64 1, .int .i64 1], .agg #[.string ⟨#[101, 99, 104, 111]⟩, .int .i64 2, .bool false, .bool false, .int .i64 0, .int .i64 0, .int .i64 0], .agg #[.string ⟨#[101, 120, 101, 99]⟩, .int .i64 1, .bool false, .bool true, .int .i64 0, .int .i64 0, .int .i64 0], .agg #[.string ⟨#[101, 120, 105, 115, 116, 115]⟩, .int .i64 (-2), .bool false, .bool false, .int .i64 1, .int .i64 (-1), .int .i64 1], .agg #[.string ⟨#[101, 120, 112, 105, 114, 101]⟩, .int .i64 (-3), .bool true, .bool false, .int .i64 1, .int .i64 1, .int .i64 1], .agg #[.string ⟨#[101, 120, 112, 105, 114, 101, 97, 116]⟩, .int .i64 (-3), .bool true, .bool false, .int .i64 1, .int .i64 1, .int .i64 1], .agg #[.string ⟨#[101, 120, 112, 105, 114, 101, 116, 105, 109, 101]⟩, .int .i64 2, .bool false, .bool false, .int .i64 1, .int .i64 1, .int .i64 1], .agg #[.string ⟨#[102, 108, 117, 115, 104, 97, 108, 108]⟩, .int .i64 1, .bool true, .bool false, .int .i64 0, .int .i64 0, .int .i64 0], .agg #[.string ⟨#[102, 108, 117, 115, 104, 100, 98]⟩, .int .i64 1, .bool true, .bool false, .int .i64 0, .int .i64 0, .int .i64 0], .agg #[.string ⟨#[103, 101, 116]⟩, .int .i64 2, .bool false, .bool false, .int .i64 1, .int .i64 1, .int .i64 1], .agg #[.string ⟨#[103, 101, 116, 98, 105, 116]⟩, .int .i64 3, .bool false, .bool false, .int .i64 1, .int .i64 1, .int .i64 1], .agg #[.string ⟨#[103, 101, 116, 100, 101, 108]⟩, .int .i64 2, .bool true, .bool false, .int .i64 1, .int .i64 1, .int .i64 1], .agg #[.string ⟨#[103, 101, 116, 101, 120]⟩, .int .i64 (-2), .bool true, .bool false, .int .i64 1, .int .i64 1, .int .i64 1], .agg #[.string ⟨#[103, 101, 116, 114, 97, 110, 103, 101]⟩, .int .i64 4, .bool false, .bool false, .int .i64 1, .int .i64 1, .int .i64 1], .agg #[.string ⟨#[103, 101, 116, 115, 101, 116]⟩, .int .i64 3, .bool true, .bool false, .int .i64 1, .int .i64 1, .int .i64 1], .agg #[.string ⟨#[104, 100, 101, 108]⟩, .int .i64 (-3), .bool true, .bool false, .int .i64 1, .int .i64 1, .int .i64 1], .agg #[.string ⟨#[104, 101, 120, 105, 115, 116, 115]⟩, .int .i64 3, .bool false, .bool false, .int .i64 1, .int .i64 1, .int .i64 1], .agg #[.string ⟨#[104, 103, 101, 116]⟩, .int .i64 3, .bool false, .bool false, .int .i64 1, .int .i64 1, .int .i64 1], .agg #[.string ⟨#[104, 103, 101, 116, 97, 108, 108]⟩, .int .i64 2, .bool false, .bool false, .int .i64 1, .int .i64 1, .int .i64 1], .agg #[.string ⟨#[104, 105, 110, 99, 114, 98, 121]⟩, .int .i64 4, .bool true, .bool false, .int .i64 1, .int .i64 1, .int .i64 1], .agg #[.string ⟨#[104, 107, 101, 121, 115]⟩, .int .i64 2, .bool false, .bool false, .int .i64 1, .int .i64 1, .int .i64 1], .agg #[.string ⟨#[104, 108, 101, 110]⟩, .int .i64 2, .bool false, .bool false, .int .i64 1, .int .i64 1, .int .i64 1], .agg #[.string ⟨#[104, 109, 103, 101, 116]⟩, .int .i64 (-3), .bool false, .bool false, .int .i64 1, .int .i64 1, .int .i64 1], .agg #[.string ⟨#[104, 109, 115, 101, 116]⟩, .int .i64 (-4), .bool true, .bool false, .int .i64 1, .int .i64 1, .int .i64 1], .agg #[.string ⟨#[104, 115, 99, 97, 110]⟩, .int .i64 (-3), .bool false, .bool false, .int .i64 1, .int .i64 1, .int .i64 1], .agg #[.string ⟨#[104, 115, 101, 116]⟩, .int .i64 (-4), .bool true, .bool false, .int .i64 1, .int .i64 1, .int .i64 1], .agg #[.string ⟨#[104, 115, 101, 116, 110, 120]⟩, .int .i64 4, .bool true, .bool false, .int .i64 1, .int .i64 1, .int .i64 1], .agg #[.string ⟨#[104, 115, 116, 114, 108, 101, 110]⟩, .int .i64 3, .bool false, .bool false, .int .i64 1, .int .i64 1, .int .i64 1], .agg #[.string ⟨#[104, 118, 97, 108, 115]⟩, .int .i64 2, .bool false, .bool false, .int .i64 1, .int .i64 1, .int .i64 1], .agg #[.string ⟨#[105, 110, 99, 114]⟩, .int .i64 2, .bool true, .bool false, .int .i64 1, .int .i64 1, .int .i64 1], undef, undef, undef, undef, undef, undef, undef, undef, undef, undef, undef, undef, undef, undef, undef, undef, undef, undef, undef, undef, undef, undef, undef, undef, undef, undef, undef, undef, undef, undef, undef, undef, undef, undef, undef, undef, undef, undef, undef, undef, undef, undef, undef, undef, undef, undef, undef, undef, undef, undef, undef, undef, undef, undef, undef, undef, undef, undef, undef, undef, undef, undef, undef, undef, undef, undef, undef, undef, undef, undef, undef, undef, undef, undef, undef, undef, undef, undef, undef], []⟩
noncomputable def rAct3 : Act := ⟨#[.slice none 0 0, .agg #[.string ⟨#[97, 112, 112, 101, 110, 100]⟩, .int .i64 3, .bool true, .bool false, .int .i64 1, .int .i64 1, .int .i64 1], .agg #[.string ⟨#[98, 105, 116, 99, 111, 117, 110, 116]⟩, .int .i64 (-2), .bool false, .bool false, .int .i64 1, .int .i64 1, .int .i64 1], .agg #[.string ⟨#[98, 105, 116, 111, 112]⟩, .int .i64 (-4), .bool true, .bool false, .int .i64 2, .int .i64 (-1), .int .i64 1], .agg #[.string ⟨#[98, 105, 116, 112, 111, 115]⟩, .int .i64 (-3), .bool false, .bool false, .int .i64 1, .int .i64 1, .int .i64 1], .agg #[.string ⟨#[99, 111, 112, 121]⟩, .int .i64 (-3), .bool true, .bool false, .int .i64 1, .int .i64 2, .int .i64 1], .agg #[.string ⟨#[100, 98, 115, 105, 122, 101]⟩, .int .i64 1, .bool false, .bool false, .int .i64 0, .int .i64 0, .int .i64 0], .agg #[.string ⟨#[100, 101, 99, 114]⟩, .int .i64 2, .bool true, .bool false, .int .i64 1, .int .i64 1, .int .i64 1], .agg #[.string ⟨#[100, 101, 99, 114, 98, 121]⟩, .int .i64 3, .bool true, .bool false, .int .i64 1, .int .i64 1, .int .i64 1], .agg #[.string ⟨#[100, 101, 108]⟩, .int .i64 (-2), .bool true, .bool false, .int .i64 1, .int .i64 (-1), .int .i64 1], .agg #[.string ⟨#[100, 105, 115, 99, 97, 114, 100]⟩, .int .i64 1, .bool false, .bool true, .int .i64 0, .int .i64 0, .int .i64 0], .agg #[.string ⟨#[100, 117, 109, 112]⟩, .int .i64 2, .bool false, .bool false, .int .i64 1, .int .i64 1, .int .i64 1], .agg #[.string ⟨#[101, 99, 104, 111]⟩, .int .i64 2, .bool false, .bool false, .int .i64 0, .int .i64 0, .int .i64 0], .agg #[.string ⟨#[101, 120, 101, 99]⟩, .int .i64 1, .bool false, .bool true, .int .i64 0, .int .i64 0, .int .i64 0], .agg #[.string ⟨#[101, 120, 105, 115, 116, 115]⟩, .int .i64 (-2), .bool false, .bool false, .int .i64 1, .int .i64 (-1), .int .i64 1], .agg #[.string ⟨#[101, 120, 112, 105, 114, 101]⟩, .int .i64 (-3), .bool true, .bool false, .int .i64 1, .int .i64 1, .int .i64 1], .agg #[.string ⟨#[101, 120, 112, 105, 114, 101, 97, 116]⟩, .int .i64 (-3), .bool true, .bool false, .int .i64 1, .int .i64 1, .int .i64 1], .agg #[.string ⟨#[101, 120, 112, 105, 114, 101, 116, 105, 109, 101]⟩, .int .i64 2, .bool false, .bool false, .int .i64 1, .int .i64 1, .int .i64 1], .agg #[.string ⟨#[102, 108, 117, 115, 104, 97, 108, 108]⟩, .int .i64 1, .bool true, .bool false, .int .i64 0, .int .i64 0, .int .i64 0], .agg #[.string ⟨#[102, 108, 117, 115, 104, 100, 98]⟩, .int .i64 1, .bool true, .bool false, .int .i64 0, .int .i64 0, .int .i64 0], .agg #[.string ⟨#[103, 101, 116]⟩, .int .i64 2, .bool false, .bool false, .int .i64 1, .int .i64 1, .int .i64 1], .agg #[.string ⟨#[103, 101, 116, 98, 105, 116]⟩, .int .i64 3, .bool false, .bool false, .int .i64 1, .int .i64 1, .int .i64 1], .agg #[.string ⟨#[103, 101, 116, 100, 101, 108]⟩, .int .i64 2, .bool true, .bool false, .int .i64 1, .int .i64 1, .int .i64 1], .agg #[.string ⟨#[103, 101, 116, 101, 120]⟩, .int .i64 (-2), .bool true, .bool false, .int .i64 1, .int .i64 1, .int .i64 1], .agg #[.string ⟨#[103, 101, 116, 114, 97, 110, 103, 101]⟩, .int .i64 4, .bool false, .bool false, .int .i64 1, .int .i64 1, .int .i64 1], .agg #[.string ⟨#[103, 101, 116, 115, 101, 116]⟩, .int .i64 3, .bool true, .bool false, .int .i64 1, .int .i64 1, .int .i64 1], .agg #[.string ⟨#[104, 100, 101, 108]⟩, .int .i64 (-3), .bool true, .bool false, .int .i64 1, .int .i64 1, .int .i64 1], .agg #[.string ⟨#[104, 101, 120, 105, 115, 116, 115]⟩, .int .i64 3, .bool false, .bool false, .int .i64 1, .int .i64 1, .int .i64 1], .agg #[.string ⟨#[104, 103, 101, 116]⟩, .int .i64 3, .bool false, .bool false, .int .i64 1, .int .i64 1, .int .i64 1], .agg #[.string ⟨#[104, 103, 101, 116, 97, 108, 108]⟩, .int .i64 2, .bool false, .bool false, .int .i64 1, .int .i64 1, .int .i64 1], .agg #[.string ⟨#[104, 105, 110, 99, 114, 98, 121]⟩, .int .i64 4, .bool true, .bool false, .int .i64 1, .int .i64 1, .int .i64 1], .agg #[.string ⟨#[104, 107, 101, 121, 115]⟩, .int .i64 2, .bool false, .bool false, .int .i64 1, .int .i64 1, .int .i64 1], .agg #[.string ⟨#[104, 108, 101, 110]⟩, .int .i64 2, .bool false, .bool false, .int .i64 1, .int .i64 1, .int .i64 1], .agg #[.string ⟨#[104, 109, 103, 101, 116]⟩, .int .i64 (-3), .bool false, .bool false, .int .i64 1, .int .i64 1, .int .i64 1], .agg #[.string ⟨#[104, 109, 115, 101, 116]⟩, .int .i64 (-4), .bool true, .bool false, .int .i64 1, .int .i64 1, .int .i64 1], .agg #[.string ⟨#[104, 115, 99, 97, 110]⟩, .int .i64 (-3), .bool false, .bool false, .int .i64 1, .int .i64 1, .int .i64 1], .agg #[.string ⟨#[104, 115, 101, 116]⟩, .int .i64 (-4), .bool true, .bool false, .int .i64 1, .int .i64 1, .int .i64 1], .agg #[.string ⟨#[104, 115, 101, 116, 110, 120]⟩, .int .i64 4, .bool true, .bool false, .int .i64 1, .int .i64 1, .int .i64 1], .agg #[.string ⟨#[104, 115, 116, 114, 108, 101, 110]⟩, .int .i64 3, .bool false, .bool false, .int .i64 1, .int .i64 1, .int .i64 1], .agg #[.string ⟨#[104, 118, 97, 108, 115]⟩, .int .i64 2, .bool false, .bool false, .int .i64 1, .int .i64 1, .int .i64 1], .agg #[.string ⟨#[105, 110, 99, 114]⟩, .int .i64 2, .bool true, .bool false, .int .i64 1, .int .i64 1, .int .i64 1], .agg #[.string ⟨#[105, 110, 99, 114, 98, 121]⟩, .int .i64 3, .bool true, .bool false, .int .i64 1, .int .i64 1, .int .i64 1], .agg #[.string ⟨#[107, 101, 121, 115]⟩, .int .i64 2, .bool false, .bool false, .int .i64 0, .int .i64 0, .int .i64 0], .agg #[.string ⟨#[108, 105, 110, 100, 101, 120]⟩, .int .i64 3, .bool false, .bool false, .int .i64 1, .int .i64 1, .int .i64 1], .agg #[.string ⟨#[108, 105, 110, 115, 101, 114, 116]⟩, .int .i64 5, .bool true, .bool false, .int .i64 1, .int .i64 1, .int .i64 1], .agg #[.string ⟨#[108, 108, 101, 110]⟩, .int .i64 2, .bool false, .bool false, .int .i64 1, .int .i64 1, .int .i64 1], .agg #[.string ⟨#[108, 109, 111, 118, 101]⟩, .int .i64 5, .bool true, .bool false, .int .i64 1, .int .i64 2, .int .i64 1], .agg #[.string ⟨#[108, 112, 111, 112]⟩, .int .i64 (-2), .bool true, .bool false, .int .i64 1, .int .i64 1, .int .i64 1], .agg #[.string ⟨#[108, 112, 111, 115]⟩, .int .i64 (-3), .bool false, .bool false, .int .i64 1, .int .i64 1, .int .i64 1], .agg #[.string ⟨#[108, 112, 117, 115, 104]⟩, .int .i64 (-3), .bool true, .bool false, .int .i64 1, .int .i64 1, .int .i64 1], .agg #[.string ⟨#[108, 112, 117, 115, 104, 120]⟩, .int .i64 (-3), .bool true, .bool false, .int .i64 1, .int .i64 1, .int .i64 1], .agg #[.string ⟨#[108, 114, 97, 110, 103, 101]⟩, .int .i64 4, .bool false, .bool false, .int .i64 1, .int .i64 1, .int .i64 1], .agg #[.string ⟨#[108, 114, 101, 109]⟩, .int .i64 4, .bool true, .bool false, .int .i64 1, .int .i64 1, .int .i64 1], .agg #[.string ⟨#[108, 115, 101, 116]⟩, .int .i64 4, .bool true, .bool false, .int .i64 1, .int .i64 1, .int .i64 1], .agg #[.string ⟨#[108, 116, 114, 105, 109]⟩, .int .i64 4, .bool true, .bool false, .int .i64 1, .int .i64 1, .int .i64 1], .agg #[.string ⟨#[109, 103, 101, 116]⟩, .int .i64 (-2), .bool false, .bool false, .int .i64 1, .int .i64 (-1), .int .i64 1], .agg #[.string ⟨#[109, 115, 101, 116]⟩, .int .i64 (-3), .bool true, .bool false, .int .i64 1, .int .i64 (-1), .int .i64 2], .agg #[.string ⟨#[109, 115, 101, 116, 110, 120]⟩, .int .i64 (-3), .bool true, .bool false, .int .i64 1, .int .i64 (-1), .int .i64 2], .agg #[.string ⟨#[109, 117, 108, 116, 105]⟩, .int .i64 1, .bool false, .bool true, .int .i64 0, .int .i64 0, .int .i64 0], .agg #[.string ⟨#[112, 101, 114, 115, 105, 115, 116]⟩, .int .i64 2, .bool true, .bool false, .int .i64 1, .int .i64 1, .int .i64 1], .agg #[.string ⟨#[112, 101, 120, 112, 105, 114, 101]⟩, .int .i64 (-3), .bool true, .bool false, .int .i64 1, .int .i64 1, .int .i64 1], undef, undef, undef, undef, undef, undef, undef, undef, undef, undef, undef, undef, undef, undef, undef, undef, undef, undef, undef, undef, undef, undef, undef, undef, undef, undef, undef, undef, undef, undef, undef, undef, undef, undef, undef, undef, undef, undef, undef, undef, undef, undef, undef, undef, undef, undef, undef, undef, undef, undef, undef, undef, undef, undef, undef, undef, undef, undef, undef], []⟩
noncomputable def rAct4 : Act := ⟨#[.slice none 0 0, .agg #[.string ⟨#[97, 112, 112, 101, 110, 100]⟩, .int .i64 3, .bool true, .bool false, .int .i64 1, .int .i64 1, .int .i64 1], .agg #[.string ⟨#[98, 105, 116, 99, 111, 117, 110, 116]⟩, .int .i64 (-2), .bool false, .bool false, .int .i64 1, .int .i64 1, .int .i64 1], .agg #[.string ⟨#[98, 105, 116, 111, 112]⟩, .int .i64 (-4), .bool true, .bool false, .int .i64 2, .int .i64 (-1), .int .i64 1], .agg #[.string ⟨#[98, 105, 116, 112, 111, 115]⟩, .int .i64 (-3), .bool false, .bool false, .int .i64 1, .int .i64 1, .int .i64 1], .agg #[.string ⟨#[99, 111, 112, 121]⟩, .int .i64 (-3), .bool true, .bool false, .int .i64 1, .int .i64 2, .int .i64 1], .agg #[.string ⟨#[100, 98, 115, 105, 122, 101]⟩, .int .i64 1, .bool false, .bool false, .int .i64 0, .int .i64 0, .int .i64 0], .agg #[.string ⟨#[100, 101, 99, 114]⟩, .int .i64 2, .bool true, .bool false, .int .i64 1, .int .i64 1, .int .i64 1], .agg #[.string ⟨#[100, 101, 99, 114, 98, 121]⟩, .int .i64 3, .bool true, .bool false, .int .i64 1, .int .i64 1, .int .i64 1], .agg #[.string ⟨#[100, 101, 108]⟩, .int .i64 (-2), .bool true, .bool false, .int .i64 1, .int .i64 (-1), .int .i64 1], .agg #[.string ⟨#[100, 105, 115, 99, 97, 114, 100]⟩, .int .i64 1, .bool false, .bool true, .int .i64 0, .int .i64 0, .int .i64 0], .agg #[.string ⟨#[100, 117, 109, 112]⟩, .int .i64 2, .bool false, .bool false, .int .i64 1, .int .i64 1, .int .i64 1], .agg #[.string ⟨#[101, 99, 104, 111]⟩, .int .i64 2, .bool false, .bool false, .int .i64 0, .int .i64 0, .int .i64 0], .agg #[.string ⟨#[101, 120, 101, 99]⟩, .int .i64 1, .bool false, .bool true, .int .i64 0, .int .i64 0, .int .i64 0], .agg #[.string ⟨#[101, 120, 105, 115, 116, 115]⟩, .int .i64 (-2), .bool false, .bool false, .int .i64 1, .int .i64 (-1), .int .i64 1], .agg #[.string ⟨#[101, 120, 112, 105, 114, 101]⟩, .int .i64 (-3), .bool true, .bool false, .int .i64 1, .int .i64 1, .int .i64 1], .agg #[.string ⟨#[101, 120, 112, 105, 114, 101, 97, 116]⟩, .int .i64 (-3), .bool true, .bool false, .int .i64 1, .int .i64 1, .int .i64 1], .agg #[.string ⟨#[101, 120, 112, 105, 114, 101, 116, 105, 109, 101]⟩, .int .i64 2, .bool false, .bool false, .int .i64 1, .int .i64 1, .int .i64 1], .agg #[.string ⟨#[102, 108, 117, 115, 104, 97, 108, 108]⟩, .int .i64 1, .bool true, .bool false, .int .i64 0, .int .i64 0, .int .i64 0], .agg #[.string ⟨#[102, 108, 117, 115, 104, 100, 98]⟩, .int .i64 1, .bool true, .bool false, .int .i64 0, .int .i64 0, .int .i64 0], .agg #[.string ⟨#[103, 101, 116]⟩, .int .i64 2, .bool false, .bool false, .int .i64 1, .int .i64 1, .int .i64 1], .agg #[.string ⟨#[103, 101, 116, 98, 105, 116]⟩, .int .i64 3, .bool false, .bool false, .int .i64 1, .int .i64 1, .int .i64 1], .agg #[.string ⟨#[103, 101, 116, 100, 101, 108]⟩, .int .i64 2, .bool true, .bool false, .int .i64 1, .int .i64 1, .int .i64 1], .agg #[.string ⟨#[103, 101, 116, 101, 120]⟩, .int .i64 (-2), .bool true, .bool false, .int .i64 1, .int .i64 1, .int .i64 1], .agg #[.string ⟨#[103, 101, 116, 114, 97, 110, 103, 101]⟩, .int .i64 4, .bool false, .bool false, .int .i64 1, .int .i64 1, .int .i64 1], .agg #[.string ⟨#[103, 101, 116, 115, 101, 116]⟩, .int .i64 3, .bool true, .bool false, .int .i64 1, .int .i64 1, .int .i64 1], .agg #[.string ⟨#[104, 100, 101, 108]⟩, .int .i64 (-3), .bool true, .bool false, .int .i64 1, .int .i64 1, .int .i64 1], .agg #[.string ⟨#[104, 101, 120, 105, 115, 116, 115]⟩, .int .i64 3, .bool false, .bool false, .int .i64 1, .int .i64 1, .int .i64 1], .agg #[.string ⟨#[104, 103, 101, 116]⟩, .int .i64 3, .bool false, .bool false, .int .i64 1, .int .i64 1, .int .i64 1], .agg #[.string ⟨#[104, 103, 101, 116, 97, 108, 108]⟩, .int .i64 2, .bool false, .bool false, .int .i64 1, .int .i64 1, .int .i64 1], .agg #[.string ⟨#[104, 105, 110, 99, 114, 98, 121]⟩, .int .i64 4, .bool true, .bool false, .int .i64 1, .int .i64 1, .int .i64 1], .agg #[.string ⟨#[104, 107, 101, 121, 115]⟩, .int .i64 2, .bool false, .bool false, .int .i64 1, .int .i64 1, .int .i64 1], .agg #[.string ⟨#[104, 108, 101, 110]⟩, .int .i64 2, .bool false, .bool false, .int .i64 1, .int .i64 1, .int .i64 1], .agg #[.string ⟨#[104, 109, 103, 101, 116]⟩, .int .i64 (-3), .bool false, .bool false, .int .i64 1, .int .i64 1, .int .i64 1], .agg #[.string ⟨#[104, 109, 115, 101, 116]⟩, .int .i64 (-4), .bool true, .bool false, .int .i64 1, .int .i64 1, .int .i64 1], .agg #[.string ⟨#[104, 115, 99, 97, 110]⟩, .int .i64 (-3), .bool false, .bool false, .int .i64 1, .int .i64 1, .int .i64 1], .agg #[.string ⟨#[104, 115, 101, 116]⟩, .int .i64 (-4), .bool true, .bool false, .int .i64 1, .int .i64 1, .int .i64 1], .agg #[.string ⟨#[104, 115, 101, 116, 110, 120]⟩, .int .i64 4, .bool true, .bool false, .int .i64 1, .int .i64 1, .int .i64 1], .agg #[.string ⟨#[104, 115, 116, 114, 108, 101, 110]⟩, .int .i64 3, .bool false, .bool false, .int .i64 1, .int .i64 1, .int .i64 1], .agg #[.string ⟨#[104, 118, 97, 108, 115]⟩, .int .i64 2, .bool false, .bool false, .int .i64 1, .int .i64 1, .int .i64 1], .agg #[.string ⟨#[105, 110, 99, 114]⟩, .int .i64 2, .bool true, .bool false, .int .i64 1, .int .i64 1, .int .i64 1], .agg #[.string ⟨#[105, 110, 99, 114, 98, 121]⟩, .int .i64 3, .bool true, .bool false, .int .i64 1, .int .i64 1, .int .i64 1], .agg #[.string ⟨#[107, 101, 121, 115]⟩, .int .i64 2, .bool false, .bool false, .int .i64 0, .int .i64 0, .int .i64 0], .agg #[.string ⟨#[108, 105, 110, 100, 101, 120]⟩, .int .i64 3, .bool false, .bool false, .int .i64 1, .int .i64 1, .int .i64 1], .agg #[.string ⟨#[108, 105, 110, 115, 101, 114, 116]⟩, .int .i64 5, .bool true, .bool false, .int .i64 1, .int .i64 1, .int .i64 1], .agg #[.string ⟨#[108, 108, 101, 110]⟩, .int .i64 2, .bool false, .bool false, .int .i64 1, .int .i64 1, .int .i64 1], .agg #[.string ⟨#[108, 109, 111, 118, 101]⟩, .int .i64 5, .bool true, .bool false, .int .i64 1, .int .i64 2, .int .i64 1], .agg #[.string ⟨#[108, 112, 111, 112]⟩, .int .i64 (-2), .bool true, .bool false, .int .i64 1, .int .i64 1, .int .i64 1], .agg #[.string ⟨#[108, 112, 111, 115]⟩, .int .i64 (-3), .bool false, .bool false, .int .i64 1, .int .i64 1, .int .i64 1], .agg #[.string ⟨#[108, 112, 117, 115, 104]⟩, .int .i64 (-3), .bool true, .bool false, .int .i64 1, .int .i64 1, .int .i64 1], .agg #[.string ⟨#[108, 112, 117, 115, 104, 120]⟩, .int .i64 (-3), .bool true, .bool false, .int .i64 1, .int .i64 1, .int .i64 1], .agg #[.string ⟨#[108, 114, 97, 110, 103, 101]⟩, .int .i64 4, .bool false, .bool false, .int .i64 1, .int .i64 1, .int .i64 1], .agg #[.string ⟨#[108, 114, 101, 109]⟩, .int .i64 4, .bool true, .bool false, .int .i64 1, .int .i64 1, .int .i64 1], .agg #[.string ⟨#[108, 115, 101, 116]⟩, .int .i64 4, .bool true, .bool false, .int .i64 1, .int .i64 1, .int .i64 1], .agg #[.string ⟨#[108, 116, 114, 105, 109]⟩, .int .i64 4, .bool true, .bool false, .int .i64 1, .int .i64 1, .int .i64 1], .agg #[.string ⟨#[109, 103, 101, 116]⟩, .int .i64 (-2), .bool false, .bool false, .int .i64 1, .int .i64 (-1), .int .i64 1], .agg #[.string ⟨#[109, 115, 101, 116]⟩, .int .i64 (-3), .bool true, .bool false, .int .i64 1, .int .i64 (-1), .int .i64 2], .agg #[.string ⟨#[109, 115, 101, 116, 110, 120]⟩, .int .i64 (-3), .bool true, .bool false, .int .i64 1, .int .i64 (-1), .int .i64 2], .agg #[.string ⟨#[109, 117, 108, 116, 105]⟩, .int .i64 1, .bool false, .bool true, .int .i64 0, .int .i64 0, .int .i64 0], .agg #[.string ⟨#[112, 101, 114, 115, 105, 115, 116]⟩, .int .i64 2, .bool true, .bool false, .int .i64 1, .int .i64 1, .int .i64 1], .agg #[.string ⟨#[112, 101, 120, 112, 105, 114, 101]⟩, .int .i64 (-3), .bool true, .bool false, .int .i64 1, .int .i64 1, .int .i64 1], .agg #[.string ⟨#[112, 101, 120, 112, 105, 114, 101, 97, 116]⟩, .int .i64 (-3), .bool true, .bool false, .int .i64 1, .int .i64 1, .int .i64 1], .agg #[.string ⟨#[112, 101, 120, 112, 105, 114, 101, 116, 105, 109, 101]⟩, .int .i64 2, .bool false, .bool false, .int .i64 1, .int .i64 1, .int .i64 1], .agg #[.string ⟨#[112, 105, 110, 103]⟩, .int .i64 (-1), .bool false, .bool false, .int .i64 0, .int .i64 0, .int .i64 0], .agg #[.string ⟨#[112, 115, 101, 116, 101, 120]⟩, .int .i64 4, .bool true, .bool false, .int .i64 1, .int .i64 1, .int .i64 1], .agg #[.string ⟨#[112, 116, 116, 108]⟩, .int .i64 2, .bool false, .bool false, .int .i64 1, .int .i64 1, .int .i64 1], .agg #[.string ⟨#[113, 117, 105, 116]⟩, .int .i64 1, .bool false, .bool true, .int .i64 0, .int .i64 0, .int .i64 0], .agg #[.string ⟨#[114, 101, 110, 97, 109, 101]⟩, .int .i64 3, .bool true, .bool false, .int .i64 1, .int .i64 2, .int .i64 1], .agg #[.string ⟨#[114, 101, 110, 97, 109, 101, 110, 120]⟩, .int .i64 3, .bool true, .bool false, .int .i64 1, .int .i64 2, .int .i64 1], .agg #[.string ⟨#[114, 101, 115, 101, 116]⟩, .int .i64 1, .bool false, .bool true, .int .i64 0, .int .i64 0, .int .i64 0], .agg #[.string ⟨#[114, 101, 115, 116, 111, 114, 101]⟩, .int .i64 (-4), .bool true, .bool false, .int .i64 1, .int .i64 1, .int .i64 1], .agg #[.string ⟨#[114, 112, 111, 112]⟩, .int .i64 (-2), .bool true, .bool false, .int .i64 1, .int .i64 1, .int .i64 1], .agg #[.string ⟨#[114, 112, 111, 112, 108, 112, 117, 115, 104]⟩, .int .i64 3, .bool true, .bool false, .int .i64 1, .int .i64 2, .int .i64 1], .agg #[.string ⟨#[114, 112, 117, 115, 104]⟩, .int .i64 (-3), .bool true, .bool false, .int .i64 1, .int .i64 1, .int .i64 1], .agg #[.string ⟨#[114, 112, 117, 115, 104, 120]⟩, .int .i64 (-3), .bool true, .bool false, .int .i64 1, .int .i64 1, .int .i64 1], .agg #[.string ⟨#[115, 97, 100, 100]⟩, .int .i64 (-3), .bool true, .bool false, .int .i64 1, .int .i64 1, .int .i64 1], .agg #[.string ⟨#[115, 99, 97, 110]⟩, .int .i64 (-2), .bool false, .bool false, .int .i64 0, .int .i64 0, .int .i64 0], .agg #[.string ⟨#[115, 99, 97, 114, 100]⟩, .int .i64 2, .bool false, .bool false, .int .i64 1, .int .i64 1, .int .i64 1], .agg #[.string ⟨#[115, 100, 105, 102, 102]⟩, .int .i64 (-2), .bool false, .bool false, .int .i64 1, .int .i64 (-1), .int .i64 1], .agg #[.string ⟨#[115, 100, 105, 102, 102, 115, 116, 111, 114, 101]⟩, .int .i64 (-3), .bool true, .bool false, .int .i64 1, .int .i64 (-1), .int .i64 1], .agg #[.string ⟨#[115, 101, 116]⟩, .int .i64 (-3), .bool true, .bool false, .int .i64 1, .int .i64 1, .int .i64 1], undef, undef, undef, undef, undef, undef, undef, undef, undef, undef, undef, undef, undef, undef, undef, undef, undef, undef, undef, undef, undef, undef, undef, undef, undef, undef, undef, undef, undef, undef, undef, undef, undef, undef, undef, undef, undef, undef, undef], []⟩
noncomputable def rAct5 : Act := ⟨#[.slice none 0 0, .agg #[.string ⟨#[97, 112, 112, 101, 110, 100]⟩, .int .i64 3, .bool true, .bool false, .int .i64 1, .int .i64 1, .int .i64 1], .agg #[.string ⟨#[98, 105, 116, 99, 111, 117, 110, 116]⟩, .int .i64 (-2), .bool false, .bool false, .int .i64 1, .int .i64 1, .int .i64 1], .agg #[.string ⟨#[98, 105, 116, 111, 112]⟩, .int .i64 (-4), .bool true, .bool false, .int .i64 2, .int .i64 (-1), .int .i64 1], .agg #[.string ⟨#[98, 105, 116, 112, 111, 115]⟩, .int .i64 (-3), .bool false, .bool false, .int .i64 1, .int .i64 1, .int .i64 1], .agg #[.string ⟨#[99, 111, 112, 121]⟩, .int .i64 (-3), .bool true, .bool false, .int .i64 1, .int .i64 2, .int .i64 1], .agg #[.string ⟨#[100, 98, 115, 105, 122, 101]⟩, .int .i64 1, .bool false, .bool false, .int .i64 0, .int .i64 0, .int .i64 0], .agg #[.string ⟨#[100, 101, 99, 114]⟩, .int .i64 2, .bool true, .bool false, .int .i64 1, .int .i64 1, .int .i64 1], .agg #[.string ⟨#[100, 101, 99, 114, 98, 121]⟩, .int .i64 3, .bool true, .bool false, .int .i64 1, .int .i64 1, .int .i64 1], .agg #[.string ⟨#[100, 101, 108]⟩, .int .i64 (-2), .bool true, .bool false, .int .i64 1, .int .i64 (-1), .int .i64 1], .agg #[.string ⟨#[100, 105, 115, 99, 97, 114, 100]⟩, .int .i64 1, .bool false, .bool true, .int .i64 0, .int .i64 0, .int .i64 0], .agg #[.string ⟨#[100, 117, 109, 112]⟩, .int .i64 2, .bool false, .bool false, .int .i64 1, .int .i64 1, .int .i64 1], .agg #[.string ⟨#[101, 99, 104, 111]⟩, .int .i64 2, .bool false, .bool false, .int .i64 0, .int .i64 0, .int .i64 0], .agg #[.string ⟨#[101, 120, 101, 99]⟩, .int .i64 1, .bool false, .bool true, .int .i64 0, .int .i64 0, .int .i64 0], .agg #[.string ⟨#[101, 120, 105, 115, 116, 115]⟩, .int .i64 (-2), .bool false, .bool false, .int .i64 1, .int .i64 (-1), .int .i64 1], .agg #[.string ⟨#[101, 120, 112, 105, 114, 101]⟩, .int .i64 (-3), .bool true, .bool false, .int .i64 1, .int .i64 1, .int .i64 1], .agg #[.string ⟨#[101, 120, 112, 105, 114, 101, 97, 116]⟩, .int .i64 (-3), .bool true, .bool false, .int .i64 1, .int .i64 1, .int .i64 1], .agg #[.string ⟨#[101, 120, 112, 105, 114, 101, 116, 105, 109, 101]⟩, .int .i64 2, .bool false, .bool false, .int .i64 1, .int .i64 1, .int .i64 1], .agg #[.string ⟨#[102, 108, 117, 115, 104, 97, 108, 108]⟩, .int .i64 1, .bool true, .bool false, .int .i64 0, .int .i64 0, .int .i64 0], .agg #[.string ⟨#[102, 108, 117, 115, 104, 100, 98]⟩, .int .i64 1, .bool true, .bool false, .int .i64 0, .int .i64 0, .int .i64 0], .agg #[.string ⟨#[103, 101, 116]⟩, .int .i64 2, .bool false, .bool false, .int .i64 1, .int .i64 1, .int .i64 1], .agg #[.string ⟨#[103, 101, 116, 98, 105, 116]⟩, .int .i64 3, .bool false, .bool false, .int .i64 1, .int .i64 1, .int .i64 1], .agg #[.string ⟨#[103, 101, 116, 100, 101, 108]⟩, .int .i64 2, .bool true, .bool false, .int .i64 1, .int .i64 1, .int .i64 1], .agg #[.string ⟨#[103, 101, 116, 101, 120]⟩, .int .i64 (-2), .bool true, .bool false, .int .i64 1, .int .i64 1, .int .i64 1], .agg #[.string ⟨#[103, 101, 116, 114, 97, 110, 103, 101]⟩, .int .i64 4, .bool false, .bool false, .int .i64 1, .int .i64 1, .int .i64 1], .agg #[.string ⟨#[103, 101, 116, 115, 101, 116]⟩, .int .i64 3, .bool true, .bool false, .int .i64 1, .int .i64 1, .int .i64 1], .agg #[.string ⟨#[104, 100, 101, 108]⟩, .int .i64 (-3), .bool true, .bool false, .int .i64 1, .int .i64 1, .int .i64 1], .agg #[.string ⟨#[104, 101, 120, 105, 115, 116, 115]⟩, .int .i64 3, .bool false, .bool false, .int .i64 1, .int .i64 1, .int .i64 1], .agg #[.string ⟨#[104, 103, 101, 116]⟩, .int .i64 3, .bool false, .bool false, .int .i64 1, .int .i64 1, .int .i64 1], .agg #[.string ⟨#[104, 103, 101, 116, 97, 108, 108]⟩, .int .i64 2, .bool false, .bool false, .int .i64 1, .int .i64 1, .int .i64 1], .agg #[.string ⟨#[104, 105, 110, 99, 114, 98, 121]⟩, .int .i64 4, .bool true, .bool false, .int .i64 1, .int .i64 1, .int .i64 1], .agg #[.string ⟨#[104, 107, 101, 121, 115]⟩, .int .i64 2, .bool false, .bool false, .int .i64 1, .int .i64 1, .int .i64 1], .agg #[.string ⟨#[104, 108, 101, 110]⟩, .int .i64 2, .bool false, .bool false, .int .i64 1, .int .i64 1, .int .i64 1], .agg #[.string ⟨#[104, 109, 103, 101, 116]⟩, .int .i64 (-3), .bool false, .bool false, .int .i64 1, .int .i64 1, .int .i64 1], .agg #[.string ⟨#[104, 109, 115, 101, 116]⟩, .int .i64 (-4), .bool true, .bool false, .int .i64 1, .int .i64 1, .int .i64 1], .agg #[.string ⟨#[104, 115, 99, 97, 110]⟩, .int .i64 (-3), .bool false, .bool false, .int .i64 1, .int .i64 1, .int .i64 1], .agg #[.string ⟨#[104, 115, 101, 116]⟩, .int .i64 (-4), .bool true, .bool false, .int .i64 1, .int .i64 1, .int .i64 1], .agg #[.string ⟨#[104, 115, 101, 116, 110, 120]⟩, .int .i64 4, .bool true, .bool false, .int .i64 1, .int .i64 1, .int .i64 1], .agg #[.string ⟨#[104, 115, 116, 114, 108, 101, 110]⟩, .int .i64 3, .bool false, .bool false, .int .i64 1, .int .i64 1, .int .i64 1], .agg #[.string ⟨#[104, 118, 97, 108, 115]⟩, .int .i64 2, .bool false, .bool false, .int .i64 1, .int .i64 1, .int .i64 1], .agg #[.string ⟨#[105, 110, 99, 114]⟩, .int .i64 2, .bool true, .bool false, .int .i64 1, .int .i64 1, .int .i64 1], .agg #[.string ⟨#[105, 110, 99, 114, 98, 121]⟩, .int .i64 3, .bool true, .bool false, .int .i64 1, .int .i64 1, .int .i64 1], .agg #[.string ⟨#[107, 101, 121, 115]⟩, .int .i64 2, .bool false, .bool false, .int .i64 0, .int .i64 0, .int .i64 0], .agg #[.string ⟨#[108, 105, 110, 100, 101, 120]⟩, .int .i64 3, .bool false, .bool false, .int .i64 1, .int .i64 1, .int .i64 1], .agg #[.string ⟨#[108, 105, 110, 115, 101, 114, 116]⟩, .int .i64 5, .bool true, .bool false, .int .i64 1, .int .i64 1, .int .i64 1], .agg #[.string ⟨#[108, 108, 101, 110]⟩, .int .i64 2, .bool false, .bool false, .int .i64 1, .int .i64 1, .int .i64 1], .agg #[.string ⟨#[108, 109, 111, 118, 101]⟩, .int .i64 5, .bool true, .bool false, .int .i64 1, .int .i64 2, .int .i64 1], .agg #[.string ⟨#[108, 112, 111, 112]⟩, .int .i64 (-2), .bool true, .bool false, .int .i64 1, .int .i64 1, .int .i64 1], .agg #[.string ⟨#[108, 112, 111, 115]⟩, .int .i64 (-3), .bool false, .bool false, .int .i64 1, .int .i64 1, .int .i64 1], .agg #[.string ⟨#[108, 112, 117, 115, 104]⟩, .int .i64 (-3), .bool true, .bool false, .int .i64 1, .int .i64 1, .int .i64 1], .agg #[.string ⟨#[108, 112, 117, 115, 104, 120]⟩, .int .i64 (-3), .bool true, .bool false, .int .i64 1, .int .i64 1, .int .i64 1], .agg #[.string ⟨#[108, 114, 97, 110, 103, 101]⟩, .int .i64 4, .bool false, .bool false, .int .i64 1, .int .i64 1, .int .i64 1], .agg #[.string ⟨#[108, 114, 101, 109]⟩, .int .i64 4, .bool true, .bool false, .int .i64 1, .int .i64 1, .int .i64 1], .agg #[.string ⟨#[108, 115, 101, 116]⟩, .int .i64 4, .bool true, .bool false, .int .i64 1, .int .i64 1, .int .i64 1], .agg #[.string ⟨#[108, 116, 114, 105, 109]⟩, .int .i64 4, .bool true, .bool false, .int .i64 1, .int .i64 1, .int .i64 1], .agg #[.string ⟨#[109, 103, 101, 116]⟩, .int .i64 (-2), .bool false, .bool false, .int .i64 1, .int .i64 (-1), .int .i64 1], .agg #[.string ⟨#[109, 115, 101, 116]⟩, .int .i64 (-3), .bool true, .bool false, .int .i64 1, .int .i64 (-1), .int .i64 2], .agg #[.string ⟨#[109, 115, 101, 116, 110, 120]⟩, .int .i64 (-3), .bool true, .bool false, .int .i64 1, .int .i64 (-1), .int .i64 2], .agg #[.string ⟨#[109, 117, 108, 116, 105]⟩, .int .i64 1, .bool false, .bool true, .int .i64 0, .int .i64 0, .int .i64 0], .agg #[.string ⟨#[112, 101, 114, 115, 105, 115, 116]⟩, .int .i64 2, .bool true, .bool false, .int .i64 1, .int .i64 1, .int .i64 1], .agg #[.string ⟨#[112, 101, 120, 112, 105, 114, 101]⟩, .int .i64 (-3), .bool true, .bool false, .int .i64 1, .int .i64 1, .int .i64 1], .agg #[.string ⟨#[112, 101, 120, 112, 105, 114, 101, 97, 116]⟩, .int .i64 (-3), .bool true, .bool false, .int .i64 1, .int .i64 1, .int .i64 1], .agg #[.string ⟨#[112, 101, 120, 112, 105, 114, 101, 116, 105, 109, 101]⟩, .int .i64 2, .bool false, .bool false, .int .i64 1, .int .i64 1, .int .i64 1], .agg #[.string ⟨#[112, 105, 110, 103]⟩, .int .i64 (-1), .bool false, .bool false, .int .i64 0, .int .i64 0, .int .i64 0], .agg #[.string ⟨#[112, 115, 101, 116, 101, 120]⟩, .int .i64 4, .bool true, .bool false, .int .i64 1, .int .i64 1, .int .i64 1], .agg #[.string ⟨#[112, 116, 116, 108]⟩, .int .i64 2, .bool false, .bool false, .int .i64 1, .int .i64 1, .int .i64 1], .agg #[.string ⟨#[113, 117, 105, 116]⟩, .int .i64 1, .bool false, .bool true, .int .i64 0, .int .i64 0, .int .i64 0], .agg #[.string ⟨#[114, 101, 110, 97, 109, 101]⟩, .int .i64 3, .bool true, .bool false, .int .i64 1, .int .i64 2, .int .i64 1], .agg #[.string ⟨#[114, 101, 110, 97, 109, 101, 110, 120]⟩, .int .i64 3, .bool true, .bool false, .int .i64 1, .int .i64 2, .int .i64 1], .agg #[.string ⟨#[114, 101, 115, 101, 116]⟩, .int .i64 1, .bool false, .bool true, .int .i64 0, .int .i64 0, .int .i64 0], .agg #[.string ⟨#[114, 101, 115, 116, 111, 114, 101]⟩, .int .i64 (-4), .bool true, .bool false, .int .i64 1, .int .i64 1, .int .i64 1], .agg #[.string ⟨#[114, 112, 111, 112]⟩, .int .i64 (-2), .bool true, .bool false, .int .i64 1, .int .i64 1, .int .i64 1], .agg #[.string ⟨#[114, 112, 111, 112, 108, 112, 117, 115, 104]⟩, .int .i64 3, .bool true, .bool false, .int .i64 1, .int .i64 2, .int .i64 1], .agg #[.string ⟨#[114, 112, 117, 115, 104]⟩, .int .i64 (-3), .bool true, .bool false, .int .i64 1, .int .i64 1, .int .i64 1], .agg #[.string ⟨#[114, 112, 117, 115, 104, 120]⟩, .int .i64 (-3), .bool true, .bool false, .int .i64 1, .int .i64 1, .int .i64 1], .agg #[.string ⟨#[115, 97, 100, 100]⟩, .int .i64 (-3), .bool true, .bool false, .int .i64 1, .int .i64 1, .int .i64 1], .agg #[.string ⟨#[115, 99, 97, 110]⟩, .int .i64 (-2), .bool false, .bool false, .int .i64 0, .int .i64 0, .int .i64 0], .agg #[.string ⟨#[115, 99, 97, 114, 100]⟩, .int .i64 2, .bool false, .bool false, .int .i64 1, .int .i64 1, .int .i64 1], .agg #[.string ⟨#[115, 100, 105, 102, 102]⟩, .int .i64 (-2), .bool false, .bool false, .int .i64 1, .int .i64 (-1), .int .i64 1], .agg #[.string ⟨#[115, 100, 105, 102, 102, 115, 116, 111, 114, 101]⟩, .int .i64 (-3), .bool true, .bool false, .int .i64 1, .int .i64 (-1), .int .i64 1], .agg #[.string ⟨#[115, 101, 116]⟩, .int .i64 (-3), .bool true, .bool false, .int .i64 1, .int .i64 1, .int .i64 1], .agg #[.string ⟨#[115, 101, 116, 98, 105, 116]⟩, .int .i64 4, .bool true, .bool false, .int .i64 1, .int .i64 1, .int .i64 1], .agg #[.string ⟨#[115, 101, 116, 101, 120]⟩, .int .i64 4, .bool true, .bool false, .int .i64 1, .int .i64 1, .int .i64 1], .agg #[.string ⟨#[115, 101, 116, 110, 120]⟩, .int .i64 3, .bool true, .bool false, .int .i64 1, .int .i64 1, .int .i64 1], .agg #[.string ⟨#[115, 101, 116, 114, 97, 110, 103, 101]⟩, .int .i64 4, .bool true, .bool false, .int .i64 1, .int .i64 1, .int .i64 1], .agg #[.string ⟨#[115, 105, 110, 116, 101, 114]⟩, .int .i64 (-2), .bool false, .bool false, .int .i64 1, .int .i64 (-1), .int .i64 1], .agg #[.string ⟨#[115, 105, 110, 116, 101, 114, 115, 116, 111, 114, 101]⟩, .int .i64 (-3), .bool true, .bool false, .int .i64 1, .int .i64 (-1), .int .i64 1], .agg #[.string ⟨#[115, 105, 115, 109, 101, 109, 98, 101, 114]⟩, .int .i64 3, .bool false, .bool false, .int .i64 1, .int .i64 1, .int .i64 1], .agg #[.string ⟨#[115, 109, 101, 109, 98, 101, 114, 115]⟩, .int .i64 2, .bool false, .bool false, .int .i64 1, .int .i64 1, .int .i64 1], .agg #[.string ⟨#[115, 109, 105, 115, 109, 101, 109, 98, 101, 114]⟩, .int .i64 (-3), .bool false, .bool false, .int .i64 1, .int .i64 1, .int .i64 1], .agg #[.string ⟨#[115, 109, 111, 118, 101]⟩, .int .i64 4, .bool true, .bool false, .int .i64 1, .int .i64 2, .int .i64 1], .agg #[.string ⟨#[115, 112, 111, 112]⟩, .int .i64 (-2), .bool true, .bool false, .int .i64 1, .int .i64 1, .int .i64 1], .agg #[.string ⟨#[115, 114, 101, 109]⟩, .int .i64 (-3), .bool true, .bool false, .int .i64 1, .int .i64 1, .int .i64 1], .agg #[.string ⟨#[115, 115, 99, 97, 110]⟩, .int .i64 (-3), .bool false, .bool false, .int .i64 1, .int .i64 1, .int .i64 1], .agg #[.string ⟨#[115, 116, 114, 108, 101, 110]⟩, .int .i64 2, .bool false, .bool false, .int .i64 1, .int .i64 1, .int .i64 1], .agg #[.string ⟨#[115, 117, 110, 105, 111, 110]⟩, .int .i64 (-2), .bool false, .bool false, .int .i64 1, .int .i64 (-1), .int .i64 1], .agg #[.string ⟨#[115, 117, 110, 105, 111, 110, 115, 116, 111, 114, 101]⟩, .int .i64 (-3), .bool true, .bool false, .int .i64 1, .int .i64 (-1), .int .i64 1], .agg #[.string ⟨#[116, 116, 108]⟩, .int .i64 2, .bool false, .bool false, .int .i64 1, .int .i64 1, .int .i64 1], .agg #[.string ⟨#[116, 121, 112, 101]⟩, .int .i64 2, .bool false, .bool false, .int .i64 1, .int .i64 1, .int .i64 1], .agg #[.string ⟨#[117, 110, 108, 105, 110, 107]⟩, .int .i64 (-2), .bool true, .bool false, .int .i64 1, .int .i64 (-1), .int .i64 1], .agg #[.string ⟨#[117, 110, 119, 97, 116, 99, 104]⟩, .int .i64 1, .bool false, .bool true, .int .i64 0, .int .i64 0, .int .i64 0], undef, undef, undef, undef, undef, undef, undef, undef, undef, undef, undef, undef, undef, undef, undef, undef, undef, undef, undef], []⟩
noncomputable def rAct6 : Act := ⟨#[.slice none 0 0, .agg #[.string ⟨#[97, 112, 112, 101, 110, 100]⟩, .int .i64 3, .bool true, .bool false, .int .i64 1, .int .i64 1, .int .i64 1], .agg #[.string ⟨#[98, 105, 116, 99, 111, 117, 110, 116]⟩, .int .i64 (-2), .bool false, .bool false, .int .i64 1, .int .i64 1, .int .i64 1], .agg #[.string ⟨#[98, 105, 116, 111, 112]⟩, .int .i64 (-4), .bool true, .bool false, .int .i64 2, .int .i64 (-1), .int .i64 1], .agg #[.string ⟨#[98, 105, 116, 112, 111, 115]⟩, .int .i64 (-3), .bool false, .bool false, .int .i64 1, .int .i64 1, .int .i64 1], .agg #[.string ⟨#[99, 111, 112, 121]⟩, .int .i64 (-3), .bool true, .bool false, .int .i64 1, .int .i64 2, .int .i64 1], .agg #[.string ⟨#[100, 98, 115, 105, 122, 101]⟩, .int .i64 1, .bool false, .bool false, .int .i64 0, .int .i64 0, .int .i64 0], .agg #[.string ⟨#[100, 101, 99, 114]⟩, .int .i64 2, .bool true, .bool false, .int .i64 1, .int .i64 1, .int .i64 1], .agg #[.string ⟨#[100, 101, 99, 114, 98, 121]⟩, .int .i64 3, .bool true, .bool false, .int .i64 1, .int .i64 1, .int .i64 1], .agg #[.string ⟨#[100, 101, 108]⟩, .int .i64 (-2), .bool true, .bool false, .int .i64 1, .int .i64 (-1), .int .i64 1], .agg #[.string ⟨#[100, 105, 115, 99, 97, 114, 100]⟩, .int .i64 1, .bool false, .bool true, .int .i64 0, .int .i64 0, .int .i64 0], .agg #[.string ⟨#[100, 117, 109, 112]⟩, .int .i64 2, .bool false, .bool false, .int .i64 1, .int .i64 1, .int .i64 1], .agg #[.string ⟨#[101, 99, 104, 111]⟩, .int .i64 2, .bool false, .bool false, .int .i64 0, .int .i64 0, .int .i64 0], .agg #[.string ⟨#[101, 120, 101, 99]⟩, .int .i64 1, .bool false, .bool true, .int .i64 0, .int .i64 0, .int .i64 0], .agg #[.string ⟨#[101, 120, 105, 115, 116, 115]⟩, .int .i64 (-2), .bool false, .bool false, .int .i64 1, .int .i64 (-1), .int .i64 1], .agg #[.string ⟨#[101, 120, 112, 105, 114, 101]⟩, .int .i64 (-3), .bool true, .bool false, .int .i64 1, .int .i64 1, .int .i64 1], .agg #[.string ⟨#[101, 120, 112, 105, 114, 101, 97, 116]⟩, .int .i64 (-3), .bool true, .bool false, .int .i64 1, .int .i64 1, .int .i64 1], .agg #[.string ⟨#[101, 120, 112, 105, 114, 101, 116, 105, 109, 101]⟩, .int .i64 2, .bool false, .bool false, .int .i64 1, .int .i64 1, .int .i64 1], .agg #[.string ⟨#[102, 108, 117, 115, 104, 97, 108, 108]⟩, .int .i64 1, .bool true, .bool false, .int .i64 0, .int .i64 0, .int .i64 0], .agg #[.string ⟨#[102, 108, 117, 115, 104, 100, 98]⟩, .int .i64 1, .bool true, .bool false, .int .i64 0, .int .i64 0, .int .i64 0], .agg #[.string ⟨#[103, 101, 116]⟩, .int .i64 2, .bool false, .bool false, .int .i64 1, .int .i64 1, .int .i64 1], .agg #[.string ⟨#[103, 101, 116, 98, 105, 116]⟩, .int .i64 3, .bool false, .bool false, .int .i64 1, .int .i64 1, .int .i64 1], .agg #[.string ⟨#[103, 101, 116, 100, 101, 108]⟩, .int .i64 2, .bool true, .bool false, .int .i64 1, .int .i64 1, .int .i64 1], .agg #[.string ⟨#[103, 101, 116, 101, 120]⟩, .int .i64 (-2), .bool true, .bool false, .int .i64 1, .int .i64 1, .int .i64 1], .agg #[.string ⟨#[103, 101, 116, 114, 97, 110, 103, 101]⟩, .int .i64 4, .bool false, .bool false, .int .i64 1, .int .i64 1, .int .i64 1], .agg #[.string ⟨#[103, 101, 116, 115, 101, 116]⟩, .int .i64 3, .bool true, .bool false, .int .i64 1, .int .i64 1, .int .i64 1], .agg #[.string ⟨#[104, 100, 101, 108]⟩, .int .i64 (-3), .bool true, .bool false, .int .i64 1, .int .i64 1, .int .i64 1], .agg #[.string ⟨#[104, 101, 120, 105, 115, 116, 115]⟩, .int .i64 3, .bool false, .bool false, .int .i64 1, .int .i64 1, .int .i64 1], .agg #[.string ⟨#[104, 103, 101, 116]⟩, .int .i64 3, .bool false, .bool false, .int .i64 1, .int .i64 1, .int .i64 1], .agg #[.string ⟨#[104, 103, 101, 116, 97, 108, 108]⟩, .int .i64 2, .bool false, .bool false, .int .i64 1, .int .i64 1, .int .i64 1], .agg #[.string ⟨#[104, 105, 110, 99, 114, 98, 121]⟩, .int .i64 4, .bool true, .bool false, .int .i64 1, .int .i64 1, .int .i64 1], .agg #[.string ⟨#[104, 107, 101, 121, 115]⟩, .int .i64 2, .bool false, .bool false, .int .i64 1, .int .i64 1, .int .i64 1], .agg #[.string ⟨#[104, 108, 101, 110]⟩, .int .i64 2, .bool false, .bool false, .int .i64 1, .int .i64 1, .int .i64 1], .agg #[.string ⟨#[104, 109, 103, 101, 116]⟩, .int .i64 (-3), .bool false, .bool false, .int .i64 1, .int .i64 1, .int .i64 1], .agg #[.string ⟨#[104, 109, 115, 101, 116]⟩, .int .i64 (-4), .bool true, .bool false, .int .i64 1, .int .i64 1, .int .i64 1], .agg #[.string ⟨#[104, 115, 99, 97, 110]⟩, .int .i64 (-3), .bool false, .bool false, .int .i64 1, .int .i64 1, .int .i64 1], .agg #[.string ⟨#[104, 115, 101, 116]⟩, .int .i64 (-4), .bool true, .bool false, .int .i64 1, .int .i64 1, .int .i64 1], .agg #[.string ⟨#[104, 115, 101, 116, 110, 120]⟩, .int .i64 4, .bool true, .bool false, .int .i64 1, .int .i64 1, .int .i64 1], .agg #[.string ⟨#[104, 115, 116, 114, 108, 101, 110]⟩, .int .i64 3, .bool false, .bool false, .int .i64 1, .int .i64 1, .int .i64 1], .agg #[.string ⟨#[104, 118, 97, 108, 115]⟩, .int .i64 2, .bool false, .bool false, .int .i64 1, .int .i64 1, .int .i64 1], .agg #[.string ⟨#[105, 110, 99, 114]⟩, .int .i64 2, .bool true, .bool false, .int .i64 1, .int .i64 1, .int .i64 1], .agg #[.string ⟨#[105, 110, 99, 114, 98, 121]⟩, .int .i64 3, .bool true, .bool false, .int .i64 1, .int .i64 1, .int .i64 1], .agg #[.string ⟨#[107, 101, 121, 115]⟩, .int .i64 2, .bool false, .bool false, .int .i64 0, .int .i64 0, .int .i64 0], .agg #[.string ⟨#[108, 105, 110, 100, 101, 120]⟩, .int .i64 3, .bool false, .bool false, .int .i64 1, .int .i64 1, .int .i64 1], .agg #[.string ⟨#[108, 105, 110, 115, 101, 114, 116]⟩, .int .i64 5, .bool true, .bool false, .int .i64 1, .int .i64 1, .int .i64 1], .agg #[.string ⟨#[108, 108, 101, 110]⟩, .int .i64 2, .bool false, .bool false, .int .i64 1, .int .i64 1, .int .i64 1], .agg #[.string ⟨#[108, 109, 111, 118, 101]⟩, .int .i64 5, .bool true, .bool false, .int .i64 1, .int .i64 2, .int .i64 1], .agg #[.string ⟨#[108, 112, 111, 112]⟩, .int .i64 (-2), .bool true, .bool false, .int .i64 1, .int .i64 1, .int .i64 1], .agg #[.string ⟨#[108, 112, 111, 115]⟩, .int .i64 (-3), .bool false, .bool false, .int .i64 1, .int .i64 1, .int .i64 1], .agg #[.string ⟨#[108, 112, 117, 115, 104]⟩, .int .i64 (-3), .bool true, .bool false, .int .i64 1, .int .i64 1, .int .i64 1], .agg #[.string ⟨#[108, 112, 117, 115, 104, 120]⟩, .int .i64 (-3), .bool true, .bool false, .int .i64 1, .int .i64 1, .int .i64 1], .agg #[.string ⟨#[108, 114, 97, 110, 103, 101]⟩, .int .i64 4, .bool false, .bool false, .int .i64 1, .int .i64 1, .int .i64 1], .agg #[.string ⟨#[108, 114, 101, 109]⟩, .int .i64 4, .bool true, .bool false, .int .i64 1, .int .i64 1, .int .i64 1], .agg #[.string ⟨#[108, 115, 101, 116]⟩, .int .i64 4, .bool true, .bool false, .int .i64 1, .int .i64 1, .int .i64 1], .agg #[.string ⟨#[108, 116, 114, 105, 109]⟩, .int .i64 4, .bool true, .bool false, .int .i64 1, .int .i64 1, .int .i64 1], .agg #[.string ⟨#[109, 103, 101, 116]⟩, .int .i64 (-2), .bool false, .bool false, .int .i64 1, .int .i64 (-1), .int .i64 1], .agg #[.string ⟨#[109, 115, 101, 116]⟩, .int .i64 (-3), .bool true, .bool false, .int .i64 1, .int .i64 (-1), .int .i64 2], .agg #[.string ⟨#[109, 115, 101, 116, 110, 120]⟩, .int .i64 (-3), .bool true, .bool false, .int .i64 1, .int .i64 (-1), .int .i64 2], .agg #[.string ⟨#[109, 117, 108, 116, 105]⟩, .int .i64 1, .bool false, .bool true, .int .i64 0, .int .i64 0, .int .i64 0], .agg #[.string ⟨#[112, 101, 114, 115, 105, 115, 116]⟩, .int .i64 2, .bool true, .bool false, .int .i64 1, .int .i64 1, .int .i64 1], .agg #[.string ⟨#[112, 101, 120, 112, 105, 114, 101]⟩, .int .i64 (-3), .bool true, .bool false, .int .i64 1, .int .i64 1, .int .i64 1], .agg #[.string ⟨#[112, 101, 120, 112, 105, 114, 101, 97, 116]⟩, .int .i64 (-3), .bool true, .bool false, .int .i64 1, .int .i64 1, .int .i64 1], .agg #[.string ⟨#[112, 101, 120, 112, 105, 114, 101, 116, 105, 109, 101]⟩, .int .i64 2, .bool false, .bool false, .int .i64 1, .int .i64 1, .int .i64 1], .agg #[.string ⟨#[112, 105, 110, 103]⟩, .int .i64 (-1), .bool false, .bool false, .int .i64 0, .int .i64 0, .int .i64 0], .agg #[.string ⟨#[112, 115, 101, 116, 101, 120]⟩, .int .i64 4, .bool true, .bool false, .int .i64 1, .int .i64 1, .int .i64 1], .agg #[.string ⟨#[112, 116, 116, 108]⟩, .int .i64 2, .bool false, .bool false, .int .i64 1, .int .i64 1, .int .i64 1], .agg #[.string ⟨#[113, 117, 105, 116]⟩, .int .i64 1, .bool false, .bool true, .int .i64 0, .int .i64 0, .int .i64 0], .agg #[.string ⟨#[114, 101, 110, 97, 109, 101]⟩, .int .i64 3, .bool true, .bool false, .int .i64 1, .int .i64 2, .int .i64 1], .agg #[.string ⟨#[114, 101, 110, 97, 109, 101, 110, 120]⟩, .int .i64 3, .bool true, .bool false, .int .i64 1, .int .i64 2, .int .i64 1], .agg #[.string ⟨#[114, 101, 115, 101, 116]⟩, .int .i64 1, .bool false, .bool true, .int .i64 0, .int .i64 0, .int .i64 0], .agg #[.string ⟨#[114, 101, 115, 116, 111, 114, 101]⟩, .int .i64 (-4), .bool true, .bool false, .int .i64 1, .int .i64 1, .int .i64 1], .agg #[.string ⟨#[114, 112, 111, 112]⟩, .int .i64 (-2), .bool true, .bool false, .int .i64 1, .int .i64 1, .int .i64 1], .agg #[.string ⟨#[114, 112, 111, 112, 108, 112, 117, 115, 104]⟩, .int .i64 3, .bool true, .bool false, .int .i64 1, .int .i64 2, .int .i64 1], .agg #[.string ⟨#[114, 112, 117, 115, 104]⟩, .int .i64 (-3), .bool true, .bool false, .int .i64 1, .int .i64 1, .int .i64 1], .agg #[.string ⟨#[114, 112, 117, 115, 104, 120]⟩, .int .i64 (-3), .bool true, .bool false, .int .i64 1, .int .i64 1, .int .i64 1], .agg #[.string ⟨#[115, 97, 100, 100]⟩, .int .i64 (-3), .bool true, .bool false, .int .i64 1, .int .i64 1, .int .i64 1], .agg #[.string ⟨#[115, 99, 97, 110]⟩, .int .i64 (-2), .bool false, .bool false, .int .i64 0, .int .i64 0, .int .i64 0], .agg #[.string ⟨#[115, 99, 97, 114, 100]⟩, .int .i64 2, .bool false, .bool false, .int .i64 1, .int .i64 1, .int .i64 1], .agg #[.string ⟨#[115, 100, 105, 102, 102]⟩, .int .i64 (-2), .bool false, .bool false, .int .i64 1, .int .i64 (-1), .int .i64 1], .agg #[.string ⟨#[115, 100, 105, 102, 102, 115, 116, 111, 114, 101]⟩, .int .i64 (-3), .bool true, .bool false, .int .i64 1, .int .i64 (-1), .int .i64 1], .agg #[.string ⟨#[115, 101, 116]⟩, .int .i64 (-3), .bool true, .bool false, .int .i64 1, .int .i64 1, .int .i64 1], .agg #[.string ⟨#[115, 101, 116, 98, 105, 116]⟩, .int .i64 4, .bool true, .bool false, .int .i64 1, .int .i64 1, .int .i64 1], .agg #[.string ⟨#[115, 101, 116, 101, 120]⟩, .int .i64 4, .bool true, .bool false, .int .i64 1, .int .i64 1, .int .i64 1], .agg #[.string ⟨#[115, 101, 116, 110, 120]⟩, .int .i64 3, .bool true, .bool false, .int .i64 1, .int .i64 1, .int .i64 1], .agg #[.string ⟨#[115, 101, 116, 114, 97, 110, 103, 101]⟩, .int .i64 4, .bool true, .bool false, .int .i64 1, .int .i64 1, .int .i64 1], .agg #[.string ⟨#[115, 105, 110, 116, 101, 114]⟩, .int .i64 (-2), .bool false, .bool false, .int .i64 1, .int .i64 (-1), .int .i64 1], .agg #[.string ⟨#[115, 105, 110, 116, 101, 114, 115, 116, 111, 114, 101]⟩, .int .i64 (-3), .bool true, .bool false, .int .i64 1, .int .i64 (-1), .int .i64 1], .agg #[.string ⟨#[115, 105, 115, 109, 101, 109, 98, 101, 114]⟩, .int .i64 3, .bool false, .bool false, .int .i64 1, .int .i64 1, .int .i64 1], .agg #[.string ⟨#[115, 109, 101, 109, 98, 101, 114, 115]⟩, .int .i64 2, .bool false, .bool false, .int .i64 1, .int .i64 1, .int .i64 1], .agg #[.string ⟨#[115, 109, 105, 115, 109, 101, 109, 98, 101, 114]⟩, .int .i64 (-3), .bool false, .bool false, .int .i64 1, .int .i64 1, .int .i64 1], .agg #[.string ⟨#[115, 109, 111, 118, 101]⟩, .int .i64 4, .bool true, .bool false, .int .i64 1, .int .i64 2, .int .i64 1], .agg #[.string ⟨#[115, 112, 111, 112]⟩, .int .i64 (-2), .bool true, .bool false, .int .i64 1, .int .i64 1, .int .i64 1], .agg #[.string ⟨#[115, 114, 101, 109]⟩, .int .i64 (-3), .bool true, .bool false, .int .i64 1, .int .i64 1, .int .i64 1], .agg #[.string ⟨#[115, 115, 99, 97, 110]⟩, .int .i64 (-3), .bool false, .bool false, .int .i64 1, .int .i64 1, .int .i64 1], .agg #[.string ⟨#[115, 116, 114, 108, 101, 110]⟩, .int .i64 2, .bool false, .bool false, .int .i64 1, .int .i64 1, .int .i64 1], .agg #[.string ⟨#[115, 117, 110, 105, 111, 110]⟩, .int .i64 (-2), .bool false, .bool false, .int .i64 1, .int .i64 (-1), .int .i64 1], .agg #[.string ⟨#[115, 117, 110, 105, 111, 110, 115, 116, 111, 114, 101]⟩, .int .i64 (-3), .bool true, .bool false, .int .i64 1, .int .i64 (-1), .int .i64 1], .agg #[.string ⟨#[116, 116, 108]⟩, .int .i64 2, .bool false, .bool false, .int .i64 1, .int .i64 1, .int .i64 1], .agg #[.string ⟨#[116, 121, 112, 101]⟩, .int .i64 2, .bool false, .bool false, .int .i64 1, .int .i64 1, .int .i64 1], .agg #[.string ⟨#[117, 110, 108, 105, 110, 107]⟩, .int .i64 (-2), .bool true, .bool false, .int .i64 1, .int .i64 (-1), .int .i64 1], .agg #[.string ⟨#[117, 110, 119, 97, 116, 99, 104]⟩, .int .i64 1, .bool false, .bool true, .int .i64 0, .int .i64 0, .int .i64 0], .agg #[.string ⟨#[119, 97, 116, 99, 104]⟩, .int .i64 (-2), .bool false, .bool true, .int .i64 1, .int .i64 (-1), .int .i64 1], .agg #[.string ⟨#[122, 97, 100, 100]⟩, .int .i64 (-4), .bool true, .bool false, .int .i64 1, .int .i64 1, .int .i64 1], .agg #[.string ⟨#[122, 99, 97, 114, 100]⟩, .int .i64 2, .bool false, .bool false, .int .i64 1, .int .i64 1, .int .i64 1], .agg #[.string ⟨#[122, 99, 111, 117, 110, 116]⟩, .int .i64 4, .bool false, .bool false, .int .i64 1, .int .i64 1, .int .i64 1], .agg #[.string ⟨#[122, 105, 110, 99, 114, 98, 121]⟩, .int .i64 4, .bool true, .bool false, .int .i64 1, .int .i64 1, .int .i64 1], .agg #[.string ⟨#[122, 108, 101, 120, 99, 111, 117, 110, 116]⟩, .int .i64 4, .bool false, .bool false, .int .i64 1, .int .i64 1, .int .i64 1], .agg #[.string ⟨#[122, 109, 115, 99, 111, 114, 101]⟩, .int .i64 (-3), .bool false, .bool false, .int .i64 1, .int .i64 1, .int .i64 1], .agg #[.string ⟨#[122, 112, 111, 112, 109, 97, 120]⟩, .int .i64 (-2), .bool true, .bool false, .int .i64 1, .int .i64 1, .int .i64 1], .agg #[.string ⟨#[122, 112, 111, 112, 109, 105, 110]⟩, .int .i64 (-2), .bool true, .bool false, .int .i64 1, .int .i64 1, .int .i64 1], .agg #[.string ⟨#[122, 114, 97, 110, 103, 101]⟩, .int .i64 (-4), .bool false, .bool false, .int .i64 1, .int .i64 1, .int .i64 1], .agg #[.string ⟨#[122, 114, 97, 110, 107]⟩, .int .i64 3, .bool false, .bool false, .int .i64 1, .int .i64 1, .int .i64 1], .agg #[.string ⟨#[122, 114, 101, 109]⟩, .int .i64 (-3), .bool true, .bool false, .int .i64 1, .int .i64 1, .int .i64 1], .agg #[.string ⟨#[122, 114, 101, 109, 114, 97, 110, 103, 101, 98, 121, 108, 101, 120]⟩, .int .i64 4, .bool true, .bool false, .int .i64 1, .int .i64 1, .int .i64 1], .agg #[.string ⟨#[122, 114, 101, 109, 114, 97, 110, 103, 101, 98, 121, 114, 97, 110, 107]⟩, .int .i64 4, .bool true, .bool false, .int .i64 1, .int .i64 1, .int .i64 1], .agg #[.string ⟨#[122, 114, 101, 109, 114, 97, 110, 103, 101, 98, 121, 115, 99, 111, 114, 101]⟩, .int .i64 4, .bool true, .bool false, .int .i64 1, .int .i64 1, .int .i64 1], .agg #[.string ⟨#[122, 114, 101, 118, 114, 97, 110, 107]⟩, .int .i64 3, .bool false, .bool false, .int .i64 1, .int .i64 1, .int .i64 1], .agg #[.string ⟨#[122, 115, 99, 97, 110]⟩, .int .i64 (-3), .bool false, .bool false, .int .i64 1, .int .i64 1, .int .i64 1], .agg #[.string ⟨#[122, 115, 99, 111, 114, 101]⟩, .int .i64 3, .bool false, .bool false, .int .i64 1, .int .i64 1, .int .i64 1], undef], []⟩
set_option maxRecDepth 100000 in
theorem rrun0 (w : World) : runList Tryz.prog rOps ((rOps.toList.drop 0).take 20) rAct0 w = some (rAct1, w) := by kernel_rfl
set_option maxRecDepth 100000 in
theorem rrun1 (w : World) : runList Tryz.prog rOps ((rOps.toList.drop 20).take 20) rAct1 w = some (rAct2, w) := by kernel_rfl
set_option maxRecDepth 100000 in
theorem rrun2 (w : World) : runList Tryz.prog rOps ((rOps.toList.drop 40).take 20) rAct2 w = some (rAct3, w) := by kernel_rfl
set_option maxRecDepth 100000 in
theorem rrun3 (w : World) : runList Tryz.prog rOps ((rOps.toList.drop 60).take 20) rAct3 w = some (rAct4, w) := by kernel_rfl
set_option maxRecDepth 100000 in
theorem rrun4 (w : World) : runList Tryz.prog rOps ((rOps.toList.drop 80).take 20) rAct4 w = some (rAct5, w) := by kernel_rfl
set_option maxRecDepth 100000 in
theorem rrun5 (w : World) : runList Tryz.prog rOps ((rOps.toList.drop 100).take 18) rAct5 w = some (rAct6, w) := by kernel_rfl
/-- A slice of written structs: its parts are laid one behind the other. -/
theorem foldl_zip (o : Nat) : ∀ (l : List Value) (j : Nat) (cs : Array Value), (l.zipIdx j).foldl (fun cs p => cs.setIfInBounds (o + p.2) p.1) cs = setMany cs (o + j) l
  | [], _, _ => rfl
  | v :: r, j, cs => by
    rw [List.zipIdx_cons, List.foldl_cons, foldl_zip o r (j + 1)]
    rfl
theorem setMany_app : ∀ (a b : List Value) (cs : Array Value) (o : Nat), setMany cs o (a ++ b) = setMany (setMany cs o a) (o + a.length) b
  | [], _, _, _ => rfl
  | v :: r, b, cs, o => by
    rw [List.cons_append, setMany, setMany_app r b, setMany, List.length_cons]
    congr 1; omega
theorem fill_rows {sz N : Nat} (vs : List Value) : ∀ (k : Nat) (cs : Array Value), (∀ v ∈ vs, v.cells.size = sz) → cs.size = N * sz → k + vs.length ≤ N →
    Instr.fill (fun i => some (i * sz, sz)) cs ((vs.zipIdx k).map fun p => (p.2, p.1)) = some (setMany cs (k * sz) (vs.flatMap fun v => v.cells.toList)) := by
  induction vs with
  | nil => intro k cs _ _ _; rfl
  | cons v r ih =>
    intro k cs hv hc hk
    have h1 := hv v (by simp)
    have hk2 : k + 1 + r.length ≤ N := by simp at hk; omega
    have hle : k * sz + sz ≤ cs.size := by
      rw [hc, ← Nat.succ_mul]
      exact Nat.mul_le_mul_right _ (by omega)
    rw [List.zipIdx_cons, List.map_cons, Instr.fill]
    simp only
    rw [if_neg (by simp [h1]; omega)]
    have hf : v.cells.zipIdx.foldl (fun cs p => cs.setIfInBounds (k * sz + p.2) p.1) cs = setMany cs (k * sz) v.cells.toList := by
      rw [← Array.foldl_toList, Array.toList_zipIdx]
      exact foldl_zip (k * sz) v.cells.toList 0 cs
    have hf2 : Array.foldl (fun cs x => match x with | (c, j) => cs.setIfInBounds (k * sz + j) c) cs v.cells.zipIdx = setMany cs (k * sz) v.cells.toList := hf
    rw [hf2, ih (k + 1) _ (fun u hu => hv u (by simp [hu])) (by rw [setMany_size]; exact hc) hk2, List.flatMap_cons, setMany_app]
    congr 2
    rw [Nat.succ_mul, Array.length_toList, h1]
theorem setMany_whole {cs : Array Value} {l : List Value} (h : l.length = cs.size) : setMany cs 0 l = l.toArray := by
  apply Array.ext_getElem?
  intro k
  rw [setMany_get l cs 0 (by omega) k, if_neg (by omega)]
  by_cases hk : k < 0 + l.length
  · rw [if_pos hk]; simp
  · rw [if_neg hk, Array.getElem?_eq_none (by omega), Array.getElem?_eq_none (by simp; omega)]
theorem run_bslice {P : Program} {t e : TypeId} {i : TypeInfo} {z : Value} (ht : P.underlying t = some (.slice e)) (hi : P.info? e = some i) (hz : i.zero = some z) {sz n : Nat} (hs : i.size = sz) (vs : List Value) (hl : vs.length = n) (hv : ∀ v ∈ vs, v.cells.size = sz) (h0 : n * sz ≤ 16777216)
    {parts : Array (Nat × Value)} (hp : parts.toList = vs.zipIdx.map fun p => (p.2, p.1)) (w : World) :
    (Instr.buildSlice t n parts).run P w = .ok (.slice (some ⟨w.heap.size, 0, none⟩) n n) (w.alloc (.cells (vs.flatMap fun v => v.cells.toList).toArray e)) := by
  subst hs
  have hlen : (vs.flatMap fun v => v.cells.toList).length = n * i.size := by
    rw [List.length_flatMap, ← hl]
    have : vs.map (fun v => v.cells.toList.length) = vs.map fun _ => i.size := List.map_congr_left fun v hm => by rw [Array.length_toList]; exact hv v hm
    rw [this, List.map_const']
    simp
  have hfill : ∀ cs : Array Value, cs.size = n * i.size → Instr.fill (fun j => some (j * i.size, i.size)) cs parts.toList = some (vs.flatMap fun v => v.cells.toList).toArray := fun cs hc => by
    rw [hp, fill_rows (N := n) vs 0 cs hv hc (by omega), Nat.zero_mul, setMany_whole (by rw [hlen, hc])]
  have hso : (sizeOf e).run P w = .ok i.size w := by simp [sizeOf, typeInfo, hi]
  have hzv : (zeroValue e).run P w = .ok z w := by simp [zeroValue, typeInfo, hi, hz]
  have hgt : ¬ (16777216 < n * i.size) := by omega
  by_cases hz0 : n * i.size = 0
  · have hf := hfill ((Array.range (n * i.size)).map fun x => (#[] : Array Value)[x % (#[] : Array Value).size]!) (by simp)
    simp only [hz0] at hf
    simp [Instr.buildSlice, run_underlying ht, hso, hz0, Result.andThen] at hf ⊢
    simp [hf, newRow, newObj, Result.andThen]
    rfl
  · have hf := hfill ((Array.range (n * i.size)).map fun x => z.cells[x % z.cells.size]!) (by simp)
    simp [Instr.buildSlice, run_underlying ht, hso, hgt, hz0, hzv, Result.andThen] at hf ⊢
    simp [hf, newRow, newObj, Result.andThen]
    rfl
theorem wpList_bslice {P : Program} {ops : Array Oper} {rest : List Oper} {op : Oper} {a : Act} {w : World} {Q : Exit → Act → World → Prop} (hg : op.guard = none) {t e : TypeId} {i : TypeInfo} {z : Value} {n sz : Nat} {parts : Array (Nat × Operand)} (hop : op.op = Op.buildSlice t n parts)
    (ht : P.underlying t = some (.slice e)) (hi : P.info? e = some i) (hz : i.zero = some z) (hs : i.size = sz) (vs : List Value) (hl : vs.length = n) (hv : ∀ v ∈ vs, v.cells.size = sz) (h0 : n * sz ≤ 16777216)
    (hp : (parts.map fun p => (p.1, a.eval p.2)).toList = vs.zipIdx.map fun p => (p.2, p.1))
    (hK : wpList P ops Q rest (a.put op.dst (.slice (some ⟨w.heap.size, 0, none⟩) n n)) (w.alloc (.cells (vs.flatMap fun v => v.cells.toList).toArray e))) : wpList P ops Q (op :: rest) a w := by
  refine wpList_plain hg fun K' hK' => ?_
  have hrun := run_bslice (P := P) ht hi hz hs vs hl hv h0 hp w
  unfold Oper.wp
  simp only [execOp, hop, Sem.run_bind]
  rw [show (parts.map fun x => match x with | (i, x) => (i, a.eval x)) = parts.map fun p => (p.1, a.eval p.2) from rfl, hrun]
  exact hK' _ _ hK
def specVal (s : SpecM) : Value := .agg #[.string ⟨s.name.toArray⟩, .int .i64 s.arity, .bool s.write, .bool s.control, .int .i64 s.first, .int .i64 s.last, .int .i64 s.step]
theorem specVal_flat : ∀ l : List SpecM, ((l.map specVal).flatMap fun v => v.cells.toList) = specsC l
  | [] => rfl
  | s :: t => by rw [List.map_cons, List.flatMap_cons, specVal_flat t]; rfl
noncomputable def rO1 : Oper := (rOps.toList[118]?).getD default
noncomputable def rO2 : Oper := (rOps.toList[119]?).getD default
def rParts : Array (Nat × Operand) := #[(0, .tmp 1), (1, .tmp 2), (2, .tmp 3), (3, .tmp 4), (4, .tmp 5), (5, .tmp 6), (6, .tmp 7), (7, .tmp 8), (8, .tmp 9), (9, .tmp 10), (10, .tmp 11), (11, .tmp 12), (12, .tmp 13), (13, .tmp 14), (14, .tmp 15), (15, .tmp 16), (16, .tmp 17), (17, .tmp 18), (18, .tmp 19), (19, .tmp 20), (20, .tmp 21), (21, .tmp 22), (22, .tmp 23), (23, .tmp 24), (24, .tmp 25), (25, .tmp 26), (26, .tmp 27), (27, .tmp 28), (28, .tmp 29), (29, .tmp 30), (30, .tmp 31), (31, .tmp 32), (32, .tmp 33), (33, .tmp 34), (34, .tmp 35), (35, .tmp 36), (36, .tmp 37), (37, .tmp 38), (38, .tmp 39), (39, .tmp 40), (40, .tmp 41), (41, .tmp 42), (42, .tmp 43), (43, .tmp 44), (44, .tmp 45), (45, .tmp 46), (46, .tmp 47), (47, .tmp 48), (48, .tmp 49), (49, .tmp 50), (50, .tmp 51), (51, .tmp 52), (52, .tmp 53), (53, .tmp 54), (54, .tmp 55), (55, .tmp 56), (56, .tmp 57), (57, .tmp 58), (58, .tmp 59), (59, .tmp 60), (60, .tmp 61), (61, .tmp 62), (62, .tmp 63), (63, .tmp 64), (64, .tmp 65), (65, .tmp 66), (66, .tmp 67), (67, .tmp 68), (68, .tmp 69), (69, .tmp 70), (70, .tmp 71), (71, .tmp 72), (72, .tmp 73), (73, .tmp 74), (74, .tmp 75), (75, .tmp 76), (76, .tmp 77), (77, .tmp 78), (78, .tmp 79), (79, .tmp 80), (80, .tmp 81), (81, .tmp 82), (82, .tmp 83), (83, .tmp 84), (84, .tmp 85), (85, .tmp 86), (86, .tmp 87), (87, .tmp 88), (88, .tmp 89), (89, .tmp 90), (90, .tmp 91), (91, .tmp 92), (92, .tmp 93), (93, .tmp 94), (94, .tmp 95), (95, .tmp 96), (96, .tmp 97), (97, .tmp 98), (98, .tmp 99), (99, .tmp 100), (100, .tmp 101), (101, .tmp 102), (102, .tmp 103), (103, .tmp 104), (104, .tmp 105), (105, .tmp 106), (106, .tmp 107), (107, .tmp 108), (108, .tmp 109), (109, .tmp 110), (110, .tmp 111), (111, .tmp 112), (112, .tmp 113), (113, .tmp 114), (114, .tmp 115), (115, .tmp 116), (116, .tmp 117), (117, .tmp 118)]
noncomputable def rActE (w : World) : Act := ⟨#[.slice (some ⟨w.heap.size, 0, none⟩) 118 118, .agg #[.string ⟨#[97, 112, 112, 101, 110, 100]⟩, .int .i64 3, .bool true, .bool false, .int .i64 1, .int .i64 1, .int .i64 1], .agg #[.string ⟨#[98, 105, 116, 99, 111, 117, 110, 116]⟩, .int .i64 (-2), .bool false, .bool false, .int .i64 1, .int .i64 1, .int .i64 1], .agg #[.string ⟨#[98, 105, 116, 111, 112]⟩, .int .i64 (-4), .bool true, .bool false, .int .i64 2, .int .i64 (-1), .int .i64 1], .agg #[.string ⟨#[98, 105, 116, 112, 111, 115]⟩, .int .i64 (-3), .bool false, .bool false, .int .i64 1, .int .i64 1, .int .i64 1], .agg #[.string ⟨#[99, 111, 112, 121]⟩, .int .i64 (-3), .bool true, .bool false, .int .i64 1, .int .i64 2, .int .i64 1], .agg #[.string ⟨#[100, 98, 115, 105, 122, 101]⟩, .int .i64 1, .bool false, .bool false, .int .i64 0, .int .i64 0, .int .i64 0], .agg #[.string ⟨#[100, 101, 99, 114]⟩, .int .i64 2, .bool true, .bool false, .int .i64 1, .int .i64 1, .int .i64 1], .agg #[.string ⟨#[100, 101, 99, 114, 98, 121]⟩, .int .i64 3, .bool true, .bool false, .int .i64 1, .int .i64 1, .int .i64 1], .agg #[.string ⟨#[100, 101, 108]⟩, .int .i64 (-2), .bool true, .bool false, .int .i64 1, .int .i64 (-1), .int .i64 1], .agg #[.string ⟨#[100, 105, 115, 99, 97, 114, 100]⟩, .int .i64 1, .bool false, .bool true, .int .i64 0, .int .i64 0, .int .i64 0], .agg #[.string ⟨#[100, 117, 109, 112]⟩, .int .i64 2, .bool false, .bool false, .int .i64 1, .int .i64 1, .int .i64 1], .agg #[.string ⟨#[101, 99, 104, 111]⟩, .int .i64 2, .bool false, .bool false, .int .i64 0, .int .i64 0, .int .i64 0], .agg #[.string ⟨#[101, 120, 101, 99]⟩, .int .i64 1, .bool false, .bool true, .int .i64 0, .int .i64 0, .int .i64 0], .agg #[.string ⟨#[101, 120, 105, 115, 116, 115]⟩, .int .i64 (-2), .bool false, .bool false, .int .i64 1, .int .i64 (-1), .int .i64 1], .agg #[.string ⟨#[101, 120, 112, 105, 114, 101]⟩, .int .i64 (-3), .bool true, .bool false, .int .i64 1, .int .i64 1, .int .i64 1], .agg #[.string ⟨#[101, 120, 112, 105, 114, 101, 97, 116]⟩, .int .i64 (-3), .bool true, .bool false, .int .i64 1, .int .i64 1, .int .i64 1], .agg #[.string ⟨#[101, 120, 112, 105, 114, 101, 116, 105, 109, 101]⟩, .int .i64 2, .bool false, .bool false, .int .i64 1, .int .i64 1, .int .i64 1], .agg #[.string ⟨#[102, 108, 117, 115, 104, 97, 108, 108]⟩, .int .i64 1, .bool true, .bool false, .int .i64 0, .int .i64 0, .int .i64 0], .agg #[.string ⟨#[102, 108, 117, 115, 104, 100, 98]⟩, .int .i64 1, .bool true, .bool false, .int .i64 0, .int .i64 0, .int .i64 0], .agg #[.string ⟨#[103, 101, 116]⟩, .int .i64 2, .bool false, .bool false, .int .i64 1, .int .i64 1, .int .i64 1], .agg #[.string ⟨#[103, 101, 116, 98, 105, 116]⟩, .int .i64 3, .bool false, .bool false, .int .i64 1, .int .i64 1, .int .i64 1], .agg #[.string ⟨#[103, 101, 116, 100, 101, 108]⟩, .int .i64 2, .bool true, .bool false, .int .i64 1, .int .i64 1, .int .i64 1], .agg #[.string ⟨#[103, 101, 116, 101, 120]⟩, .int .i64 (-2), .bool true, .bool false, .int .i64 1, .int .i64 1, .int .i64 1], .agg #[.string ⟨#[103, 101, 116, 114, 97, 110, 103, 101]⟩, .int .i64 4, .bool false, .bool false, .int .i64 1, .int .i64 1, .int .i64 1], .agg #[.string ⟨#[103, 101, 116, 115, 101, 116]⟩, .int .i64 3, .bool true, .bool false, .int .i64 1, .int .i64 1, .int .i64 1], .agg #[.string ⟨#[104, 100, 101, 108]⟩, .int .i64 (-3), .bool true, .bool false, .int .i64 1, .int .i64 1, .int .i64 1], .agg #[.string ⟨#[104, 101, 120, 105, 115, 116, 115]⟩, .int .i64 3, .bool false, .bool false, .int .i64 1, .int .i64 1, .int .i64 1], .agg #[.string ⟨#[104, 103, 101, 116]⟩, .int .i64 3, .bool false, .bool false, .int .i64 1, .int .i64 1, .int .i64 1], .agg #[.string ⟨#[104, 103, 101, 116, 97, 108, 108]⟩, .int .i64 2, .bool false, .bool false, .int .i64 1, .int .i64 1, .int .i64 1], .agg #[.string ⟨#[104, 105, 110, 99, 114, 98, 121]⟩, .int .i64 4, .bool true, .bool false, .int .i64 1, .int .i64 1, .int .i64 1], .agg #[.string ⟨#[104, 107, 101, 121, 115]⟩, .int .i64 2, .bool false, .bool false, .int .i64 1, .int .i64 1, .int .i64 1], .agg #[.string ⟨#[104, 108, 101, 110]⟩, .int .i64 2, .bool false, .bool false, .int .i64 1, .int .i64 1, .int .i64 1], .agg #[.string ⟨#[104, 109, 103, 101, 116]⟩, .int .i64 (-3), .bool false, .bool false, .int .i64 1, .int .i64 1, .int .i64 1], .agg #[.string ⟨#[104, 109, 115, 101, 116]⟩, .int .i64 (-4), .bool true, .bool false, .int .i64 1, .int .i64 1, .int .i64 1], .agg #[.string ⟨#[104, 115, 99, 97, 110]⟩, .int .i64 (-3), .bool false, .bool false, .int .i64 1, .int .i64 1, .int .i64 1], .agg #[.string ⟨#[104, 115, 101, 116]⟩, .int .i64 (-4), .bool true, .bool false, .int .i64 1, .int .i64 1, .int .i64 1], .agg #[.string ⟨#[104, 115, 101, 116, 110, 120]⟩, .int .i64 4, .bool true, .bool false, .int .i64 1, .int .i64 1, .int .i64 1], .agg #[.string ⟨#[104, 115, 116, 114, 108, 101, 110]⟩, .int .i64 3, .bool false, .bool false, .int .i64 1, .int .i64 1, .int .i64 1], .agg #[.string ⟨#[104, 118, 97, 108, 115]⟩, .int .i64 2, .bool false, .bool false, .int .i64 1, .int .i64 1, .int .i64 1], .agg #[.string ⟨#[105, 110, 99, 114]⟩, .int .i64 2, .bool true, .bool false, .int .i64 1, .int .i64 1, .int .i64 1], .agg #[.string ⟨#[105, 110, 99, 114, 98, 121]⟩, .int .i64 3, .bool true, .bool false, .int .i64 1, .int .i64 1, .int .i64 1], .agg #[.string ⟨#[107, 101, 121, 115]⟩, .int .i64 2, .bool false, .bool false, .int .i64 0, .int .i64 0, .int .i64 0], .agg #[.string ⟨#[108, 105, 110, 100, 101, 120]⟩, .int .i64 3, .bool false, .bool false, .int .i64 1, .int .i64 1, .int .i64 1], .agg #[.string ⟨#[108, 105, 110, 115, 101, 114, 116]⟩, .int .i64 5, .bool true, .bool false, .int .i64 1, .int .i64 1, .int .i64 1], .agg #[.string ⟨#[108, 108, 101, 110]⟩, .int .i64 2, .bool false, .bool false, .int .i64 1, .int .i64 1, .int .i64 1], .agg #[.string ⟨#[108, 109, 111, 118, 101]⟩, .int .i64 5, .bool true, .bool false, .int .i64 1, .int .i64 2, .int .i64 1], .agg #[.string ⟨#[108, 112, 111, 112]⟩, .int .i64 (-2), .bool true, .bool false, .int .i64 1, .int .i64 1, .int .i64 1], .agg #[.string ⟨#[108, 112, 111, 115]⟩, .int .i64 (-3), .bool false, .bool false, .int .i64 1, .int .i64 1, .int .i64 1], .agg #[.string ⟨#[108, 112, 117, 115, 104]⟩, .int .i64 (-3), .bool true, .bool false, .int .i64 1, .int .i64 1, .int .i64 1], .agg #[.string ⟨#[108, 112, 117, 115, 104, 120]⟩, .int .i64 (-3), .bool true, .bool false, .int .i64 1, .int .i64 1, .int .i64 1], .agg #[.string ⟨#[108, 114, 97, 110, 103, 101]⟩, .int .i64 4, .bool false, .bool false, .int .i64 1, .int .i64 1, .int .i64 1], .agg #[.string ⟨#[108, 114, 101, 109]⟩, .int .i64 4, .bool true, .bool false, .int .i64 1, .int .i64 1, .int .i64 1], .agg #[.string ⟨#[108, 115, 101, 116]⟩, .int .i64 4, .bool true, .bool false, .int .i64 1, .int .i64 1, .int .i64 1], .agg #[.string ⟨#[108, 116, 114, 105, 109]⟩, .int .i64 4, .bool true, .bool false, .int .i64 1, .int .i64 1, .int .i64 1], .agg #[.string ⟨#[109, 103, 101, 116]⟩, .int .i64 (-2), .bool false, .bool false, .int .i64 1, .int .i64 (-1), .int .i64 1], .agg #[.string ⟨#[109, 115, 101, 116]⟩, .int .i64 (-3), .bool true, .bool false, .int .i64 1, .int .i64 (-1), .int .i64 2], .agg #[.string ⟨#[109, 115, 101, 116, 110, 120]⟩, .int .i64 (-3), .bool true, .bool false, .int .i64 1, .int .i64 (-1), .int .i64 2], .agg #[.string ⟨#[109, 117, 108, 116, 105]⟩, .int .i64 1, .bool false, .bool true, .int .i64 0, .int .i64 0, .int .i64 0], .agg #[.string ⟨#[112, 101, 114, 115, 105, 115, 116]⟩, .int .i64 2, .bool true, .bool false, .int .i64 1, .int .i64 1, .int .i64 1], .agg #[.string ⟨#[112, 101, 120, 112, 105, 114, 101]⟩, .int .i64 (-3), .bool true, .bool false, .int .i64 1, .int .i64 1, .int .i64 1], .agg #[.string ⟨#[112, 101, 120, 112, 105, 114, 101, 97, 116]⟩, .int .i64 (-3), .bool true, .bool false, .int .i64 1, .int .i64 1, .int .i64 1], .agg #[.string ⟨#[112, 101, 120, 112, 105, 114, 101, 116, 105, 109, 101]⟩, .int .i64 2, .bool false, .bool false, .int .i64 1, .int .i64 1, .int .i64 1], .agg #[.string ⟨#[112, 105, 110, 103]⟩, .int .i64 (-1), .bool false, .bool false, .int .i64 0, .int .i64 0, .int .i64 0], .agg #[.string ⟨#[112, 115, 101, 116, 101, 120]⟩, .int .i64 4, .bool true, .bool false, .int .i64 1, .int .i64 1, .int .i64 1], .agg #[.string ⟨#[112, 116, 116, 108]⟩, .int .i64 2, .bool false, .bool false, .int .i64 1, .int .i64 1, .int .i64 1], .agg #[.string ⟨#[113, 117, 105, 116]⟩, .int .i64 1, .bool false, .bool true, .int .i64 0, .int .i64 0, .int .i64 0], .agg #[.string ⟨#[114, 101, 110, 97, 109, 101]⟩, .int .i64 3, .bool true, .bool false, .int .i64 1, .int .i64 2, .int .i64 1], .agg #[.string ⟨#[114, 101, 110, 97, 109, 101, 110, 120]⟩, .int .i64 3, .bool true, .bool false, .int .i64 1, .int .i64 2, .int .i64 1], .agg #[.string ⟨#[114, 101, 115, 101, 116]⟩, .int .i64 1, .bool false, .bool true, .int .i64 0, .int .i64 0, .int .i64 0], .agg #[.string ⟨#[114, 101, 115, 116, 111, 114, 101]⟩, .int .i64 (-4), .bool true, .bool false, .int .i64 1, .int .i64 1, .int .i64 1], .agg #[.string ⟨#[114, 112, 111, 112]⟩, .int .i64 (-2), .bool true, .bool false, .int .i64 1, .int .i64 1, .int .i64 1], .agg #[.string ⟨#[114, 112, 111, 112, 108, 112, 117, 115, 104]⟩, .int .i64 3, .bool true, .bool false, .int .i64 1, .int .i64 2, .int .i64 1], .agg #[.string ⟨#[114, 112, 117, 115, 104]⟩, .int .i64 (-3), .bool true, .bool false, .int .i64 1, .int .i64 1, .int .i64 1], .agg #[.string ⟨#[114, 112, 117, 115, 104, 120]⟩, .int .i64 (-3), .bool true, .bool false, .int .i64 1, .int .i64 1, .int .i64 1], .agg #[.string ⟨#[115, 97, 100, 100]⟩, .int .i64 (-3), .bool true, .bool false, .int .i64 1, .int .i64 1, .int .i64 1], .agg #[.string ⟨#[115, 99, 97, 110]⟩, .int .i64 (-2), .bool false, .bool false, .int .i64 0, .int .i64 0, .int .i64 0], .agg #[.string ⟨#[115, 99, 97, 114, 100]⟩, .int .i64 2, .bool false, .bool false, .int .i64 1, .int .i64 1, .int .i64 1], .agg #[.string ⟨#[115, 100, 105, 102, 102]⟩, .int .i64 (-2), .bool false, .bool false, .int .i64 1, .int .i64 (-1), .int .i64 1], .agg #[.string ⟨#[115, 100, 105, 102, 102, 115, 116, 111, 114, 101]⟩, .int .i64 (-3), .bool true, .bool false, .int .i64 1, .int .i64 (-1), .int .i64 1], .agg #[.string ⟨#[115, 101, 116]⟩, .int .i64 (-3), .bool true, .bool false, .int .i64 1, .int .i64 1, .int .i64 1], .agg #[.string ⟨#[115, 101, 116, 98, 105, 116]⟩, .int .i64 4, .bool true, .bool false, .int .i64 1, .int .i64 1, .int .i64 1], .agg #[.string ⟨#[115, 101, 116, 101, 120]⟩, .int .i64 4, .bool true, .bool false, .int .i64 1, .int .i64 1, .int .i64 1], .agg #[.string ⟨#[115, 101, 116, 110, 120]⟩, .int .i64 3, .bool true, .bool false, .int .i64 1, .int .i64 1, .int .i64 1], .agg #[.string ⟨#[115, 101, 116, 114, 97, 110, 103, 101]⟩, .int .i64 4, .bool true, .bool false, .int .i64 1, .int .i64 1, .int .i64 1], .agg #[.string ⟨#[115, 105, 110, 116, 101, 114]⟩, .int .i64 (-2), .bool false, .bool false, .int .i64 1, .int .i64 (-1), .int .i64 1], .agg #[.string ⟨#[115, 105, 110, 116, 101, 114, 115, 116, 111, 114, 101]⟩, .int .i64 (-3), .bool true, .bool false, .int .i64 1, .int .i64 (-1), .int .i64 1], .agg #[.string ⟨#[115, 105, 115, 109, 101, 109, 98, 101, 114]⟩, .int .i64 3, .bool false, .bool false, .int .i64 1, .int .i64 1, .int .i64 1], .agg #[.string ⟨#[115, 109, 101, 109, 98, 101, 114, 115]⟩, .int .i64 2, .bool false, .bool false, .int .i64 1, .int .i64 1, .int .i64 1], .agg #[.string ⟨#[115, 109, 105, 115, 109, 101, 109, 98, 101, 114]⟩, .int .i64 (-3), .bool false, .bool false, .int .i64 1, .int .i64 1, .int .i64 1], .agg #[.string ⟨#[115, 109, 111, 118, 101]⟩, .int .i64 4, .bool true, .bool false, .int .i64 1, .int .i64 2, .int .i64 1], .agg #[.string ⟨#[115, 112, 111, 112]⟩, .int .i64 (-2), .bool true, .bool false, .int .i64 1, .int .i64 1, .int .i64 1], .agg #[.string ⟨#[115, 114, 101, 109]⟩, .int .i64 (-3), .bool true, .bool false, .int .i64 1, .int .i64 1, .int .i64 1], .agg #[.string ⟨#[115, 115, 99, 97, 110]⟩, .int .i64 (-3), .bool false, .bool false, .int .i64 1, .int .i64 1, .int .i64 1], .agg #[.string ⟨#[115, 116, 114, 108, 101, 110]⟩, .int .i64 2, .bool false, .bool false, .int .i64 1, .int .i64 1, .int .i64 1], .agg #[.string ⟨#[115, 117, 110, 105, 111, 110]⟩, .int .i64 (-2), .bool false, .bool false, .int .i64 1, .int .i64 (-1), .int .i64 1], .agg #[.string ⟨#[115, 117, 110, 105, 111, 110, 115, 116, 111, 114, 101]⟩, .int .i64 (-3), .bool true, .bool false, .int .i64 1, .int .i64 (-1), .int .i64 1], .agg #[.string ⟨#[116, 116, 108]⟩, .int .i64 2, .bool false, .bool false, .int .i64 1, .int .i64 1, .int .i64 1], .agg #[.string ⟨#[116, 121, 112, 101]⟩, .int .i64 2, .bool false, .bool false, .int .i64 1, .int .i64 1, .int .i64 1], .agg #[.string ⟨#[117, 110, 108, 105, 110, 107]⟩, .int .i64 (-2), .bool true, .bool false, .int .i64 1, .int .i64 (-1), .int .i64 1], .agg #[.string ⟨#[117, 110, 119, 97, 116, 99, 104]⟩, .int .i64 1, .bool false, .bool true, .int .i64 0, .int .i64 0, .int .i64 0], .agg #[.string ⟨#[119, 97, 116, 99, 104]⟩, .int .i64 (-2), .bool false, .bool true, .int .i64 1, .int .i64 (-1), .int .i64 1], .agg #[.string ⟨#[122, 97, 100, 100]⟩, .int .i64 (-4), .bool true, .bool false, .int .i64 1, .int .i64 1, .int .i64 1], .agg #[.string ⟨#[122, 99, 97, 114, 100]⟩, .int .i64 2, .bool false, .bool false, .int .i64 1, .int .i64 1, .int .i64 1], .agg #[.string ⟨#[122, 99, 111, 117, 110, 116]⟩, .int .i64 4, .bool false, .bool false, .int .i64 1, .int .i64 1, .int .i64 1], .agg #[.string ⟨#[122, 105, 110, 99, 114, 98, 121]⟩, .int .i64 4, .bool true, .bool false, .int .i64 1, .int .i64 1, .int .i64 1], .agg #[.string ⟨#[122, 108, 101, 120, 99, 111, 117, 110, 116]⟩, .int .i64 4, .bool false, .bool false, .int .i64 1, .int .i64 1, .int .i64 1], .agg #[.string ⟨#[122, 109, 115, 99, 111, 114, 101]⟩, .int .i64 (-3), .bool false, .bool false, .int .i64 1, .int .i64 1, .int .i64 1], .agg #[.string ⟨#[122, 112, 111, 112, 109, 97, 120]⟩, .int .i64 (-2), .bool true, .bool false, .int .i64 1, .int .i64 1, .int .i64 1], .agg #[.string ⟨#[122, 112, 111, 112, 109, 105, 110]⟩, .int .i64 (-2), .bool true, .bool false, .int .i64 1, .int .i64 1, .int .i64 1], .agg #[.string ⟨#[122, 114, 97, 110, 103, 101]⟩, .int .i64 (-4), .bool false, .bool false, .int .i64 1, .int .i64 1, .int .i64 1], .agg #[.string ⟨#[122, 114, 97, 110, 107]⟩, .int .i64 3, .bool false, .bool false, .int .i64 1, .int .i64 1, .int .i64 1], .agg #[.string ⟨#[122, 114, 101, 109]⟩, .int .i64 (-3), .bool true, .bool false, .int .i64 1, .int .i64 1, .int .i64 1], .agg #[.string ⟨#[122, 114, 101, 109, 114, 97, 110, 103, 101, 98, 121, 108, 101, 120]⟩, .int .i64 4, .bool true, .bool false, .int .i64 1, .int .i64 1, .int .i64 1], .agg #[.string ⟨#[122, 114, 101, 109, 114, 97, 110, 103, 101, 98, 121, 114, 97, 110, 107]⟩, .int .i64 4, .bool true, .bool false, .int .i64 1, .int .i64 1, .int .i64 1], .agg #[.string ⟨#[122, 114, 101, 109, 114, 97, 110, 103, 101, 98, 121, 115, 99, 111, 114, 101]⟩, .int .i64 4, .bool true, .bool false, .int .i64 1, .int .i64 1, .int .i64 1], .agg #[.string ⟨#[122, 114, 101, 118, 114, 97, 110, 107]⟩, .int .i64 3, .bool false, .bool false, .int .i64 1, .int .i64 1, .int .i64 1], .agg #[.string ⟨#[122, 115, 99, 97, 110]⟩, .int .i64 (-3), .bool false, .bool false, .int .i64 1, .int .i64 1, .int .i64 1], .agg #[.string ⟨#[122, 115, 99, 111, 114, 101]⟩, .int .i64 3, .bool false, .bool false, .int .i64 1, .int .i64 1, .int .i64 1], .slice (some ⟨w.heap.size, 0, none⟩) 118 118], []⟩
set_option maxRecDepth 100000 in
theorem rdrop : rOps.toList.drop 118 = [rO1, rO2] := by kernel_rfl
theorem rop1 : rO1.op = Op.buildSlice 160 118 rParts := by kernel_rfl
theorem rgu1 : rO1.guard = none := by kernel_rfl
set_option maxRecDepth 100000 in
theorem rparts : (rParts.map fun p => (p.1, rAct6.eval p.2)).toList = (rowsL.map specVal).zipIdx.map fun p => (p.2, p.1) := by kernel_rfl
set_option maxRecDepth 100000 in
theorem rrunE (w W : World) : runList Tryz.prog rOps [rO2] (rAct6.put rO1.dst (.slice (some ⟨w.heap.size, 0, none⟩) 118 118)) W = some (rActE w, W) := by kernel_rfl
set_option maxRecDepth 100000 in
set_option maxHeartbeats 4000000 in
theorem rrows_ok (w : World) : Calls Tryz.prog 133 #[] w (TDid rowsL 118 w) := by
  obtain ⟨i0, hi0, hz0, hz1, _⟩ := info_parts infoSpec
  go_enter Tryz.func133, Tryz.ntmps133
  refine wp_seq (wp_region_lit (wpList_run (a' := rAct0) (w' := w) (by kernel_rfl) ?_))
  refine wp_seq (wp_region_lit ?_)
  change wpList Tryz.prog rOps _ (rOps.toList.drop 0) rAct0 w
  refine wpList_at 0 20 (rrun0 w) ?_
  refine wpList_at 20 20 (rrun1 w) ?_
  refine wpList_at 40 20 (rrun2 w) ?_
  refine wpList_at 60 20 (rrun3 w) ?_
  refine wpList_at 80 20 (rrun4 w) ?_
  refine wpList_at 100 18 (rrun5 w) ?_
  rw [rdrop]
  refine wpList_bslice rgu1 rop1 Tryz.underlying160 hi0 hz0 hz1 (rowsL.map specVal) (by rw [List.length_map]; rfl) (fun v hv => by obtain ⟨s, _, rfl⟩ := List.mem_map.1 hv; rfl) (by decide) rparts ?_
  rw [specVal_flat]
  refine wpList_run (rrunE w _) ?_
  refine wp_ret ?_
  exact bodyPost_ret (results_tmp rfl _ _ _) rfl ⟨_, rfl, vw_new rfl (specsC_len _) (by decide), (Below.refl _ _).alloc (Nat.le_refl _) _⟩
end Go.Proofs.YtgmmeeikjofefaaGreatDoor
namespace Go.Proofs.YtgmmeeikjofefaaGreatDoor
open Go Go.RowKit
/-! The document's Lower, Find. -/
set_option maxRecDepth 10000 in
set_option maxHeartbeats 1000000 in
theorem rlower_ok (s : List UInt8) (w : World) (hs : s.length ≤ 1099511627776) : Calls Tryz.prog 43 #[txt s] w fun e w' => e = .returned (txt (lowL s)) ∧ Below w.heap.size w w' := by
  have hsz : (⟨s.toArray⟩ : ByteArray).size = s.length := by simp [ByteArray.size]
  have hcv := Lib.run_convert_string_bytes (P := Tryz.prog) w 9 87 5 ⟨s.toArray⟩ Tryz.underlying9 Tryz.underlying87 Tryz.underlying5
  rw [hsz] at hcv
  have hat : LowRel w w.heap.size s (.int .i64 0) (Lib.bytesWorld w 5 ⟨s.toArray⟩) := by
    refine ⟨0, Nat.zero_le _, rfl, ⟨rfl, rfl, rfl, by rw [Lib.bytesWorld_size]; omega, fun b hb => Lib.bytesWorld_at_old w _ _ b hb⟩, by rw [Lib.bytesWorld_size]; omega, fun j x hj => ?_, fun j hj => ?_⟩
    · rw [lowAt_zero] at hj
      have hjl : j < s.length := (List.getElem?_eq_some_iff.1 hj).1
      rw [Lib.bytesWorld_cell w _ _ j (by rw [hsz]; exact hjl)]
      simp only [List.getD_eq_getElem?_getD]
      rw [hj]; rfl
    · unfold World.frozen?
      rw [Lib.bytesWorld_at_new]
      have hbs : s.length ≤ (Lib.bytesCells w 5 ⟨s.toArray⟩).size := by simp [Lib.bytesCells]
      simp
      omega
  generalize Lib.bytesWorld w 5 ⟨s.toArray⟩ = w1 at *
  generalize grownCap w s.length 0 5 = cap at *
  unfold txt
  go_enter Tryz.func43, Tryz.ntmps43
  go_wp2_with fail
  go_loopw [4] (fun i wr => LowRel w w.heap.size s i wr) (fun i _ => s.length - (intOf i).toNat)
  case atStart => exact hat
  case round =>
    obtain ⟨k, hk, rfl, hB, hl, hc, hf⟩ := hrel
    clear hat
    by_cases hkl : k < s.length
    · obtain ⟨x, hx⟩ : ∃ x, s[k]? = some x := ⟨_, List.getElem?_eq_getElem hkl⟩
      have hcell : wr.cell? ⟨w.heap.size, k, none⟩ = some (.int .u8 x.toNat) := hc k x (by rw [lowAt_get hkl]; exact hx)
      have hfr := hf k hkl
      have hxb := x.toNat_lt
      by_cases hup : 65 ≤ x ∧ x ≤ 90
      · have h1 : 65 ≤ x.toNat ∧ x.toNat ≤ 90 := by
          obtain ⟨h1, h2⟩ := hup
          rw [UInt8.le_iff_toNat_le] at h1 h2
          exact ⟨h1, h2⟩
        have d1 : decide ((65 : Int) ≤ x.toNat) = true := decide_eq_true (by omega)
        have d2 : decide ((x.toNat : Int) ≤ 90) = true := decide_eq_true (by omega)
        have e1 : IntKind.u8.wrap ((x.toNat : Int) + 32) = (x.toNat : Int) + 32 := by rw [IntKind.wrap_u8]; omega
        have hu : (Value.int .u8 ((x.toNat : Int) + 32)) = bv (lowB x) := by
          unfold bv lowB
          rw [if_pos hup, UInt8.toNat_add]
          congr 1
          have : (32 : UInt8).toNat = 32 := rfl
          rw [this]
          omega
        have D := Lib.hid (lowRel_next (Nat.le_refl _) hx hu hB hl hc hf)
        clear hB hc hf hx hu hup h1
        go_wp2_with fail
        go_roundw
        case rel => exact D.out
        case measure => simp [intOf]; omega
      · have hu : lowB x = x := if_neg hup
        have D := Lib.hid (lowRel_keep hx hu hB hl hc hf)
        have hd : decide ((65 : Int) ≤ x.toNat) = true → decide ((x.toNat : Int) ≤ 90) = false := by
          intro h
          have h3 := of_decide_eq_true h
          apply decide_eq_false
          intro h4
          exact hup ⟨by rw [UInt8.le_iff_toNat_le]; show 65 ≤ x.toNat; omega, by rw [UInt8.le_iff_toNat_le]; show x.toNat ≤ 90; omega⟩
        clear hB hc hf hx hu hup
        rcases hq : decide ((65 : Int) ≤ x.toNat) with _ | _
        · clear hd
          go_wp2_with fail
          go_roundw
          case rel => exact D.out
          case measure => simp [intOf]; omega
        · have hq2 := hd hq
          clear hd
          go_wp2_with fail
          go_roundw
          case rel => exact D.out
          case measure => simp [intOf]; omega
    · obtain rfl : k = s.length := by omega
      rw [lowAt_all] at hc
      have hcv := run_bytes_text wr w.heap.size cap (lowL s) hc s.length (by simp [lowL])
      have HB := Lib.hid hB
      clear hB hc hf
      go_wp2_with fail
      go_ret
      exact ⟨rfl, HB.out⟩
set_option maxRecDepth 10000 in
theorem rfind_res {Wf : World} {R : Nat} {tmps : Array Value} {s : SpecM} {ok : Bool} (h2 : tmps[2]?.getD undef = .pointer (some ⟨R, 0, none⟩)) (h3 : tmps[3]?.getD undef = .bool ok) (c0 : Wf.cell? ⟨R, 0, none⟩ = some (.string ⟨s.name.toArray⟩)) (c1 : Wf.cell? ⟨R, 1, none⟩ = some (.int .i64 s.arity)) (c2 : Wf.cell? ⟨R, 2, none⟩ = some (.bool s.write))
    (c3 : Wf.cell? ⟨R, 3, none⟩ = some (.bool s.control)) (c4 : Wf.cell? ⟨R, 4, none⟩ = some (.int .i64 s.first)) (c5 : Wf.cell? ⟨R, 5, none⟩ = some (.int .i64 s.last)) (c6 : Wf.cell? ⟨R, 6, none⟩ = some (.int .i64 s.step)) :
    (results Tryz.f86 tmps).run Tryz.prog Wf = .ok (.tuple #[specV s, .bool ok]) Wf := by
  simp [results, Tryz.results86, go_sem, h2, h3, c0, c1, c2, c3, c4, c5, c6]
set_option maxRecDepth 10000 in
set_option maxHeartbeats 4000000 in
theorem rfind_ok (nm : List UInt8) (w : World) (hn : nm.length ≤ 1099511627776) : Calls Tryz.prog 86 #[txt nm] w (FindDid w (specOf (lowL nm))) := by
  obtain ⟨W, hW⟩ : ∃ W, W = w.alloc (.cells #[.string ⟨#[]⟩, .int .i64 0, .bool false, .bool false, .int .i64 0, .int .i64 0, .int .i64 0] 107) := ⟨_, rfl⟩
  have hB0 : Below w.heap.size w W := by rw [hW]; exact (Below.refl _ _).alloc (Nat.le_refl _) _
  have hR0 : Blk none0 W [] w.heap.size #[.string ⟨#[]⟩, .int .i64 0, .bool false, .bool false, .int .i64 0, .int .i64 0, .int .i64 0] 107 := ⟨by rw [hW]; exact heap_alloc_new w _, rfl⟩
  have hzW : W.heap.size = w.heap.size + 1 := by rw [hW]; simp
  have HLO := Lib.hid (fun W => rlower_ok nm W hn)
  have HB0 := Lib.hid hB0
  have HR0 := Lib.hid hR0
  have HZ := Lib.hid hzW
  clear hB0 hR0 hzW
  unfold txt at *
  go_enter Tryz.func86, Tryz.ntmps86
  go_wp2_with fail
  rw [← hW]
  clear hW
  refine (rrows_ok _).mono ?_; rintro e w2 ⟨v, rfl, hv, hB2⟩
  have hp : rowsL.Perm allL := rows_perm
  have hL0 : (118 : Nat) = rowsL.length := by decide
  rw [hL0] at hv
  generalize rowsL = L at *
  generalize lowL nm = x at *
  have hLl : L.length ≤ 1000 := by omega
  obtain ⟨av, cv, rfl, _⟩ := id hv.slice
  have hat : FindRel W L x (.slice av L.length cv) (.int .i64 0) w2 := ⟨0, Nat.zero_le _, rfl, hB2, hv.imp (fun _ _ => trivial), fun j y hj => absurd hj (Nat.not_lt_zero _)⟩
  have HP := Lib.hid hp
  clear hp hv hB2 hL0
  go_wp2_with fail
  go_loopw [5] (fun i wr => FindRel W L x (.slice av L.length cv) i wr) (fun i _ => L.length - (intOf i).toNat)
  case atStart => exact hat
  case round =>
    obtain ⟨k, hk, rfl, hB, hv, hno⟩ := hrel
    clear hat
    by_cases hkl : k < L.length
    · obtain ⟨y, hy⟩ : ∃ y, L[k]? = some y := ⟨_, List.getElem?_eq_getElem hkl⟩
      obtain ⟨b, off, cap, hve, hcap, c0, c1, c2, c3, c4, c5, c6⟩ := vw_spec hv hy
      injection hve with e1 e2 e3
      subst e1 e3
      have hlb : b < wr.heap.size := World.block_lt_of_cell? _ _ c0
      have HC := Lib.hid (fun (W2 : World) (hW2 : Below wr.heap.size wr W2) => show W2.cell? ⟨b, off + k * 7, none⟩ = some (.string ⟨y.name.toArray⟩) ∧ W2.cell? ⟨b, off + k * 7 + 1, none⟩ = some (.int .i64 y.arity) ∧ W2.cell? ⟨b, off + k * 7 + 2, none⟩ = some (.bool y.write) ∧ W2.cell? ⟨b, off + k * 7 + 3, none⟩ = some (.bool y.control) ∧ W2.cell? ⟨b, off + k * 7 + 4, none⟩ = some (.int .i64 y.first) ∧ W2.cell? ⟨b, off + k * 7 + 5, none⟩ = some (.int .i64 y.last) ∧ W2.cell? ⟨b, off + k * 7 + 6, none⟩ = some (.int .i64 y.step) from ⟨by rw [(bcell hW2).1 _ _ hlb]; exact c0, by rw [(bcell hW2).1 _ _ hlb]; exact c1, by rw [(bcell hW2).1 _ _ hlb]; exact c2, by rw [(bcell hW2).1 _ _ hlb]; exact c3, by rw [(bcell hW2).1 _ _ hlb]; exact c4, by rw [(bcell hW2).1 _ _ hlb]; exact c5, by rw [(bcell hW2).1 _ _ hlb]; exact c6⟩)
      have HV := Lib.hid hv
      have HB := Lib.hid hB
      have HNO := Lib.hid hno
      have HY := Lib.hid hy
      have hkI : (0 : Int) ≤ k ∧ (k : Int) < L.length := by omega
      obtain ⟨hk0, hk1⟩ := hkI
      clear hv hB hno hy e2 c1 c2 c3 c4 c5 c6
      by_cases hxy : y.name = x
      · have D := Lib.hid (specOf_some HP.out HY.out)
        rw [hxy] at D
        subst hxy
        go_wp2_with fail
        go_region_with (
          go_at_call 43
          (with_reducible refine (HLO.out _).mono ?_)
          rintro e w3 ⟨rfl, hB3⟩
          have hB3' : Below wr.heap.size wr w3 := (Below.refl _ wr).drew.trans hB3
          have HB3 := Lib.hid hB3'
          obtain ⟨d0, d1, d2, d3, d4, d5, d6⟩ := HC.out w3 hB3'
          clear hB3 hB3')
        all_goals (
          have hR3 := HR0.out.below (HB.out.trans (HB3.out.mono HB.out.size))
          have hz := hR3.cell
          have hzf := hR3.free
          have hlt := hR3.lt
          have hB2 : Below w.heap.size w w3 := HB0.out.trans ((HB.out.trans (HB3.out.mono HB.out.size)).mono (by rw [HZ.out]; omega))
          have HB2 := Lib.hid hB2
          obtain ⟨name, arity, write, control, first, last, step⟩ := y
          dsimp only at d0 d1 d2 d3 d4 d5 d6 D
          clear hR3 hB2 HC HLO c0
          go_wp2_with fail
          refine bodyPost_ret (rfind_res (R := w.heap.size) (s := ⟨name, arity, write, control, first, last, step⟩) (ok := true) rfl rfl ?_ ?_ ?_ ?_ ?_ ?_ ?_) rfl ⟨by rw [D.out]; rfl, ?_⟩
          iterate 7 (simp [go_sem, hz])
          have hB2 := HB2.out
          iterate 7 refine Below.setCell ?_ (by simp) _
          exact hB2)
      · have hd : (y.name == x) = false := by simpa using hxy
        go_wp2_with fail
        go_region_with (
          go_at_call 43
          (with_reducible refine (HLO.out _).mono ?_)
          rintro e w3 ⟨rfl, hB3⟩
          have hB3' : Below wr.heap.size wr w3 := (Below.refl _ wr).drew.trans hB3
          obtain ⟨d0, _⟩ := HC.out w3 hB3'
          have D := Lib.hid (show FindRel W L x (.slice (some ⟨b, off, none⟩) L.length cv) (.int .i64 ((k + 1 : Nat) : Int)) w3 from
            ⟨k + 1, hkl, rfl, HB.out.trans (hB3'.mono HB.out.size), HV.out.below hB3', fun j z hj hz => by
              rcases Nat.lt_or_ge j k with h | h
              · exact HNO.out j z h hz
              · obtain rfl : j = k := by omega
                rw [HY.out] at hz
                cases hz
                exact hxy⟩)
          clear hB3 hB3')
        all_goals (
          clear HC HV HB HNO HY hxy HLO c0
          go_wp2_with fail
          go_roundw
          case rel => exact D.out
          case measure => simp [intOf]; omega)
    · obtain rfl : k = L.length := by omega
      have D := Lib.hid (specOf_none HP.out (fun y hy => by
        obtain ⟨j, hj, e⟩ := List.mem_iff_getElem.1 hy
        exact hno j y hj (by rw [List.getElem?_eq_getElem hj, e])))
      have hR := HR0.out.below hB
      have hz := hR.cell
      have hzf := hR.free
      have hB2 : Below w.heap.size w wr := HB0.out.trans (hB.mono (by rw [HZ.out]; omega))
      have HB2 := Lib.hid hB2
      clear hB hv hno hR hB2 HLO
      go_wp2_with fail
      refine bodyPost_ret (v := .tuple #[specV spec0, .bool false]) (by simp [results, Tryz.results86, go_sem, hz, spec0]) rfl ⟨by rw [D.out]; rfl, ?_⟩
      have hB2 := HB2.out
      iterate 7 refine Below.setCell ?_ (by simp) _
      exact hB2
end Go.Proofs.YtgmmeeikjofefaaGreatDoor
namespace Go.Proofs.YtgmmeeikjofefaaGreatDoor
open Go Go.RowKit
/-! table.Check: a request that is none. -/
theorem cut_run (s : List UInt8) (lo hi : Option Value) (i j : Nat) (hij : i ≤ j) (hj : j ≤ s.length) (hlo : lo = some (.int .i64 i) ∨ lo = none ∧ i = 0) (hhi : hi = some (.int .i64 j) ∨ hi = none ∧ j = s.length) (w : World) :
    (Instr.slice 9 (.string ⟨s.toArray⟩) lo hi none).run Tryz.prog w = .ok (.string ⟨((s.drop i).take (j - i)).toArray⟩) w := by
  have hsz : (⟨s.toArray⟩ : ByteArray).size = s.length := by simp [ByteArray.size]
  rw [← ByteArray.extract_mk]
  have hfull : (⟨s.toArray⟩ : ByteArray) = (⟨s.toArray⟩ : ByteArray).extract 0 s.length := by rw [ByteArray.extract_mk]; simp
  rcases hlo with rfl | ⟨rfl, rfl⟩ <;> rcases hhi with rfl | ⟨rfl, rfl⟩ <;>
    simp [Instr.slice, run_underlying Tryz.underlying9, Instr.sliceBounds, Instr.sliceBound, asIntOf, hsz] <;>
    first
    | rw [if_pos (by omega), if_pos (by omega)]
    | exact hfull
    | (intro h; omega)
theorem idx_ok {s : List UInt8} {k : Nat} {b : UInt8} (h : s[k]? = some b) (w : World) :
    (Instr.index 9 (.string ⟨s.toArray⟩) (.int .i64 (k : Int))).run Tryz.prog w = .ok (.int .u8 (b.toNat : Int)) w := by
  have hk : k < s.length := (List.getElem?_eq_some_iff.1 h).1
  have hs : (⟨s.toArray⟩ : ByteArray).size = s.length := by simp [ByteArray.size]
  rw [run_index_string w 9 _ .i64 _ Tryz.underlying9, dif_pos ⟨by omega, by rw [hs]; omega⟩]
  obtain ⟨_, h⟩ := List.getElem?_eq_some_iff.1 h
  congr 3
  simp only [← h]
  rfl
def fitA (s : SpecM) (n : Nat) : Bool := if 0 ≤ s.arity then decide ((n : Int) = s.arity) else decide (- s.arity ≤ (n : Int))
/-- Is that a request of the table? -/
def chkL : List (List UInt8) → Bool
  | [] => false
  | nm :: rest => match specOf (lowL nm) with
    | none => false
    | some s => fitA s (rest.length + 1)
theorem arity_low : ∀ s ∈ allL, -9223372036854775808 < s.arity ∧ s.arity ≤ 9223372036854775807 := by decide +kernel
theorem name_low : ∀ s ∈ allL, s.name.length ≤ 32 := by decide +kernel
theorem specOf_mem {x : List UInt8} {s : SpecM} (h : specOf x = some s) : s ∈ allL := List.mem_of_find?_eq_some h
def ShRel (w : World) (g n : Nat) (i : Value) (wr : World) : Prop :=
  ∃ (k : Nat) (xs : List UInt8), k ≤ n ∧ i = .int .i64 (k : Int) ∧ xs.length = n ∧ Below w.heap.size w wr ∧ g < wr.heap.size ∧ (∀ j x, xs[j]? = some x → wr.cell? ⟨g, j, none⟩ = some (bv x)) ∧ (∀ j, j < n → wr.frozen? ⟨g, j, none⟩ = false)
set_option maxRecDepth 10000 in
set_option maxHeartbeats 2000000 in
theorem shown_ok (s : List UInt8) (w : World) : Calls Tryz.prog 60 #[txt s] w fun e w' => ∃ t : List UInt8, e = .returned (.string ⟨t.toArray⟩) ∧ t.length ≤ 32 ∧ Below w.heap.size w w' := by
  obtain ⟨m, hm⟩ : ∃ m : Nat, m = min s.length 32 := ⟨_, rfl⟩
  have hmi : ((m : Nat) : Int) = min (s.length : Int) 32 := by omega
  obtain ⟨u, hu⟩ : ∃ u, u = s.take m := ⟨_, rfl⟩
  have hul : u.length = m := by rw [hu, List.length_take]; omega
  have hcut : ∀ W, (Instr.slice 9 (.string ⟨s.toArray⟩) none (some (.int .i64 (min (s.length : Int) 32))) none).run Tryz.prog W = .ok (.string ⟨u.toArray⟩) W := fun W => by
    have := cut_run s none (some (.int .i64 (min (s.length : Int) 32))) 0 m (Nat.zero_le _) (by omega) (.inr ⟨rfl, rfl⟩) (.inl (by rw [hmi])) W
    rw [this, hu]
    simp
  have hsz : (⟨u.toArray⟩ : ByteArray).size = m := by rw [← hul]; simp [ByteArray.size]
  have hcv := Lib.run_convert_string_bytes (P := Tryz.prog) w 9 87 5 ⟨u.toArray⟩ Tryz.underlying9 Tryz.underlying87 Tryz.underlying5
  rw [hsz] at hcv
  have hat : ShRel w w.heap.size m (.int .i64 0) (Lib.bytesWorld w 5 ⟨u.toArray⟩) := by
    refine ⟨0, u, Nat.zero_le _, rfl, hul, ⟨rfl, rfl, rfl, by rw [Lib.bytesWorld_size]; omega, fun b hb => Lib.bytesWorld_at_old w _ _ b hb⟩, by rw [Lib.bytesWorld_size]; omega, fun j x hj => ?_, fun j hj => ?_⟩
    · have hjl : j < u.length := (List.getElem?_eq_some_iff.1 hj).1
      rw [Lib.bytesWorld_cell w _ _ j (by rw [hsz]; omega)]
      simp only [List.getD_eq_getElem?_getD]
      rw [hj]; rfl
    · unfold World.frozen?
      rw [Lib.bytesWorld_at_new]
      have hbs : m ≤ (Lib.bytesCells w 5 ⟨u.toArray⟩).size := by simp [Lib.bytesCells]; omega
      simp
      omega
  generalize Lib.bytesWorld w 5 ⟨u.toArray⟩ = w1 at *
  generalize grownCap w m 0 5 = cap at *
  have hm32 : m ≤ 32 := by omega
  clear hmi hm hu hul hsz
  unfold txt
  go_enter Tryz.func60, Tryz.ntmps60
  go_wp2_with fail
  go_loopw [14] (fun i wr => ShRel w w.heap.size m i wr) (fun i _ => m - (intOf i).toNat)
  case atStart => exact hat
  case round =>
    obtain ⟨k, xs, hk, rfl, hxl, hB, hl, hc, hf⟩ := hrel
    clear hat
    by_cases hkl : k < m
    · obtain ⟨x, hx⟩ : ∃ x, xs[k]? = some x := ⟨_, List.getElem?_eq_getElem (by omega)⟩
      have hcell : wr.cell? ⟨w.heap.size, k, none⟩ = some (.int .u8 x.toNat) := hc k x hx
      have hfr := hf k hkl
      have hkI : (0 : Int) ≤ k ∧ (k : Int) < m := by omega
      have D1 := Lib.hid (show ShRel w w.heap.size m (.int .i64 ((k + 1 : Nat) : Int)) wr from ⟨k + 1, xs, hkl, rfl, hxl, hB, hl, hc, hf⟩)
      have D2 := Lib.hid (show ShRel w w.heap.size m (.int .i64 ((k + 1 : Nat) : Int)) (wr.setCell ⟨w.heap.size, k, none⟩ (.int .u8 63)) from
        ⟨k + 1, xs.set k 63, hkl, rfl, by simpa using hxl, hB.setCell (Nat.le_refl _) _, by simpa using hl, fun j y hj => by
          rw [List.getElem?_set] at hj
          by_cases hjk : k = j
          · subst hjk
            rw [if_pos rfl, if_pos (by omega)] at hj
            cases hj
            exact World.cell?_setCell_same _ _ _ (hc k x hx)
          · rw [if_neg hjk] at hj
            rw [World.cell?_setCell_other _ _ _ _ (by intro e; injection e with _ e2 _; exact hjk e2)]
            exact hc j y hj, fun j hj => by rw [World.frozen?_setCell]; exact hf j hj⟩)
      clear hB hc hf hx
      rcases hq : decide ((x.toNat : Int) < 32) with _ | _
      · rcases hq2 : decide ((126 : Int) < x.toNat) with _ | _
        · go_wp2_with fail
          go_roundw
          case rel => exact D1.out
          case measure => simp [intOf]; omega
        · go_wp2_with fail
          go_roundw
          case rel => exact D2.out
          case measure => simp [intOf]; omega
      · go_wp2_with fail
        go_roundw
        case rel => exact D2.out
        case measure => simp [intOf]; omega
    · obtain rfl : k = m := by omega
      have hcv := run_bytes_text wr w.heap.size cap xs hc k hxl.symm
      have HB := Lib.hid hB
      clear hB hc hf
      go_wp2_with fail
      go_ret
      exact ⟨xs, rfl, by omega, HB.out⟩
set_option maxRecDepth 10000 in
set_option maxHeartbeats 4000000 in
theorem tcheck_no {A : Nat → Prop} {w : World} {v : Value} {args : List (List UInt8)} (h : Vw A w v 1 args.length (args.map txt)) (hn : ∀ x ∈ args, x.length ≤ 1099511627776) (hl : args.length ≤ 1099511627776) (hc : chkL args = false) :
    Calls Tryz.prog 34 #[v] w fun e w' => ∃ c t, e = .returned (.string ⟨(c :: t : List UInt8).toArray⟩) ∧ Below w.heap.size w w' := by
  cases args with
  | nil =>
    obtain ⟨a, cap, rfl, _⟩ := id h.slice
    clear h
    go_enter Tryz.func34, Tryz.ntmps34
    go_wp2_with fail
    go_ret
    exact ⟨_, _, rfl, Below.refl _ _⟩
  | cons nm rest =>
    have HF := Lib.hid (find_ok nm w (hn nm (by simp)))
    have hc : (match specOf (lowL nm) with | none => false | some s => fitA s (rest.length + 1)) = false := hc
    obtain ⟨⟨a, cap, rfl, h1, h2, h3⟩, h4⟩ := h
    rcases h3 with h3 | ⟨b, off, rfl, g2, g3, g4⟩
    · simp at h3
    have c0 : w.cell? ⟨b, off, none⟩ = some (.string ⟨nm.toArray⟩) := g4 0 (txt nm) rfl
    have hlb : b < w.heap.size := World.block_lt_of_cell? _ _ c0
    have hN : (nm :: rest).length = rest.length + 1 := rfl
    rw [hN] at hl ⊢
    have hn1 : 1 ≤ rest.length + 1 := by omega
    generalize rest.length + 1 = n at hl hn1 hc ⊢
    have e0 : ((n : Int) == 0) = false := beq_eq_false_iff_ne.2 (by omega)
    clear h4 g4 hN hn
    try clear h1
    try clear h2
    unfold FindDid at HF
    cases hs : specOf (lowL nm) with
    | none =>
      rw [hs] at HF
      simp only [Option.getD_none, Option.isSome_none] at HF
      unfold txt at HF
      have HSH := Lib.hid (shown_ok nm)
      unfold txt at HSH
      clear hs hc
      go_enter Tryz.func34, Tryz.ntmps34
      go_wp2_with fail
      refine HF.out.mono ?_; rintro e w2 ⟨rfl, hB⟩
      have hB3 := hB.alloc hB.size (.cells #[.string ⟨spec0.name.toArray⟩, .int .i64 spec0.arity, .bool spec0.write, .bool spec0.control, .int .i64 spec0.first, .int .i64 spec0.last, .int .i64 spec0.step] 107)
      have HB3 := Lib.hid hB3
      have c3 : (w2.alloc (.cells #[.string ⟨spec0.name.toArray⟩, .int .i64 spec0.arity, .bool spec0.write, .bool spec0.control, .int .i64 spec0.first, .int .i64 spec0.last, .int .i64 spec0.step] 107)).cell? ⟨b, off, none⟩ = some (.string ⟨nm.toArray⟩) := by rw [(bcell hB3).1 _ _ hlb]; exact c0
      clear hB hB3 HF
      go_wp2_with fail
      refine (HSH.out _).mono ?_; rintro e w4 ⟨t, rfl, ht, hB4⟩
      have hsz : (⟨t.toArray⟩ : ByteArray).size = t.length := by simp [ByteArray.size]
      have hba : (⟨#[69, 82, 82, 32, 117, 110, 107, 110, 111, 119, 110, 32, 99, 111, 109, 109, 97, 110, 100, 32]⟩ : ByteArray) ++ ⟨t.toArray⟩ = ⟨([69, 82, 82, 32, 117, 110, 107, 110, 111, 119, 110, 32, 99, 111, 109, 109, 97, 110, 100, 32] ++ t).toArray⟩ := rfl
      have HB4 := Lib.hid (HB3.out.trans (hB4.mono HB3.out.size))
      clear hB4 HB3 HSH c3
      go_wp2_with fail
      go_ret
      exact ⟨69, [82, 82, 32, 117, 110, 107, 110, 111, 119, 110, 32, 99, 111, 109, 109, 97, 110, 100, 32] ++ t, rfl, HB4.out⟩
    | some s =>
      rw [hs] at HF hc
      simp only [Option.getD_some, Option.isSome_some] at HF
      unfold txt at HF
      obtain ⟨hb1, hb2⟩ := arity_low s (specOf_mem hs)
      have hnl := name_low s (specOf_mem hs)
      obtain ⟨name, arity, write, control, first, last, step⟩ := s
      dsimp only at hb1 hb2 hnl
      have hsz : (⟨name.toArray⟩ : ByteArray).size = name.length := by simp [ByteArray.size]
      have hba : (⟨#[69, 82, 82, 32, 119, 114, 111, 110, 103, 32, 110, 117, 109, 98, 101, 114, 32, 111, 102, 32, 97, 114, 103, 117, 109, 101, 110, 116, 115, 58, 32]⟩ : ByteArray) ++ ⟨name.toArray⟩ = ⟨([69, 82, 82, 32, 119, 114, 111, 110, 103, 32, 110, 117, 109, 98, 101, 114, 32, 111, 102, 32, 97, 114, 103, 117, 109, 101, 110, 116, 115, 58, 32] ++ name).toArray⟩ := rfl
      unfold fitA at hc
      dsimp only at hc
      have ew : IntKind.i64.wrap (- arity) = - arity := by rw [IntKind.wrap_i64]; omega
      clear hs
      by_cases ha : 0 ≤ arity
      · rw [if_pos ha] at hc
        have hne := of_decide_eq_false hc
        have d1 : decide (0 ≤ arity) = true := decide_eq_true ha
        have d2 : ((n : Int) != arity) = true := by simpa using hne
        have d2b : ((n : Int) == arity) = false := by simpa using hne
        clear hc hne ha hb1 hb2
        go_enter Tryz.func34, Tryz.ntmps34
        go_wp2_with fail
        refine HF.out.mono ?_; rintro e w2 ⟨rfl, hB⟩
        have HB := Lib.hid hB
        clear hB HF
        go_wp2_with fail
        go_ret
        exact ⟨69, [82, 82, 32, 119, 114, 111, 110, 103, 32, 110, 117, 109, 98, 101, 114, 32, 111, 102, 32, 97, 114, 103, 117, 109, 101, 110, 116, 115, 58, 32] ++ name, rfl, HB.out.alloc HB.out.size _⟩
      · rw [if_neg ha] at hc
        have hne := of_decide_eq_false hc
        have d1 : decide (0 ≤ arity) = false := decide_eq_false ha
        have d3 : decide (arity < 0) = true := decide_eq_true (by omega)
        have d4 : decide ((n : Int) < - arity) = true := decide_eq_true (by omega)
        clear hc hne ha hb1 hb2
        go_enter Tryz.func34, Tryz.ntmps34
        go_wp2_with fail
        refine HF.out.mono ?_; rintro e w2 ⟨rfl, hB⟩
        have HB := Lib.hid hB
        clear hB HF
        go_wp2_with fail
        go_ret
        exact ⟨69, [82, 82, 32, 119, 114, 111, 110, 103, 32, 110, 117, 109, 98, 101, 114, 32, 111, 102, 32, 97, 114, 103, 117, 109, 101, 110, 116, 115, 58, 32] ++ name, rfl, HB.out.alloc HB.out.size _⟩
end Go.Proofs.YtgmmeeikjofefaaGreatDoor
namespace Go.Proofs.YtgmmeeikjofefaaGreatDoor
open Go Go.RowKit
/-! The document's Check. -/
theorem infoU8 : (Tryz.prog.info? 5).map (fun i => (i.zero, i.size, i.bytes)) = some (some (.int .u8 0), 1, 1) := by kernel_rfl
def RkRel (w : World) (b i : Value) (wr : World) : Prop :=
  ∃ (k : Nat) (xs : List UInt8) (o' : Roles), xs.length = k ∧ i = .int .i64 (k : Int) ∧ Row o' wr [9] 5 1 b k (xs.map bv) ∧ Stp [9] none0 w o' wr ∧ k ≤ 32
theorem rk_next {w wr : World} {a : Option Addr} {n cap : Nat} {i : Value} (_h : RkRel w (.slice a n cap) i wr) : True := trivial
theorem vw_newB (w : World) (x : UInt8) : Vw (fun b => b = w.heap.size) (w.alloc (.cells #[bv x] 5)) (.slice (some ⟨w.heap.size, 0, none⟩) 1 1) 1 1 ([x].map bv) := by
  refine ⟨⟨_, 1, rfl, Nat.le_refl _, by unfold maxLen; omega, .inr ⟨w.heap.size, 0, rfl, by simp, rfl, fun k u hk => ?_⟩⟩, rfl⟩
  have : k = 0 := by have := (List.getElem?_eq_some_iff.1 hk).1; simp at this; omega
  subst this
  cases hk
  unfold World.cell?
  rw [show (w.alloc (.cells #[bv x] 5)).heap[w.heap.size]? = some (.cells #[bv x] 5 (0, 0)) from heap_alloc_new w _]
  rfl
theorem one_bv (l : List UInt8) : ∀ u ∈ l.map bv, u.oneCell' = true := by
  intro u hu
  obtain ⟨x, _, rfl⟩ := List.mem_map.1 hu
  rfl
set_option maxRecDepth 10000 in
theorem row_text {o : Roles} {w : World} {r : List Nat} {a : Option Addr} {n cap : Nat} {xs : List UInt8} (h : Row o w r 5 1 (.slice a n cap) n (xs.map bv)) (hn : xs.length = n) :
    (convert 87 9 (.slice a n cap)).run Tryz.prog w = .ok (.string ⟨xs.toArray⟩) w := by
  rcases h.own.2 with ⟨h1, h2⟩ | ⟨g, cap', cur, h1, h2, h3, h4, h5, h6, h7⟩
  · injection h1 with e1 e2 e3
    subst e1 e2 e3
    have : xs = [] := List.eq_nil_of_length_eq_zero hn
    subst this
    rw [run_convert_bytes_string w 87 9 5 _ _ _ Tryz.underlying87 Tryz.underlying5 Tryz.underlying9]
    rfl
  · injection h1 with e1 e2 e3
    subst e1 e3
    refine run_bytes_text w g cap xs (fun j x hj => ?_) n hn.symm
    have hjn : j < n := by rw [← hn]; exact (List.getElem?_eq_some_iff.1 hj).1
    unfold World.cell?
    simp only [h3]
    have : cur[j]? = (xs.map bv)[j]? := by rw [← h7, List.getElem?_take, if_pos (by omega)]; simp
    simp only [Option.isSome_none, Bool.false_eq_true, if_false, this, List.getElem?_map, hj]
    rfl
set_option maxRecDepth 10000 in
set_option maxHeartbeats 4000000 in
theorem rcheck_yes {A : Nat → Prop} {w : World} {v : Value} {args : List (List UInt8)} (h : Vw A w v 1 args.length (args.map txt)) (hn : ∀ x ∈ args, x.length ≤ 1099511627776) (hl : args.length ≤ 1099511627776) (hc : chkL args = true) :
    Calls Tryz.prog 42 #[v] w fun e w' => e = .returned (.string ⟨#[]⟩) ∧ Below w.heap.size w w' := by
  cases args with
  | nil => cases hc
  | cons nm rest =>
    have HF := Lib.hid (rfind_ok nm w (hn nm (by simp)))
    have hc : (match specOf (lowL nm) with | none => false | some s => fitA s (rest.length + 1)) = true := hc
    obtain ⟨⟨a, cap, rfl, h1, h2, h3⟩, h4⟩ := h
    rcases h3 with h3 | ⟨b, off, rfl, g2, g3, g4⟩
    · simp at h3
    have c0 : w.cell? ⟨b, off, none⟩ = some (.string ⟨nm.toArray⟩) := g4 0 (txt nm) rfl
    have hN : (nm :: rest).length = rest.length + 1 := rfl
    rw [hN] at hl ⊢
    have hn1 : 0 < rest.length + 1 := by omega
    generalize rest.length + 1 = n at hl hn1 hc ⊢
    have hnI : decide ((0 : Int) < n) = true := decide_eq_true (by omega)
    clear h4 g4 hN hn
    try clear h1
    try clear h2
    unfold FindDid at HF
    cases hs : specOf (lowL nm) with
    | none => rw [hs] at hc; cases hc
    | some s =>
      rw [hs] at HF hc
      simp only [Option.getD_some, Option.isSome_some] at HF
      unfold txt at HF
      obtain ⟨hb1, hb2⟩ := arity_low s (specOf_mem hs)
      obtain ⟨name, arity, write, control, first, last, step⟩ := s
      dsimp only at hb1 hb2
      unfold fitA at hc
      dsimp only at hc
      have ew : IntKind.i64.wrap (- arity) = - arity := by rw [IntKind.wrap_i64]; omega
      clear hs
      by_cases ha : 0 ≤ arity
      · rw [if_pos ha] at hc
        have hne := of_decide_eq_true hc
        have d1 : decide (0 ≤ arity) = true := decide_eq_true ha
        have d2 : ((n : Int) != arity) = false := by simpa using hne
        have d2b : ((n : Int) == arity) = true := by simpa using hne
        have d4 : decide ((n : Int) < - arity) = false := decide_eq_false (by omega)
        clear hc hne ha hb1 hb2
        go_enter Tryz.func42, Tryz.ntmps42
        go_wp2_with fail
        refine HF.out.mono ?_; rintro e w2 ⟨rfl, hB⟩
        have HB := Lib.hid hB
        clear hB HF
        go_wp2_with fail
        go_ret
        exact ⟨rfl, HB.out.alloc HB.out.size _⟩
      · rw [if_neg ha] at hc
        have hne := of_decide_eq_true hc
        have d1 : decide (0 ≤ arity) = false := decide_eq_false ha
        have d4 : decide ((n : Int) < - arity) = false := decide_eq_false (by omega)
        clear hc hne ha hb1 hb2
        go_enter Tryz.func42, Tryz.ntmps42
        go_wp2_with fail
        refine HF.out.mono ?_; rintro e w2 ⟨rfl, hB⟩
        have HB := Lib.hid hB
        clear hB HF
        go_wp2_with fail
        go_ret
        exact ⟨rfl, HB.out.alloc HB.out.size _⟩
abbrev unkB : List UInt8 := [69, 82, 82, 32, 117, 110, 107, 110, 111, 119, 110, 32, 99, 111, 109, 109, 97, 110, 100, 32]
set_option maxRecDepth 10000 in
set_option maxHeartbeats 8000000 in
theorem rcheck_no {A : Nat → Prop} {w : World} {v : Value} {args : List (List UInt8)} (h : Vw A w v 1 args.length (args.map txt)) (hn : ∀ x ∈ args, x.length ≤ 1099511627776) (hl : args.length ≤ 1099511627776) (hc : chkL args = false) :
    Calls Tryz.prog 42 #[v] w fun e w' => ∃ c t, e = .returned (.string ⟨(c :: t : List UInt8).toArray⟩) ∧ Below w.heap.size w w' := by
  cases args with
  | nil =>
    obtain ⟨a, cap, rfl, _⟩ := id h.slice
    have HF := Lib.hid (rfind_ok [] w (by decide))
    rw [show specOf (lowL []) = none from by decide +kernel] at HF
    unfold FindDid txt at HF
    simp only [Option.getD_none, Option.isSome_none] at HF
    clear h
    go_enter Tryz.func42, Tryz.ntmps42
    go_wp2_with fail
    refine HF.out.mono ?_; rintro e w2 ⟨rfl, hB⟩
    have HB := Lib.hid hB
    clear hB HF
    go_wp2_with fail
    go_loopw [6, 7] (fun b i wr => b = .slice none 0 0 ∧ i = .int .i64 0 ∧ Below w.heap.size w wr) (fun _ _ _ => 0)
    case atStart => exact ⟨rfl, rfl, HB.out.alloc HB.out.size _⟩
    case round =>
      obtain ⟨rfl, rfl, hB⟩ := hrel
      have HB2 := Lib.hid hB
      have hcv : (convert 87 9 (.slice none 0 0)).run Tryz.prog wr = .ok (.string ⟨#[]⟩) wr := by
        rw [run_convert_bytes_string wr 87 9 5 _ _ _ Tryz.underlying87 Tryz.underlying5 Tryz.underlying9]
        rfl
      clear hB
      go_wp2_with fail
      go_ret
      exact ⟨_, _, rfl, HB2.out⟩
  | cons nm rest =>
    have HF := Lib.hid (rfind_ok nm w (hn nm (by simp)))
    have hnl := hn nm (by simp)
    have hc : (match specOf (lowL nm) with | none => false | some s => fitA s (rest.length + 1)) = false := hc
    obtain ⟨⟨a, cap, rfl, h1, h2, h3⟩, h4⟩ := h
    rcases h3 with h3 | ⟨b, off, rfl, g2, g3, g4⟩
    · simp at h3
    have c0 : w.cell? ⟨b, off, none⟩ = some (.string ⟨nm.toArray⟩) := g4 0 (txt nm) rfl
    have hN : (nm :: rest).length = rest.length + 1 := rfl
    rw [hN] at hl ⊢
    have hn1 : 0 < rest.length + 1 := by omega
    generalize rest.length + 1 = n at hl hn1 hc ⊢
    have hnI : decide ((0 : Int) < n) = true := decide_eq_true (by omega)
    clear h4 g4 hN hn
    try clear h1
    try clear h2
    unfold FindDid at HF
    cases hs : specOf (lowL nm) with
    | none =>
      rw [hs] at HF
      simp only [Option.getD_none, Option.isSome_none] at HF
      unfold txt at HF
      clear hs hc
      go_enter Tryz.func42, Tryz.ntmps42
      go_wp2_with fail
      refine HF.out.mono ?_; rintro e w2 ⟨rfl, hB⟩
      have HB := Lib.hid (hB.alloc hB.size (.cells #[.string ⟨spec0.name.toArray⟩, .int .i64 spec0.arity, .bool spec0.write, .bool spec0.control, .int .i64 spec0.first, .int .i64 spec0.last, .int .i64 spec0.step] 107))
      have hat : RkRel (w2.alloc (.cells #[.string ⟨spec0.name.toArray⟩, .int .i64 spec0.arity, .bool spec0.write, .bool spec0.control, .int .i64 spec0.first, .int .i64 spec0.last, .int .i64 spec0.step] 107)) (.slice none 0 0) (.int .i64 0) (w2.alloc (.cells #[.string ⟨spec0.name.toArray⟩, .int .i64 spec0.arity, .bool spec0.write, .bool spec0.control, .int .i64 spec0.first, .int .i64 spec0.last, .int .i64 spec0.step] 107)) :=
        ⟨0, [], none0, rfl, rfl, Row.nil _ _ _ _ _, Stp.refl _ _ _, by omega⟩
      obtain ⟨i0, hi0, hz0, hz1, hz2⟩ := info_parts infoU8
      clear hB HF c0
      go_wp2_with fail
      generalize (w2.alloc (.cells #[.string ⟨spec0.name.toArray⟩, .int .i64 spec0.arity, .bool spec0.write, .bool spec0.control, .int .i64 spec0.first, .int .i64 spec0.last, .int .i64 spec0.step] 107)) = W at *
      go_loopw [6, 7] (fun b i wr => RkRel W b i wr) (fun _ i _ => 32 - (intOf i).toNat)
      case atStart => exact hat
      case round =>
        obtain ⟨k, xs, o3, hxl, rfl, hrow, hst, hk32'⟩ := hrel
        have hsz : (⟨xs.toArray⟩ : ByteArray).size = k := by rw [← hxl]; simp [ByteArray.size]
        have hba : (⟨#[69, 82, 82, 32, 117, 110, 107, 110, 111, 119, 110, 32, 99, 111, 109, 109, 97, 110, 100, 32]⟩ : ByteArray) ++ ⟨xs.toArray⟩ = ⟨([69, 82, 82, 32, 117, 110, 107, 110, 111, 119, 110, 32, 99, 111, 109, 109, 97, 110, 100, 32] ++ xs).toArray⟩ := rfl
        clear hat
        obtain ⟨ar, cr, rfl, _⟩ := id hrow.slice
        have HEND := Lib.hid (row_text hrow hxl)
        have HST := Lib.hid hst
        by_cases hkl : k < nm.length
        · have d1 : decide ((k : Int) < nm.length) = true := decide_eq_true (by omega)
          by_cases hk32 : k < 32
          · have d2 : decide ((k : Int) < 32) = true := decide_eq_true (by omega)
            obtain ⟨x, hx⟩ : ∃ x, nm[k]? = some x := ⟨_, List.getElem?_eq_getElem hkl⟩
            have hix := idx_ok hx
            have hmx : k + 1 ≤ 64 := by omega
            have hm1 : k + 1 ≤ maxLen := by unfold maxLen; omega
            have hm2 : (k + 1) * 1 ≤ 140737488355328 := by omega
            have HSTEP := Lib.hid (fun (y : UInt8) => show (∀ (i' : Value), True) ∧ Row o3 (wr.alloc (.cells #[bv y] 5)) [9] 5 1 (.slice ar k cr) k (xs.map bv) ∧ Stp [9] none0 W o3 (wr.alloc (.cells #[bv y] 5)) ∧ True from
              ⟨fun _ => trivial, hrow.below ((Below.refl _ wr).alloc (Nat.le_refl _) (.cells #[bv y] 5)), hst.trans (Stp.ofBelow [9] o3 ((Below.refl _ wr).alloc (Nat.le_refl _) (.cells #[bv y] 5))), trivial⟩)
            have HSRC := Lib.hid (fun (y : UInt8) => (vw_newB wr y).src (P := Tryz.prog) Tryz.underlying87 (one_bv [y]))
            have HXL := Lib.hid hxl
            clear hrow hst hx HEND
            rcases hq : decide ((x.toNat : Int) < 32) with _ | _
            · rcases hq2 : decide ((126 : Int) < x.toNat) with _ | _
              · have hR := (HSTEP.out x).2.1
                have hS := (HSTEP.out x).2.2.1
                have hSR := HSRC.out x
                have HR := Lib.hid hR
                have HS := Lib.hid hS
                have HSR := Lib.hid hSR
                clear hR hS hSR HSTEP HSRC HST
                unfold bv at HR HS HSR
                go_wp2_with (
                  at_builtin
                  refine wpList_app _ rfl _ _ 87 87 rfl 5 i0 _ 1 1 Tryz.underlying87 hi0 hz0 hz1 hz2 rfl rfl HR.out rfl HSR.out hm1 hm2 ?_
                  intro v' w5 o5 hrow5 hst5
                  obtain ⟨a5, c5, rfl, _⟩ := id hrow5.slice
                  have D := Lib.hid (show RkRel W (.slice a5 (k + 1) c5) (.int .i64 ((k + 1 : Nat) : Int)) w5 from ⟨k + 1, xs ++ [x], o5, by simp [HXL.out], rfl, by rw [List.map_append]; exact hrow5, HS.out.trans hst5, by omega⟩)
                  clear hrow5 hst5 HR HS HSR)
                go_roundw
                case rel => exact D.out
                case measure => simp [intOf]; omega
              · have hR := (HSTEP.out 63).2.1
                have hS := (HSTEP.out 63).2.2.1
                have hSR := HSRC.out 63
                have HR := Lib.hid hR
                have HS := Lib.hid hS
                have HSR := Lib.hid hSR
                clear hR hS hSR HSTEP HSRC HST
                rw [show bv 63 = Value.int .u8 63 from rfl] at HR HS
                rw [show [(63 : UInt8)].map bv = [Value.int .u8 63] from rfl, show bv 63 = Value.int .u8 63 from rfl] at HSR
                go_wp2_with (
                  at_builtin
                  refine wpList_app _ rfl _ _ 87 87 rfl 5 i0 _ 1 1 Tryz.underlying87 hi0 hz0 hz1 hz2 rfl rfl HR.out rfl HSR.out hm1 hm2 ?_
                  intro v' w5 o5 hrow5 hst5
                  obtain ⟨a5, c5, rfl, _⟩ := id hrow5.slice
                  have D := Lib.hid (show RkRel W (.slice a5 (k + 1) c5) (.int .i64 ((k + 1 : Nat) : Int)) w5 from ⟨k + 1, xs ++ [63], o5, by simp [HXL.out], rfl, by rw [List.map_append]; exact hrow5, HS.out.trans hst5, by omega⟩)
                  clear hrow5 hst5 HR HS HSR)
                go_roundw
                case rel => exact D.out
                case measure => simp [intOf]; omega
            · have hR := (HSTEP.out 63).2.1
              have hS := (HSTEP.out 63).2.2.1
              have hSR := HSRC.out 63
              have HR := Lib.hid hR
              have HS := Lib.hid hS
              have HSR := Lib.hid hSR
              clear hR hS hSR HSTEP HSRC HST
              rw [show bv 63 = Value.int .u8 63 from rfl] at HR HS
              rw [show [(63 : UInt8)].map bv = [Value.int .u8 63] from rfl, show bv 63 = Value.int .u8 63 from rfl] at HSR
              go_wp2_with (
                at_builtin
                refine wpList_app _ rfl _ _ 87 87 rfl 5 i0 _ 1 1 Tryz.underlying87 hi0 hz0 hz1 hz2 rfl rfl HR.out rfl HSR.out hm1 hm2 ?_
                intro v' w5 o5 hrow5 hst5
                obtain ⟨a5, c5, rfl, _⟩ := id hrow5.slice
                have D := Lib.hid (show RkRel W (.slice a5 (k + 1) c5) (.int .i64 ((k + 1 : Nat) : Int)) w5 from ⟨k + 1, xs ++ [63], o5, by simp [HXL.out], rfl, by rw [List.map_append]; exact hrow5, HS.out.trans hst5, by omega⟩)
                clear hrow5 hst5 HR HS HSR)
              go_roundw
              case rel => exact D.out
              case measure => simp [intOf]; omega
          · have d2 : decide ((k : Int) < 32) = false := decide_eq_false (by omega)
            have he := HEND.out
            clear hrow hst HEND
            go_wp2_with fail
            go_ret
            exact ⟨69, [82, 82, 32, 117, 110, 107, 110, 111, 119, 110, 32, 99, 111, 109, 109, 97, 110, 100, 32] ++ xs, rfl, HB.out.trans (HST.out.below0.mono HB.out.size)⟩
        · have d1 : decide ((k : Int) < nm.length) = false := decide_eq_false (by omega)
          have he := HEND.out
          clear hrow hst HEND
          go_wp2_with fail
          go_ret
          exact ⟨69, [82, 82, 32, 117, 110, 107, 110, 111, 119, 110, 32, 99, 111, 109, 109, 97, 110, 100, 32] ++ xs, rfl, HB.out.trans (HST.out.below0.mono HB.out.size)⟩
    | some s =>
      rw [hs] at HF hc
      simp only [Option.getD_some, Option.isSome_some] at HF
      unfold txt at HF
      obtain ⟨hb1, hb2⟩ := arity_low s (specOf_mem hs)
      have hnl := name_low s (specOf_mem hs)
      obtain ⟨name, arity, write, control, first, last, step⟩ := s
      dsimp only at hb1 hb2 hnl
      have hsz : (⟨name.toArray⟩ : ByteArray).size = name.length := by simp [ByteArray.size]
      have hba : (⟨#[69, 82, 82, 32, 119, 114, 111, 110, 103, 32, 110, 117, 109, 98, 101, 114, 32, 111, 102, 32, 97, 114, 103, 117, 109, 101, 110, 116, 115, 58, 32]⟩ : ByteArray) ++ ⟨name.toArray⟩ = ⟨([69, 82, 82, 32, 119, 114, 111, 110, 103, 32, 110, 117, 109, 98, 101, 114, 32, 111, 102, 32, 97, 114, 103, 117, 109, 101, 110, 116, 115, 58, 32] ++ name).toArray⟩ := rfl
      unfold fitA at hc
      dsimp only at hc
      have ew : IntKind.i64.wrap (- arity) = - arity := by rw [IntKind.wrap_i64]; omega
      clear hs
      by_cases ha : 0 ≤ arity
      · rw [if_pos ha] at hc
        have hne := of_decide_eq_false hc
        have d1 : decide (0 ≤ arity) = true := decide_eq_true ha
        have d2 : ((n : Int) != arity) = true := by simpa using hne
        have d2b : ((n : Int) == arity) = false := by simpa using hne
        clear hc hne ha hb1 hb2
        go_enter Tryz.func42, Tryz.ntmps42
        go_wp2_with fail
        refine HF.out.mono ?_; rintro e w2 ⟨rfl, hB⟩
        have HB := Lib.hid hB
        clear hB HF
        go_wp2_with fail
        go_ret
        exact ⟨69, [82, 82, 32, 119, 114, 111, 110, 103, 32, 110, 117, 109, 98, 101, 114, 32, 111, 102, 32, 97, 114, 103, 117, 109, 101, 110, 116, 115, 58, 32] ++ name, rfl, HB.out.alloc HB.out.size _⟩
      · rw [if_neg ha] at hc
        have hne := of_decide_eq_false hc
        have d1 : decide (0 ≤ arity) = false := decide_eq_false ha
        have d4 : decide ((n : Int) < - arity) = true := decide_eq_true (by omega)
        clear hc hne ha hb1 hb2
        go_enter Tryz.func42, Tryz.ntmps42
        go_wp2_with fail
        refine HF.out.mono ?_; rintro e w2 ⟨rfl, hB⟩
        have HB := Lib.hid hB
        clear hB HF
        go_wp2_with fail
        go_ret
        exact ⟨69, [82, 82, 32, 119, 114, 111, 110, 103, 32, 110, 117, 109, 98, 101, 114, 32, 111, 102, 32, 97, 114, 103, 117, 109, 101, 110, 116, 115, 58, 32] ++ name, rfl, HB.out.alloc HB.out.size _⟩
end Go.Proofs.YtgmmeeikjofefaaGreatDoor
