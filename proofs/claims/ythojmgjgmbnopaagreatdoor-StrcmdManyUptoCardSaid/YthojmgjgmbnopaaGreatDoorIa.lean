import Derived.Test.YthojmgjgmbnopaaGreatDoorJB
import Derived.Test.YthojmgjgmbnopaaGreatDoorJG
namespace Go.Proofs.YthojmgjgmbnopaaGreatDoor
open Go Go.RowKit
/-! Commands on strings over any space: there, get, strlen. -/
/-- The error of a key of another kind. -/
def wrongB : Tx := [87, 82, 79, 78, 71, 84, 89, 80, 69, 32, 116, 104, 101, 32, 107, 101, 121, 32, 104, 111, 108, 100, 115, 32, 97, 110, 111, 116, 104, 101, 114, 32, 107, 105, 110, 100, 32, 111, 102, 32, 118, 97, 108, 117, 101]
def longB : Tx := [69, 82, 82, 32, 116, 104, 101, 32, 118, 97, 108, 117, 101, 32, 119, 111, 117, 108, 100, 32, 98, 101, 32, 116, 111, 111, 32, 108, 111, 110, 103]
/-- What a key holds at a tick, as the commands see it. -/
def SP.txt (S : SP) (now : Int) (k : Tx) : Tx := ((S.at now k).getD hd0).v.text
def SP.is (S : SP) (now : Int) (k : Tx) : Bool := (S.at now k).isSome
def SP.bad (S : SP) (now : Int) (k : Tx) : Bool := (S.at now k).isSome && ((S.at now k).getD hd0).v.kind != 1
def oldF (S : SP) (now : Int) (k : Tx) : Rf := if S.is now k then ⟨4, S.txt now k, 0⟩ else ⟨5, [], 0⟩
section
variable {o : Roles} {w : World} {q : List Nat} {p : Nat} {c : Cnt} {S : SP} {cb : Nat} {ρ : List Nat} {now : Int} {sv : Value} {nm : Tx}
theorem ctext_any (h : SpJ o w q p S c) (hcb : Blk o w ρ cb (callC p now nm sv) 108) (k : Tx) :
    Calls Tryz.prog 175 #[.pointer (some ⟨cb, 0, none⟩), .string ⟨k.toArray⟩] w fun e w' => e = .returned (.tuple #[.string ⟨(S.txt now k).toArray⟩, .bool (S.is now k), .bool (S.bad now k)]) ∧ Below w.heap.size w w' := ctext_ok h hcb k
/-- The first word of a request. -/
theorem arg_at {A : Nat → Prop} {args : List Tx} (hv : Vw A w sv 1 args.length (args.map txt)) (h1 : 0 < args.length) :
    ∃ b off cap, sv = .slice (some ⟨b, off, none⟩) args.length cap ∧ b < w.heap.size ∧ A b ∧ args.length ≤ cap ∧ ∀ (j : Nat) (x : Tx), args[j]? = some x → w.cell? ⟨b, off + j, none⟩ = some (.string ⟨x.toArray⟩) := by
  obtain ⟨⟨a, cap, rfl, g1, g2, g3⟩, g4⟩ := hv
  rcases g3 with g3 | ⟨b, off, rfl, g5, g6, g7⟩
  · omega
  · exact ⟨b, off, cap, rfl, g5, g6, g1, fun j x hx => g7 j _ (by rw [List.getElem?_map, hx]; rfl)⟩
/-- A cell of a block of another role. -/
theorem stp_cell {o' : Roles} {w' : World} {b k : Nat} {v : Value} (st : Stp q o w o' w') (hq : ¬ q <+: o b) (hc : w.cell? ⟨b, k, none⟩ = some v) : w'.cell? ⟨b, k, none⟩ = some v := by
  rw [← hc]
  unfold World.cell?
  simp only [st.block b (cell_lt hc) hq]
set_option maxRecDepth 10000 in
set_option maxHeartbeats 4000000 in
theorem there_any (h : SpJ o w q p S c) (hcb : Blk o w ρ cb (callC p now nm sv) 108) (k : Tx) :
    Calls Tryz.prog 182 #[.pointer (some ⟨cb, 0, none⟩), .string ⟨k.toArray⟩] w fun e w' => e = .returned (.bool (S.is now k)) ∧ Below w.heap.size w w' := by
  have hB1 : Below w.heap.size w (w.alloc (.cells #[.int .i64 0, .string ⟨#[]⟩, .slice none 0 0, .slice none 0 0, .slice none 0 0] 43)) := (Below.refl _ _).alloc (Nat.le_refl _) _
  have HG1 := Lib.hid (jget_ok (h.below (Below.refl _ w).drew) k now)
  have HG2 := Lib.hid (jget_ok (h.below hB1.drew) k now)
  have HD1 := Lib.hid (show Blk none0 (w.alloc (.cells #[.int .i64 0, .string ⟨#[]⟩, .slice none 0 0, .slice none 0 0, .slice none 0 0] 43)) [] w.heap.size #[.int .i64 0, .string ⟨#[]⟩, .slice none 0 0, .slice none 0 0, .slice none 0 0] 43 from ⟨heap_alloc_new w _, rfl⟩)
  have HB1 := Lib.hid hB1
  have hcc := hcb.cell
  have hcl := hcb.lt
  have D : S.is now k = (S.at now k).isSome := rfl
  have D := Lib.hid D
  generalize (S.at now k).getD hd0 = H at *
  generalize (S.at now k).isSome = ok at *
  obtain ⟨⟨kind, text, list, fields, ranked⟩, due, ver⟩ := H
  dsimp only at HG1 HG2
  clear h hcb hB1
  unfold txt at HG1 HG2
  go_enter Tryz.func182, Tryz.ntmps182
  go_wp2_with fail
  go_region_with (first
    | (go_at_call 24
       (with_reducible refine HG1.out.mono ?_)
       rintro e w2 ⟨l2, f2, r2, rfl, hv2, hB2⟩
       have HB2 := Lib.hid (show Below w.heap.size w w2 from (Below.refl _ w).drew.trans hB2)
       obtain ⟨b1, d1, rfl, _⟩ := id hv2.list.slice
       obtain ⟨b2, d2, rfl, _⟩ := id hv2.fields.slice
       obtain ⟨b3, d3, rfl, _⟩ := id hv2.ranked.slice
       clear hv2 hB2)
    | (go_at_call 24
       (with_reducible refine HG2.out.mono ?_)
       rintro e w2 ⟨l2, f2, r2, rfl, hv2, hB2⟩
       have HB2 := Lib.hid (show Below w.heap.size w w2 from HB1.out.trans ((((Below.refl _ _).drew).trans hB2).mono HB1.out.size))
       have HD2 := Lib.hid (HD1.out.below (((Below.refl _ _).drew).trans hB2))
       have hcd := HD2.out.cell
       have hfd := HD2.out.free
       obtain ⟨b1, d1, rfl, _⟩ := id hv2.list.slice
       obtain ⟨b2, d2, rfl, _⟩ := id hv2.fields.slice
       obtain ⟨b3, d3, rfl, _⟩ := id hv2.ranked.slice
       clear hv2 hB2))
  all_goals (
    clear HG1 HG2 HD1 HB1
    go_wp2_with fail
    go_ret
    refine ⟨by rw [D.out]; rfl, ?_⟩
    first
    | (with_reducible exact HB2.out.alloc HB2.out.size _)
    | (iterate 5 with_reducible refine Below.setCell ?_ (by exact Nat.le_refl _) _
       with_reducible exact HB2.out))
set_option maxRecDepth 10000 in
set_option maxHeartbeats 4000000 in
theorem get_any (h : SpJ o w q p S c) (hq : q ≠ []) {k : Tx} {rest : List Tx} (hcb : Blk o w ρ cb (callC p now nm sv) 108)
    (hv : Vw (Old w) w sv 1 (rest.length + 1) ((k :: rest).map txt)) :
    Calls Tryz.prog 103 #[.pointer (some ⟨cb, 0, none⟩)] w (RepJ o w q p S c (if S.bad now k then errF wrongB else oldF S now k)) := by
  obtain ⟨o1, m1, hbg, hj⟩ := begin_roles h hq
  have hfr0 := Fr.begin hbg hj hcb
  have hcc := hcb.cell
  have hcl := hcb.lt
  obtain ⟨b, off, cap, rfl, hbl, _, hcap, hg⟩ := arg_at (args := k :: rest) hv (by simp)
  have hk := hg 0 k rfl
  rw [Nat.add_zero] at hk
  have hcapI : (1 : Int) ≤ (cap : Int) := by simp at hcap; omega
  have hlen : (0 : Int) < ((k :: rest).length : Int) := by simp
  have HF := Lib.hid hfr0
  have HTX := Lib.hid (ctext_any hfr0.sp hfr0.call k)
  have HBG := Lib.hid hbg
  unfold oldF
  generalize S.txt now k = tx at *
  generalize S.is now k = ok at *
  generalize S.bad now k = wr at *
  generalize (k :: rest).length = L at *
  clear h hcb hv hbg hj hfr0 hg hcap
  cases wr with
  | true =>
    simp only [if_true]
    go_enter Tryz.func103, Tryz.ntmps103
    go_wp2_with fail
    refine HTX.out.mono ?_; rintro e w3 ⟨rfl, hB3⟩
    have HF3 := Lib.hid (HF.out.below hB3)
    have HFA := Lib.hid (lfault_ok w3 wrongB)
    unfold txt wrongB at HFA
    clear hB3 HTX HF hcc hk
    go_wp2_with fail
    refine HFA.out.mono ?_; rintro e w6 ⟨rfl, hB6⟩
    have hf6 := HF3.out.below hB6
    have HF6 := Lib.hid hf6
    have hrc := hf6.res.cell
    have hrf := hf6.res.free
    clear hB6 hf6 HF3 HFA
    go_wp2_with fail
    obtain ⟨hj7, hs7⟩ := HF6.out.fin HBG.out (.int .i64 2) (.string ⟨wrongB.toArray⟩) (.int .i64 0) (.slice none 0 0)
    exact bodyPost_ret (v := repV 2 wrongB 0 (.slice none 0 0)) (by simp [results, Tryz.results103, go_sem, hrc, wrongB]) rfl ⟨rfl, o1, hj7, hs7⟩
  | false =>
    simp only [Bool.false_eq_true, if_false]
    cases ok with
    | false =>
      simp only [Bool.false_eq_true, if_false]
      go_enter Tryz.func103, Tryz.ntmps103
      go_wp2_with fail
      refine HTX.out.mono ?_; rintro e w3 ⟨rfl, hB3⟩
      have HF3 := Lib.hid (HF.out.below hB3)
      have HOLD := Lib.hid (lold_ok w3 tx false)
      unfold txt at HOLD
      simp only [Bool.false_eq_true, if_false] at HOLD
      clear hB3 HTX HF hcc hk
      go_wp2_with fail
      refine HOLD.out.mono ?_; rintro e w6 ⟨rfl, hB6⟩
      have hf6 := HF3.out.below hB6
      have HF6 := Lib.hid hf6
      have hrc := hf6.res.cell
      have hrf := hf6.res.free
      clear hB6 hf6 HF3 HOLD
      go_wp2_with fail
      obtain ⟨hj7, hs7⟩ := HF6.out.fin HBG.out (.int .i64 5) (.string ⟨#[]⟩) (.int .i64 0) (.slice none 0 0)
      exact bodyPost_ret (v := repV 5 [] 0 (.slice none 0 0)) (by simp [results, Tryz.results103, go_sem, hrc]) rfl ⟨rfl, o1, hj7, hs7⟩
    | true =>
      simp only [if_true]
      go_enter Tryz.func103, Tryz.ntmps103
      go_wp2_with fail
      refine HTX.out.mono ?_; rintro e w3 ⟨rfl, hB3⟩
      have HF3 := Lib.hid (HF.out.below hB3)
      have HOLD := Lib.hid (lold_ok w3 tx true)
      unfold txt at HOLD
      simp only [if_true] at HOLD
      clear hB3 HTX HF hcc hk
      go_wp2_with fail
      refine HOLD.out.mono ?_; rintro e w6 ⟨rfl, hB6⟩
      have hf6 := HF3.out.below hB6
      have HF6 := Lib.hid hf6
      have hrc := hf6.res.cell
      have hrf := hf6.res.free
      clear hB6 hf6 HF3 HOLD
      go_wp2_with fail
      obtain ⟨hj7, hs7⟩ := HF6.out.fin HBG.out (.int .i64 4) (.string ⟨tx.toArray⟩) (.int .i64 0) (.slice none 0 0)
      exact bodyPost_ret (v := repV 4 tx 0 (.slice none 0 0)) (by simp [results, Tryz.results103, go_sem, hrc]) rfl ⟨rfl, o1, hj7, hs7⟩
end
end Go.Proofs.YthojmgjgmbnopaaGreatDoor
