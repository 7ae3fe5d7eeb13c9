/- The end of a law's proof: it answered true, and nothing that was there has turned. -/
import Derived.WalkKit
import Derived.ProofKit
import Derived.OpenShut
import Derived.Test.YthojmgjgmbnopaaGreatDoorXF
import Derived.Test.YthojmgjgmbnopaaGreatDoorRows
import Derived.Deep.Slices
import Derived.Deep.Strs
import Derived.Lib.SmallJoins
import Derived.ChangeMaps5
import Derived.Test.YthojmgjgmbnopaaGreatDoorCards
import Derived.Test.YthojmgjgmbnopaaGreatDoorTie
import Derived.Stop.LaidErr
import Derived.Lib.LaidTab
import Derived.LaidMore
import Derived.Deep.DeepHandedRow
import Derived.Deep.DeepWitnessRowRef
import Derived.Test.YthojmgjgmbnopaaGreatDoorXM
namespace Go.Proofs.YthojmgjgmbnopaaGreatDoor
open Go.ChangeShapes Go.WideShapes Go.ChangeAt Go.RowKit

theorem trodAll_below {H : Type} {enc : TypeId × Value → H} {P : Program} (hl : laidOutB P = true) {W W' : World} (hb : Below W.heap.size W W') :
    ∀ {ts : List TypeId} {vs : List Value} {ds : List (DataW H)} {ps : List MemPlace}, (∀ t ∈ ts, P.readableRec t = true ∧ t < P.types.size) →
      DataW.TrodAll enc P W 0 (fun _ => true) true ts vs ds ps → (∀ x ∈ ps, x.block < W.heap.size) → DataW.TrodAll enc P W' 0 (fun b => decide (b < W.heap.size)) true ts vs ds ps := by
  intro ts
  induction ts with
  | nil => intro vs ds ps _ h _; cases vs <;> cases ds <;> simp [DataW.TrodAll] at h ⊢; exact h
  | cons t ts ih =>
    intro vs ds ps hr h hlt
    obtain ⟨v, vs', d, ds', p, q, rfl, rfl, rfl, h0, h1⟩ := trodAll_cons h
    refine ⟨p, q, Below.trod hl (hr t (by simp)).1 (hr t (by simp)).2 h0 hb (fun x hx => hlt x (by simp [hx])), ih (fun t' ht' => hr t' (by simp [ht'])) h1 (fun x hx => hlt x (by simp [hx])), rfl⟩

theorem law_post {H : Type} {enc : TypeId × Value → H} {P : Program} (hl : laidOutB P = true) {f : Func} {s : ChangeSpec} {tb : TypeId} (hsv : s.vars = []) (hrt : f.resultTypes = #[tb]) (hub : P.underlying tb = some .bool)
    (hread : ∀ t ∈ f.params.toList, P.readableRec t = true ∧ t < P.types.size) {W W' : World} {args : Array Value} {ds gs : List (DataW H)} {before : List MemPlace}
    (hW : DataW.Whole enc P f.params.toList s.vars false W args.toList ds gs before) (hf : s.fn H (ds ++ gs) = { results := [.lit (.bool true)], args := ds }) (hB : Below W.heap.size W W') :
    s.post enc P f false true false false W args (.bool true) W' := by
  obtain ⟨p, q, hA, hV, hpq, hfz, hnd⟩ := id hW
  rw [hsv] at hV
  obtain ⟨rfl, rfl⟩ := trodVars_none hV
  have hlt := hW.lt
  refine ⟨ds, [], before, [], p, [], hW, ?_, ?_, ?_, hB.frame _, fun h => by cases h⟩
  · rw [hf, hrt]
    exact trodAll_cons_mk (shut_bool hub _) trodAll_mk0
  · rw [hf]
    exact trodAll_below hl hB hread hA (fun x hx => hlt x (by rw [hpq]; simp [hx]))
  · rw [hf, hsv]
    rfl
end Go.Proofs.YthojmgjgmbnopaaGreatDoor
namespace Go.Proofs.YthojmgjgmbnopaaGreatDoor
open Go Go.RowKit Go.ChangeShapes Go.WideShapes Go.ChangeAt Go.Deep Go.ChangeMaps Go.Joins
theorem spot_of {w : World} {a : Addr} {v : Value} (h : w.cell? a = some v) : a.spot = none := by
  unfold World.cell? at h
  split at h
  · split at h
    · cases h
    · rename_i hs; simpa using hs
  · cases h
theorem block_of {w : World} {a : Addr} {v : Value} (h : w.cell? a = some v) : a.block < w.heap.size := World.block_lt_of_cell? w a h
theorem add_of {a : Addr} (h : a.spot = none) (k : Nat) : a.add k = ⟨a.block, a.off + k, none⟩ := by
  obtain ⟨b, off, sp⟩ := a
  simp only at h
  subst h
  unfold Addr.add
  split
  · rename_i hk; subst hk; rfl
  · rfl
/-- How many letters and texts. -/
def bulkS (ws : List (List UInt8)) : Nat := (ws.map fun x => x.length + 1).sum
theorem sum_map_range {α : Type} (n : Nat) (f : Nat → α) (g : α → Nat) : (((List.range n).map f).map g).sum = ((List.range n).map fun i => g (f i)).sum := by rw [List.map_map]; rfl
theorem le_sum_of {ws : List (List UInt8)} {x : List UInt8} (h : x ∈ ws) : x.length + 1 ≤ bulkS ws := by
  unfold bulkS
  induction ws with
  | nil => cases h
  | cons y t ih =>
    simp only [List.map_cons, List.sum_cons]
    rcases List.mem_cons.1 h with rfl | h
    · omega
    · have := ih h; omega
theorem len_le_bulkS (ws : List (List UInt8)) : ws.length ≤ bulkS ws := by
  unfold bulkS
  induction ws with
  | nil => simp
  | cons y t ih => simp only [List.map_cons, List.sum_cons, List.length_cons]; omega
theorem bulkAll_range {H : Type} (n : Nat) (D : Nat → DataW H) : Rows.uptoBulkAll ((List.range n).map D) = ((List.range n).map fun i => Rows.uptoBulk (D i)).sum := by
  generalize List.range n = l
  induction l with
  | nil => simp [Rows.uptoBulkAll]
  | cons x t ih => simp only [List.map_cons, Rows.uptoBulkAll, List.sum_cons, ih]
theorem sum_mono (n : Nat) (f g : Nat → Nat) (h : ∀ i, i < n → f i ≤ g i) : ((List.range n).map f).sum ≤ ((List.range n).map g).sum := by
  induction n with
  | zero => simp
  | succ n ih =>
    rw [List.range_succ, List.map_append, List.map_append, List.sum_append, List.sum_append]
    have h1 := ih (fun i hi => h i (by omega))
    have h2 := h n (by omega)
    simp
    omega
section
variable {H : Type} {enc : TypeId × Value → H} {w : World} {base : Nat} {spare : Nat → Bool} {held : Bool}
set_option maxRecDepth 10000 in
theorem op_str {r : Reach} {b0 : Nat} {v : Value} {d : DataW H} {ps : List MemPlace} (hval : Value.okWide Tryz.prog w r b0 9 v) (hd : DataW.Trod enc Tryz.prog w base spare held 9 v d ps) :
    ∃ s : List UInt8, v = .string ⟨s.toArray⟩ ∧ s.length + 1 = Rows.uptoBulk d := by
  obtain ⟨s, rfl, rfl, _, _⟩ := open_string Tryz.underlying9 hval hd
  exact ⟨s.data.toList, by simp, by simp [Rows.uptoBulk]⟩
theorem cellsStr : Tryz.prog.cellsOf 9 = 1 := by kernel_rfl
theorem cellsStrs : Tryz.prog.cellsOf 39 = 1 := by kernel_rfl
set_option maxRecDepth 10000 in
theorem trod_strs {fuel : Nat} {v : Value} {x : DataW H × List MemPlace} (h : DataW.trod enc Tryz.prog w base spare held fuel 39 [v] = some x) :
    ∃ ws : List (List UInt8), Vw (Old w) w v 1 ws.length (ws.map txt) ∧ bulkS ws + 1 ≤ Rows.uptoBulk x.1 := by
  rcases open_strs Tryz.underlying39 Tryz.underlying9 cellsStr h with ⟨h1, h2⟩ | ⟨a, len, cap, m, Sx, hcs, hb, hl, hm, hmm, hx, hi⟩
  · simp at h1
    exact ⟨[], ⟨⟨none, 0, by simp [h1], Nat.le_refl _, by simp, .inl rfl⟩, rfl⟩, by rw [h2]; simp [bulkS, Rows.uptoBulk]⟩
  · simp at hcs
    have hlm : len ≤ m := by rw [hmm]; split <;> omega
    refine ⟨(List.range len).map fun i => (Sx i).data.toList, ⟨⟨some a, cap, by simp [hcs], by simpa using hl, hm, ?_⟩, by simp⟩, ?_⟩
    · by_cases h0 : len = 0
      · subst h0; exact .inl rfl
      · right
        have hc0 := (hi 0 (by omega)).1
        have hsp : a.spot = none := by
          have := spot_of hc0
          simpa [Addr.add] using this
        refine ⟨a.block, a.off, ?_, ?_, ?_, fun k y hk => ?_⟩
        · obtain ⟨b, off, sp⟩ := a; simp at hsp; subst hsp; rfl
        · have := block_of hc0; rw [add_of hsp] at this; exact this
        · have := block_of hc0; rw [add_of hsp] at this; exact this
        · have hkl : k < len := by have := (List.getElem?_eq_some_iff.1 hk).1; simpa using this
          rw [List.getElem?_map] at hk
          have hck := (hi k (by omega)).1
          rw [add_of hsp] at hck
          rw [List.getElem?_map, List.getElem?_range hkl] at hk
          cases hk
          rw [hck]
          simp [txt]
    · rw [hx]
      simp only [Rows.uptoBulk]
      rw [bulkAll_range]
      unfold bulkS
      rw [sum_map_range]
      have : ((List.range len).map fun i => (Sx i).data.toList.length + 1).sum = ((List.range len).map fun i => Rows.uptoBulk (DataW.lit (H := H) (.string (Sx i).data.toList))).sum := by simp [Rows.uptoBulk]
      omega
end
theorem upto_of {H : Type} {l : List (DataW H)} (h : Rows.uptoSmall H l = true) : Rows.uptoBulkAll l ≤ 1048576 := of_decide_eq_true h
theorem laidR : laidOutB Tryz.prog = true := by kernel_rfl
theorem ownR : ownKnob Tryz.prog.godebug = none := by kernel_rfl
theorem read_str : Tryz.prog.readableRec 9 = true ∧ 9 < Tryz.prog.types.size := ⟨by kernel_rfl, of_decide_eq_true (by kernel_rfl)⟩
theorem read_strs : Tryz.prog.readableRec 39 = true ∧ 39 < Tryz.prog.types.size := ⟨by kernel_rfl, of_decide_eq_true (by kernel_rfl)⟩
theorem read_int : Tryz.prog.readableRec 3 = true ∧ 3 < Tryz.prog.types.size := ⟨by kernel_rfl, of_decide_eq_true (by kernel_rfl)⟩
theorem read_bool : Tryz.prog.readableRec 4 = true ∧ 4 < Tryz.prog.types.size := ⟨by kernel_rfl, of_decide_eq_true (by kernel_rfl)⟩
end Go.Proofs.YthojmgjgmbnopaaGreatDoor
namespace Go.Proofs.YthojmgjgmbnopaaGreatDoor
open Go Go.RowKit Go.ChangeShapes Go.WideShapes Go.ChangeAt
/-! What the listed variables give; a start that has them. -/
abbrev laid5 : List (String × DataW Unit) := [("math/bits.deBruijn32tab", Rows.laid_math_bits_deBruijn32tab), ("math/bits.deBruijn64tab", Rows.laid_math_bits_deBruijn64tab), ("internal/strconv.uint64pow10", Rows.laid_internal_strconv_uint64pow10), ("strconv.ErrRange", Rows.laid_strconv_ErrRange), ("strconv.ErrSyntax", Rows.laid_strconv_ErrSyntax)]
theorem cellsPow : Tryz.prog.cellsOf 313 = 20 := by kernel_rfl
theorem cellsU64 : Tryz.prog.cellsOf 76 = 1 := by kernel_rfl
theorem cellsES : Tryz.prog.cellsOf 321 = 1 := by kernel_rfl
theorem cellsS : Tryz.prog.cellsOf 9 = 1 := by kernel_rfl
theorem gPow : Tryz.prog.globalNamed "internal/strconv.uint64pow10" = some 3 := by kernel_rfl
theorem gEr : Tryz.prog.globalNamed "strconv.ErrRange" = some 2 := by kernel_rfl
theorem gEs : Tryz.prog.globalNamed "strconv.ErrSyntax" = some 1 := by kernel_rfl
theorem tPow : (Tryz.prog.globals[3]?).map (·.type) = some 313 := by kernel_rfl
theorem tEr : (Tryz.prog.globals[2]?).map (·.type) = some 215 := by kernel_rfl
theorem tEs : (Tryz.prog.globals[1]?).map (·.type) = some 215 := by kernel_rfl
/-- The library's two errors, as they lie. -/
structure Two (W : World) : Prop where
  es : ∃ b off T fr, W.heap[1]? = some (.cells #[.iface 319 (.pointer (some ⟨b, off, none⟩))] T fr)
  er : ∃ b off T fr, W.heap[2]? = some (.cells #[.iface 319 (.pointer (some ⟨b, off, none⟩))] T fr)
theorem var_cells {P : Program} {W : World} {n : String} {g : Nat} {cs : Array Value} (hg : P.globalNamed n = some g) (h : W.var? P n = some cs) : ∃ T fr, W.heap[g]? = some (.cells cs T fr) := by
  unfold World.var? at h
  simp only [hg, Option.bind_some] at h
  split at h
  · rename_i c T fr hw
    cases h
    exact ⟨T, fr, hw⟩
  · cases h
theorem laid_two {W : World} (h : laidMetH Tryz.prog laid5 W) : Two W := by
  have h : laidMet Tryz.prog laid5 W := h
  have h3 := h.tail.tail
  have h4 := h3.tail
  have h5 := h4.tail
  have star : "*" ++ "errors.errorString" = "*errors.errorString" := by decide
  have row : ∀ u, Tryz.prog.typeName? 3 u = some "*errors.errorString" → u = 319 := fun u hu => typeName_ptr_named (nm := "errors.errorString") (by rw [star]; kernel_rfl) (by kernel_rfl) (by decide) u (by rw [star]; exact hu)
  obtain ⟨a0, s0, hv0, c0, -, -⟩ := laid_sentinel h4 gEr tEr Tryz.underlying215 row Tryz.underlying319 Tryz.underlying321 rfl rfl Tryz.underlying9 cellsES cellsS
  obtain ⟨a1, s1, hv1, c1, -, -⟩ := laid_sentinel h5 gEs tEs Tryz.underlying215 row Tryz.underlying319 Tryz.underlying321 rfl rfl Tryz.underlying9 cellsES cellsS
  have e0 := spot_of c0
  have e1 := spot_of c1
  obtain ⟨b0, o0, p0⟩ := a0
  obtain ⟨b1, o1, p1⟩ := a1
  simp only at e0 e1
  subst e0
  subst e1
  obtain ⟨T0, f0, g0⟩ := var_cells gEr hv0
  obtain ⟨T1, f1, g1⟩ := var_cells gEs hv1
  exact ⟨⟨b1, o1, T1, f1, g1⟩, ⟨b0, o0, T0, f0, g0⟩⟩
/-- A slice that an argument is. -/
theorem slice_plain {P : Program} {w : World} {r : Reach} {base : Nat} {t e : TypeId} {v : Value} (ht : P.underlying t = some (.slice e)) (h : Value.okWide P w r base t v) : v = .slice none 0 0 ∨ ∃ b off n c, v = .slice (some ⟨b, off, none⟩) n c := by
  obtain ⟨a, n, c, rfl⟩ := okWide_slice ht h
  simp only [Value.okWide, ht, Cell.okWide] at h
  cases a with
  | none =>
    left
    simp only [Cell.ok, ht] at h
    split at h <;> simp_all
  | some a =>
    right
    simp only [Cell.ok, ht] at h
    obtain ⟨-, -, -, h, -⟩ := h
    obtain ⟨b, off, sp⟩ := a
    simp only at h
    subst h
    exact ⟨_, _, _, _, rfl⟩
noncomputable def startW (os : Os) : World := World.doorLaid Tryz.prog 400 os
theorem start_laid (os : Os) (args : Array Value) : laidMet Tryz.prog laid5 ((startW os).forCall (fun _ _ => 0) ⟨#[], args, []⟩).memory :=
  laidMet_of_run' 8 (by kernel_rfl) (by kernel_rfl)
end Go.Proofs.YthojmgjgmbnopaaGreatDoor
namespace Go.Proofs.YthojmgjgmbnopaaGreatDoor
open Go Go.RowKit Go.ChangeShapes Go.WideShapes Go.ChangeAt
/-! What the listed variables give: the tables, and the two errors. -/
theorem laid_tbl {W : World} (h : laidMetH Tryz.prog laid5 W) : Tbl W := by
  have h : laidMet Tryz.prog laid5 W := h
  have h3 := h.tail.tail
  have h4 := h3.tail
  have h5 := h4.tail
  have star : "*" ++ "errors.errorString" = "*errors.errorString" := by decide
  have row : ∀ u, Tryz.prog.typeName? 3 u = some "*errors.errorString" → u = 319 := fun u hu => typeName_ptr_named (nm := "errors.errorString") (by rw [star]; kernel_rfl) (by kernel_rfl) (by decide) u (by rw [star]; exact hu)
  obtain ⟨a0, s0, hv0, -, -, -⟩ := laid_sentinel h4 gEr tEr Tryz.underlying215 row Tryz.underlying319 Tryz.underlying321 rfl rfl Tryz.underlying9 cellsES cellsS
  obtain ⟨a1, s1, hv1, -, -, -⟩ := laid_sentinel h5 gEs tEs Tryz.underlying215 row Tryz.underlying319 Tryz.underlying321 rfl rfl Tryz.underlying9 cellsES cellsS
  exact ⟨Lib.tabIs_of_head gPow tPow Tryz.underlying313 Tryz.underlying76 cellsU64 cellsPow h3, ⟨_, by have h0 := World.var?_cell gEs hv1 0; simpa using h0, .inr ⟨_, _, rfl⟩⟩, ⟨_, by have h0 := World.var?_cell gEr hv0 0; simpa using h0, .inr ⟨_, _, rfl⟩⟩⟩
theorem laid_both {W : World} (h : laidMetH Tryz.prog laid5 W) : Tbl W ∧ Two W := ⟨laid_tbl h, laid_two h⟩
end Go.Proofs.YthojmgjgmbnopaaGreatDoor
