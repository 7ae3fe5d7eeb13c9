import Derived.Test.YthojmgjgmbnopaaGreatDoorJG
import Derived.Test.YthojmgjgmbnopaaGreatDoorLawEnd
import Derived.Test.YthojmgjgmbnopaaGreatDoorRows
import Derived.Deep.Slices
import Derived.Deep.Strs
import Derived.Lib.SmallJoins
import Derived.ChangeMaps5
namespace Go.Proofs.YthojmgjgmbnopaaGreatDoor
open Go Go.RowKit Go.ChangeShapes Go.WideShapes Go.ChangeAt Go.Deep Go.ChangeMaps Go.Joins
/-! Rows of values that come as an argument, opened. -/
theorem flat_one {α β : Type} (f : α → β) : ∀ L : List α, L.flatMap (fun y => [f y]) = L.map f
  | [] => rfl
  | a :: t => by rw [List.flatMap_cons, flat_one f t]; rfl
theorem len_two {α : Type} {l : List α} (h : l.length = 2) : ∃ a b, l = [a, b] := by
  rcases l with _ | ⟨a, _ | ⟨b, _ | ⟨c, l⟩⟩⟩ <;> simp at h ⊢
theorem len_three {α : Type} {l : List α} (h : l.length = 3) : ∃ a b c, l = [a, b, c] := by
  rcases l with _ | ⟨a, _ | ⟨b, _ | ⟨c, _ | ⟨d, l⟩⟩⟩⟩ <;> simp at h ⊢
theorem len_five {α : Type} {l : List α} (h : l.length = 5) : ∃ a b c d e, l = [a, b, c, d, e] := by
  rcases l with _ | ⟨a, _ | ⟨b, _ | ⟨c, _ | ⟨d, _ | ⟨e, _ | ⟨f, l⟩⟩⟩⟩⟩⟩ <;> simp at h ⊢
theorem len_seven {α : Type} {l : List α} (h : l.length = 7) : ∃ a b c d e f g, l = [a, b, c, d, e, f, g] := by
  rcases l with _ | ⟨a, _ | ⟨b, _ | ⟨c, _ | ⟨d, _ | ⟨e, _ | ⟨f, _ | ⟨g, _ | ⟨i, l⟩⟩⟩⟩⟩⟩⟩⟩ <;> simp at h ⊢
theorem ospot {w : World} {a : Addr} {v : Value} (h : w.cell? a = some v) : a.spot = none := by
  unfold World.cell? at h
  split at h
  · split at h
    · cases h
    · rename_i hs; simpa using hs
  · cases h
theorem oadd {a : Addr} (h : a.spot = none) (k : Nat) : a.add k = ⟨a.block, a.off + k, none⟩ := by
  obtain ⟨b, off, sp⟩ := a
  simp only at h
  subst h
  unfold Addr.add
  split
  · rename_i hk; subst hk; rfl
  · rfl
theorem obulk {H : Type} (n : Nat) (D : Nat → DataW H) : Rows.uptoBulkAll ((List.range n).map D) = ((List.range n).map fun i => Rows.uptoBulk (D i)).sum := by
  generalize List.range n = l
  induction l with
  | nil => simp [Rows.uptoBulkAll]
  | cons x t ih => simp only [List.map_cons, Rows.uptoBulkAll, List.sum_cons, ih]
theorem osum (n : Nat) (f g : Nat → Nat) (h : ∀ i, i < n → f i ≤ g i) : ((List.range n).map f).sum ≤ ((List.range n).map g).sum := by
  induction n with
  | zero => simp
  | succ n ih =>
    rw [List.range_succ, List.map_append, List.map_append, List.sum_append, List.sum_append]
    have h1 := ih (fun i hi => h i (by omega))
    have h2 := h n (by omega)
    simp
    omega
theorem flat_get {Y : Type} {N : Nat} (cells : Y → List Value) (hN : ∀ y, (cells y).length = N) : ∀ (L : List Y) (k : Nat) (y : Y) (j : Nat), L[k]? = some y → j < N → (L.flatMap cells)[k * N + j]? = (cells y)[j]?
  | [], k, y, j, h, _ => by simp at h
  | x :: t, 0, y, j, h, hj => by
    simp at h; subst h
    rw [List.flatMap_cons, Nat.zero_mul, Nat.zero_add, List.getElem?_append_left (by rw [hN]; exact hj)]
  | x :: t, k + 1, y, j, h, hj => by
    rw [List.flatMap_cons, List.getElem?_append_right (by rw [hN, Nat.add_mul]; omega), hN, show (k + 1) * N + j - N = k * N + j by rw [Nat.add_mul]; omega]
    exact flat_get cells hN t k y j (by simpa using h) hj
theorem flat_len {Y : Type} {N : Nat} (cells : Y → List Value) (hN : ∀ y, (cells y).length = N) : ∀ L : List Y, (L.flatMap cells).length = L.length * N
  | [] => by simp
  | x :: t => by rw [List.flatMap_cons, List.length_append, hN, flat_len cells hN t, List.length_cons, Nat.add_mul]; omega
section
variable {H : Type} {enc : TypeId × Value → H} {w : World} {base : Nat} {spare : Nat → Bool} {held : Bool}
theorem trod_rows {Y : Type} [Inhabited Y] {t e : TypeId} {N : Nat} (ht : Tryz.prog.underlying t = some (.slice e)) (hc : Tryz.prog.cellsOf e = N) (h0 : 0 < N) (cells : Y → List Value) (hN : ∀ y, (cells y).length = N) (Good : Y → Prop) (bulk : Y → Nat)
    (hone : ∀ (fuel : Nat) (cs : List Value) (x : DataW H × List MemPlace), DataW.trod enc Tryz.prog w base spare held fuel e cs = some x → ∃ y, cs = cells y ∧ Good y ∧ bulk y ≤ Rows.uptoBulk x.1)
    {fuel : Nat} {v : Value} {x : DataW H × List MemPlace} (h : DataW.trod enc Tryz.prog w base spare held fuel t [v] = some x) :
    ∃ L : List Y, Vw (Old w) w v N L.length (L.flatMap cells) ∧ (∀ y ∈ L, Good y) ∧ (L.map bulk).sum + 1 ≤ Rows.uptoBulk x.1 := by
  rcases open_slice ht h with ⟨h1, h2⟩ | ⟨a, len, cap, m, n, D, Pl, hcs, hb, hl, hm, hmm, hx, hi⟩
  · simp at h1
    exact ⟨[], ⟨⟨none, 0, by simp [h1], Nat.le_refl _, by simp, .inl rfl⟩, by simp⟩, by simp, by rw [h2]; simp [Rows.uptoBulk]⟩
  · simp at hcs
    have hml : len ≤ m := by rw [hmm]; split <;> omega
    rw [hc] at hi
    have hgen : ∀ i, i < len → ∃ y : Y, (∀ j, j < N → w.cell? ((a.add (i * N)).add j) = (cells y)[j]?) ∧ Good y ∧ bulk y ≤ Rows.uptoBulk (D i) := by
      intro i hil
      obtain ⟨cs', hcc, htr⟩ := hi i (by omega)
      obtain ⟨y, rfl, hg, hbk⟩ := hone _ _ _ htr
      obtain ⟨_, _, hat⟩ := World.cells?_some hcc
      exact ⟨y, fun j hj => by first | exact hat j hj | (rw [hat j hj]; done) | (have := hat j hj; simpa using this), hg, hbk⟩
    obtain ⟨f, hf⟩ := choose_lt hgen
    have hlen : ((List.range len).map f).length = len := by simp
    refine ⟨(List.range len).map f, ⟨⟨some a, cap, by rw [hlen]; exact hcs, by rw [hlen]; exact hl, hm, ?_⟩, flat_len cells hN _⟩, ?_, ?_⟩
    · by_cases hz : len = 0
      · left; rw [hlen]; exact hz
      · right
        have hc0 := (hf 0 (by omega)).1 0 h0
        have hex : ∃ u, (cells (f 0))[0]? = some u := ⟨_, List.getElem?_eq_getElem (by rw [hN]; exact h0)⟩
        obtain ⟨u, hu⟩ := hex
        rw [hu, Nat.zero_mul] at hc0
        have hsp : a.spot = none := by
          have := ospot hc0
          simpa [Addr.add] using this
        have hbk : a.block < w.heap.size := by
          have := World.block_lt_of_cell? w _ hc0
          rw [oadd hsp, oadd rfl] at this
          exact this
        refine ⟨a.block, a.off, ?_, hbk, hbk, fun k u hk => ?_⟩
        · obtain ⟨b, off, sp⟩ := a; simp at hsp; subst hsp; rfl
        · have hkl := (List.getElem?_eq_some_iff.1 hk).1
          rw [flat_len cells hN, hlen] at hkl
          have hdm : k / N * N + k % N = k := by rw [Nat.mul_comm]; exact Nat.div_add_mod k N
          have hmod : k % N < N := Nat.mod_lt _ h0
          have hq : k / N < len := Nat.div_lt_of_lt_mul (by rw [Nat.mul_comm]; exact hkl)
          have hg := flat_get cells hN ((List.range len).map f) (k / N) (f (k / N)) (k % N) (by rw [List.getElem?_map, List.getElem?_range hq]; rfl) hmod
          rw [hdm, hk] at hg
          have hcell := (hf (k / N) hq).1 (k % N) hmod
          rw [oadd hsp, oadd rfl, ← hg] at hcell
          have e : a.off + k / N * N + k % N = a.off + k := by omega
          simp only [e] at hcell
          exact hcell
    · intro y hy
      obtain ⟨i, hir, rfl⟩ := List.mem_map.1 hy
      exact (hf i (List.mem_range.1 hir)).2.1
    · rw [hx]
      simp only [Rows.uptoBulk]
      rw [obulk, List.map_map]
      have := osum len (fun i => bulk (f i)) (fun i => Rows.uptoBulk (D i)) (fun i hil => (hf i hil).2.2)
      have e : ((List.range len).map (bulk ∘ f)).sum = ((List.range len).map fun i => bulk (f i)).sum := rfl
      omega
theorem o_str {fuel : Nat} {cs : List Value} {x : DataW H × List MemPlace} (h : DataW.trod enc Tryz.prog w base spare held fuel 9 cs = some x) : ∃ s : Tx, cs = [txt s] ∧ s.length + 1 ≤ Rows.uptoBulk x.1 := by
  obtain ⟨s, e0, hx, _⟩ := DataW.trod_string Tryz.underlying9 h
  refine ⟨s.data.toList, by rw [e0]; simp [txt], ?_⟩
  rw [hx]; simp [Rows.uptoBulk]
theorem o_int {fuel : Nat} {cs : List Value} {x : DataW H × List MemPlace} (h : DataW.trod enc Tryz.prog w base spare held fuel 3 cs = some x) : ∃ n : Int, cs = [.int .i64 n] ∧ (Lit.int IntKind.i64 n).wf = true := by
  obtain ⟨n, e0, hx, hw⟩ := DataW.trod_int Tryz.underlying3 h
  exact ⟨n, e0, hw⟩
theorem oc_str : Tryz.prog.cellsOf 9 = 1 := by kernel_rfl
theorem oc_int : Tryz.prog.cellsOf 3 = 1 := by kernel_rfl
theorem oc_fld : Tryz.prog.cellsOf 129 = 2 := by kernel_rfl
theorem oc_scr : Tryz.prog.cellsOf 131 = 2 := by kernel_rfl
theorem oc_strs : Tryz.prog.cellsOf 39 = 1 := by kernel_rfl
theorem oc_flds : Tryz.prog.cellsOf 40 = 1 := by kernel_rfl
theorem oc_scrs : Tryz.prog.cellsOf 41 = 1 := by kernel_rfl
theorem oc_val : Tryz.prog.cellsOf 43 = 5 := by kernel_rfl
theorem o_fld {fuel : Nat} {cs : List Value} {x : DataW H × List MemPlace} (h : DataW.trod enc Tryz.prog w base spare held fuel 129 cs = some x) : ∃ y : Fld, cs = [txt y.1, txt y.2] ∧ y.1.length + y.2.length + 1 ≤ Rows.uptoBulk x.1 := by
  obtain ⟨xs, n, _, hx, hcl, hl, hf⟩ := DataW.trod_struct Tryz.underlying129 h
  rw [oc_fld] at hcl
  obtain ⟨v0, v1, rfl⟩ := len_two hcl
  obtain ⟨y0, y1, rfl⟩ := len_two (show xs.length = 2 from hl)
  have h0 := hf 0 _ rfl
  have h1 := hf 1 _ rfl
  change DataW.trod enc Tryz.prog w base spare held n 9 (([v0, v1].drop 0).take (Tryz.prog.cellsOf 9)) = some y0 at h0
  change DataW.trod enc Tryz.prog w base spare held n 9 (([v0, v1].drop 1).take (Tryz.prog.cellsOf 9)) = some y1 at h1
  rw [oc_str] at h0 h1
  obtain ⟨s, e0, b0⟩ := o_str h0
  obtain ⟨t, e1, b1⟩ := o_str h1
  simp at e0 e1
  refine ⟨(s, t), by rw [e0, e1], ?_⟩
  rw [hx]; simp [Rows.uptoBulk, Rows.uptoBulkAll]; omega
theorem o_scr {fuel : Nat} {cs : List Value} {x : DataW H × List MemPlace} (h : DataW.trod enc Tryz.prog w base spare held fuel 131 cs = some x) : ∃ y : Scr, cs = [txt y.1, .int .i64 y.2] ∧ y.1.length + 1 ≤ Rows.uptoBulk x.1 := by
  obtain ⟨xs, n, _, hx, hcl, hl, hf⟩ := DataW.trod_struct Tryz.underlying131 h
  rw [oc_scr] at hcl
  obtain ⟨v0, v1, rfl⟩ := len_two hcl
  obtain ⟨y0, y1, rfl⟩ := len_two (show xs.length = 2 from hl)
  have h0 := hf 0 _ rfl
  have h1 := hf 1 _ rfl
  change DataW.trod enc Tryz.prog w base spare held n 9 (([v0, v1].drop 0).take (Tryz.prog.cellsOf 9)) = some y0 at h0
  change DataW.trod enc Tryz.prog w base spare held n 3 (([v0, v1].drop 1).take (Tryz.prog.cellsOf 3)) = some y1 at h1
  rw [oc_str] at h0
  rw [oc_int] at h1
  obtain ⟨s, e0, b0⟩ := o_str h0
  obtain ⟨k, e1, _⟩ := o_int h1
  simp at e0 e1
  refine ⟨(s, k), by rw [e0, e1], ?_⟩
  rw [hx]; simp [Rows.uptoBulk, Rows.uptoBulkAll]; omega
/-- How many letters and elements a value has. -/
def bulkV (V : VV) : Nat := V.text.length + (V.list.map fun s => s.length + 1).sum + (V.fields.map fun y => y.1.length + y.2.length + 1).sum + (V.ranked.map fun y => y.1.length + 1).sum
theorem sum_ge {α : Type} (f : α → Nat) (hf : ∀ a, 1 ≤ f a) : ∀ l : List α, l.length ≤ (l.map f).sum
  | [] => by simp
  | x :: t => by have := sum_ge f hf t; have := hf x; simp only [List.map_cons, List.sum_cons, List.length_cons]; omega
theorem small_of {V : VV} (h : bulkV V ≤ 1099511627776) : VSmall V := by
  unfold bulkV at h
  have h1 := sum_ge (fun s : List UInt8 => s.length + 1) (fun _ => by omega) V.list
  have h2 := sum_ge (fun y : List UInt8 × List UInt8 => y.1.length + y.2.length + 1) (fun _ => by omega) V.fields
  have h3 := sum_ge (fun y : List UInt8 × Int => y.1.length + 1) (fun _ => by omega) V.ranked
  exact ⟨by omega, by omega, by omega, by omega⟩
/-- A value's five cells. -/
theorem o_val {fuel : Nat} {cs : List Value} {x : DataW H × List MemPlace} (h : DataW.trod enc Tryz.prog w base spare held fuel 43 cs = some x) :
    ∃ (V : VV) (l f r : Value), cs = [.int .i64 V.kind, .string ⟨V.text.toArray⟩, l, f, r] ∧ Val3 (Old w) w V l f r ∧ bulkV V ≤ Rows.uptoBulk x.1 := by
  obtain ⟨xs, n, _, hx, hcl, hl, hf⟩ := DataW.trod_struct Tryz.underlying43 h
  rw [oc_val] at hcl
  obtain ⟨v0, v1, v2, v3, v4, rfl⟩ := len_five hcl
  obtain ⟨y0, y1, y2, y3, y4, rfl⟩ := len_five (show xs.length = 5 from hl)
  have h0 := hf 0 _ rfl
  have h1 := hf 1 _ rfl
  have h2 := hf 2 _ rfl
  have h3 := hf 3 _ rfl
  have h4 := hf 4 _ rfl
  change DataW.trod enc Tryz.prog w base spare held n 3 (([v0, v1, v2, v3, v4].drop 0).take (Tryz.prog.cellsOf 3)) = some y0 at h0
  change DataW.trod enc Tryz.prog w base spare held n 9 (([v0, v1, v2, v3, v4].drop 1).take (Tryz.prog.cellsOf 9)) = some y1 at h1
  change DataW.trod enc Tryz.prog w base spare held n 39 (([v0, v1, v2, v3, v4].drop 2).take (Tryz.prog.cellsOf 39)) = some y2 at h2
  change DataW.trod enc Tryz.prog w base spare held n 40 (([v0, v1, v2, v3, v4].drop 3).take (Tryz.prog.cellsOf 40)) = some y3 at h3
  change DataW.trod enc Tryz.prog w base spare held n 41 (([v0, v1, v2, v3, v4].drop 4).take (Tryz.prog.cellsOf 41)) = some y4 at h4
  rw [oc_int] at h0
  rw [oc_str] at h1
  rw [oc_strs] at h2
  rw [oc_flds] at h3
  rw [oc_scrs] at h4
  obtain ⟨k, e0, _⟩ := o_int h0
  obtain ⟨s, e1, b1⟩ := o_str h1
  simp at e0 e1 h2 h3 h4
  obtain ⟨L, hL, _, bL⟩ := trod_rows (Y := List UInt8) Tryz.underlying39 oc_str (by decide) (fun y => [txt y]) (fun _ => rfl) (fun _ => True) (fun y => y.length + 1) (fun fu c z hz => by obtain ⟨y, hy, hb⟩ := o_str hz; exact ⟨y, hy, trivial, hb⟩) h2
  obtain ⟨F, hF, _, bF⟩ := trod_rows (Y := List UInt8 × List UInt8) Tryz.underlying40 oc_fld (by decide) (fun y => [txt y.1, txt y.2]) (fun _ => rfl) (fun _ => True) (fun y => y.1.length + y.2.length + 1) (fun fu c z hz => by obtain ⟨y, hy, hb⟩ := o_fld hz; exact ⟨y, hy, trivial, hb⟩) h3
  obtain ⟨R, hR, _, bR⟩ := trod_rows (Y := List UInt8 × Int) Tryz.underlying41 oc_scr (by decide) (fun y => [txt y.1, .int .i64 y.2]) (fun _ => rfl) (fun _ => True) (fun y => y.1.length + 1) (fun fu c z hz => by obtain ⟨y, hy, hb⟩ := o_scr hz; exact ⟨y, hy, trivial, hb⟩) h4
  refine ⟨⟨k, s, L, F, R⟩, v2, v3, v4, by rw [e0, e1]; rfl, ⟨?_, hF, hR⟩, ?_⟩
  · have e : L.flatMap (fun y => [txt y]) = L.map txt := flat_one txt L
    rw [e] at hL
    exact hL
  · rw [hx]; simp only [Rows.uptoBulk, Rows.uptoBulkAll, List.map_cons, List.map_nil, bulkV]; omega
end
end Go.Proofs.YthojmgjgmbnopaaGreatDoor
namespace Go.Proofs.YthojmgjgmbnopaaGreatDoor
open Go Go.RowKit Go.ChangeShapes Go.WideShapes Go.ChangeAt Go.Deep Go.ChangeMaps Go.Joins
/-! A row of starts that comes as an argument, opened. -/
theorem read_starts : Tryz.prog.readableRec 22 = true ∧ 22 < Tryz.prog.types.size := ⟨by kernel_rfl, of_decide_eq_true (by kernel_rfl)⟩
theorem oc_start : Tryz.prog.cellsOf 45 = 7 := by kernel_rfl
instance : Inhabited ST := ⟨⟨[], ⟨0, [], [], [], []⟩, 0, .slice none 0 0, .slice none 0 0, .slice none 0 0⟩⟩
def bulkSt (s : ST) : Nat := s.key.length + 1 + bulkV s.v
section
variable {H : Type} {enc : TypeId × Value → H} {w : World} {base : Nat} {spare : Nat → Bool} {held : Bool}
theorem o_start {fuel : Nat} {cs : List Value} {x : DataW H × List MemPlace} (h : DataW.trod enc Tryz.prog w base spare held fuel 45 cs = some x) :
    ∃ s : ST, cs = s.cells ∧ Val3 (Old w) w s.v s.l s.f s.r ∧ bulkSt s ≤ Rows.uptoBulk x.1 := by
  obtain ⟨xs, n, _, hx, hcl, hl, hf⟩ := DataW.trod_struct Tryz.underlying45 h
  rw [oc_start] at hcl
  obtain ⟨v0, v1, v2, v3, v4, v5, v6, rfl⟩ := len_seven hcl
  obtain ⟨y0, y1, y2, rfl⟩ := len_three (show xs.length = 3 from hl)
  have h0 := hf 0 _ rfl
  have h1 := hf 1 _ rfl
  have h2 := hf 2 _ rfl
  change DataW.trod enc Tryz.prog w base spare held n 9 (([v0, v1, v2, v3, v4, v5, v6].drop 0).take (Tryz.prog.cellsOf 9)) = some y0 at h0
  change DataW.trod enc Tryz.prog w base spare held n 43 (([v0, v1, v2, v3, v4, v5, v6].drop 1).take (Tryz.prog.cellsOf 43)) = some y1 at h1
  change DataW.trod enc Tryz.prog w base spare held n 3 (([v0, v1, v2, v3, v4, v5, v6].drop 6).take (Tryz.prog.cellsOf 3)) = some y2 at h2
  rw [oc_str] at h0
  rw [oc_val] at h1
  rw [oc_int] at h2
  obtain ⟨k, e0, b0⟩ := o_str h0
  obtain ⟨V, l, f, r, e1, hv, b1⟩ := o_val h1
  obtain ⟨d, e2, _⟩ := o_int h2
  simp at e0 e1 e2
  obtain ⟨r1, r2, r3, r4, r5⟩ := e1
  refine ⟨⟨k, V, d, l, f, r⟩, ?_, hv, ?_⟩
  · rw [e0, r1, r2, r3, r4, r5, e2]; rfl
  · rw [hx]; simp only [Rows.uptoBulk, Rows.uptoBulkAll, List.map_cons, List.map_nil, bulkSt]; omega
theorem mem_le_sum {α : Type} (f : α → Nat) : ∀ {l : List α} {x : α}, x ∈ l → f x ≤ (l.map f).sum
  | y :: t, x, h => by
    simp only [List.map_cons, List.sum_cons]
    rcases List.mem_cons.1 h with rfl | h
    · omega
    · have := mem_le_sum f h; omega
theorem trod_starts {fuel : Nat} {v : Value} {x : DataW H × List MemPlace} (h : DataW.trod enc Tryz.prog w base spare held fuel 22 [v] = some x) (hx : Rows.uptoBulk x.1 ≤ 1048577) :
    ∃ L : List ST, Vw (Old w) w v 7 L.length (stC L) ∧ StsOk (Old w) w L ∧ L.length ≤ 1048577 := by
  obtain ⟨L, hv, hg, hb⟩ := trod_rows (Y := ST) Tryz.underlying22 oc_start (by decide) ST.cells (fun _ => rfl) (fun s => Val3 (Old w) w s.v s.l s.f s.r) bulkSt (fun fu c z hz => o_start hz) h
  refine ⟨L, hv, fun s hs => ⟨hg s hs, small_of ?_⟩, ?_⟩
  · have := mem_le_sum bulkSt hs
    have e : bulkSt s = s.key.length + 1 + bulkV s.v := rfl
    omega
  · have := sum_ge bulkSt (fun s => by unfold bulkSt; omega) L
    omega
end
end Go.Proofs.YthojmgjgmbnopaaGreatDoor
