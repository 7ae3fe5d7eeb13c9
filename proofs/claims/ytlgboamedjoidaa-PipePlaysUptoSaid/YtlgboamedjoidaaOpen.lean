/- The argument script: its calls, as cells and as data; what the bound says of them. -/
import Derived.Test.YtlgboamedjoidaaDone2
import Derived.Test.YtlgboamedjoidaaRows
import Derived.Test.YtlgboamedjoidaaLawEnd
import Derived.Deep.Slices
import Derived.Deep.Fields
namespace Go.Proofs.Ytlgboamedjoidaa
open Go Go.RowKit Go.ChangeShapes Go.WideShapes Go.ChangeAt Go.Deep

def opD {H : Type} (o : OpM) : DataW H := .agg [.lit (.int .i64 o.kind), .lit (.int .i64 o.conn), .lit (.int .i64 o.n), .lit (.string o.data)]
def inW (n : Int) : Prop := -9223372036854775808 ≤ n ∧ n ≤ 9223372036854775807
def opCells (o : OpM) : List Value := [.int .i64 o.kind, .int .i64 o.conn, .int .i64 o.n, .string ⟨o.data.toArray⟩]
def OpOk (o : OpM) : Prop := inW o.kind ∧ inW o.conn ∧ inW o.n
instance : Inhabited OpM := ⟨⟨0, 0, 0, []⟩⟩

theorem wf_inW {n : Int} (h : (Lit.int .i64 n).wf = true) : inW n := by
  simp [Lit.wf, IntKind.min, IntKind.max] at h
  unfold inW
  have h1 := h.1
  have h2 := h.2
  simp [IntKind.signed, IntKind.bits] at h1 h2
  omega

theorem cells39 : Try.prog.cellsOf 39 = 4 := by kernel_rfl

section
variable {H : Type} {enc : TypeId × Value → H} {w : World} {base : Nat} {spare : Nat → Bool} {held : Bool}
theorem open_op {fuel : Nat} {cs : List Value} {x : DataW H × List MemPlace} (h : DataW.trod enc Try.prog w base spare held fuel 39 cs = some x) : ∃ o : OpM, cs = opCells o ∧ x.1 = opD o ∧ OpOk o := by
  obtain ⟨xs, n, _, hx, hcl, hl, hf⟩ := DataW.trod_struct Try.underlying39 h
  rw [cells39] at hcl
  match cs, hcl with
  | [v0, v1, v2, v3], _ =>
    match xs, hl with
    | [y0, y1, y2, y3], _ =>
      have c3 : Try.prog.cellsOf 3 = 1 := by kernel_rfl
      have c9 : Try.prog.cellsOf 9 = 1 := by kernel_rfl
      have h0 := hf 0 _ rfl
      have h1 := hf 1 _ rfl
      have h2 := hf 2 _ rfl
      have h3 := hf 3 _ rfl
      change DataW.trod enc Try.prog w base spare held n 3 (([v0, v1, v2, v3].drop 0).take (Try.prog.cellsOf 3)) = some y0 at h0
      change DataW.trod enc Try.prog w base spare held n 3 (([v0, v1, v2, v3].drop 1).take (Try.prog.cellsOf 3)) = some y1 at h1
      change DataW.trod enc Try.prog w base spare held n 3 (([v0, v1, v2, v3].drop 2).take (Try.prog.cellsOf 3)) = some y2 at h2
      change DataW.trod enc Try.prog w base spare held n 9 (([v0, v1, v2, v3].drop 3).take (Try.prog.cellsOf 9)) = some y3 at h3
      rw [c3] at h0 h1 h2
      rw [c9] at h3
      obtain ⟨a0, e0, rfl, w0⟩ := DataW.trod_int Try.underlying3 h0
      obtain ⟨a1, e1, rfl, w1⟩ := DataW.trod_int Try.underlying3 h1
      obtain ⟨a2, e2, rfl, w2⟩ := DataW.trod_int Try.underlying3 h2
      obtain ⟨s, e3, rfl, w3⟩ := DataW.trod_string Try.underlying9 h3
      simp at e0 e1 e2 e3
      refine ⟨⟨a0, a1, a2, s.data.toList⟩, ?_, ?_, wf_inW w0, wf_inW w1, wf_inW w2⟩
      · simp [opCells, e0, e1, e2, e3]
      · rw [hx]; simp [opD]

/-- The slice of calls: opened. -/
theorem open_ops {fuel : Nat} {v : Value} {x : DataW H × List MemPlace} (h : DataW.trod enc Try.prog w base spare held fuel 31 [v] = some x) :
    ∃ (a : Option Addr) (cap : Nat) (ops : List OpM) (sp : List (DataW H)), v = .slice a ops.length cap ∧ ops.length ≤ maxLen ∧ (x.1 = .nil ∧ ops = [] ∨ x.1 = .slice (ops.map opD) sp) ∧
      (∀ i o, ops[i]? = some o → OpOk o ∧ ∃ b off, a = some ⟨b, off, none⟩ ∧ ∀ j u, (opCells o)[j]? = some u → w.cell? ⟨b, off + i * 4 + j, none⟩ = some u) := by
  rcases open_slice Try.underlying31 h with ⟨h1, h2⟩ | ⟨a, len, cap, m, n, D, Pl, hcs, hb, hl, hm, hmm, hx, hi⟩
  · simp at h1
    refine ⟨none, 0, [], [], by simp [h1], by simp, .inl ⟨by rw [h2], rfl⟩, fun i o ho => by simp at ho⟩
  · simp at hcs
    have hml : len ≤ m := by rw [hmm]; split <;> omega
    have hop : ∀ i, i < len → ∃ o : OpM, D i = opD o ∧ OpOk o ∧ ∃ b off, a = ⟨b, off, none⟩ ∧ ∀ j u, (opCells o)[j]? = some u → w.cell? ⟨b, off + i * 4 + j, none⟩ = some u := by
      intro i hil
      obtain ⟨cs', hc, ht⟩ := hi i (by omega)
      rw [cells39] at hc
      obtain ⟨o, rfl, hd, hok⟩ := open_op ht
      obtain ⟨_, _, hat⟩ := World.cells?_some hc
      have hsp : a.spot = none := by
        have h0 := hat 0 (by omega)
        obtain ⟨b, off, sp⟩ := a
        simp only [Addr.add, if_true] at h0
        by_cases hi0 : i = 0
        · subst hi0
          simp [opCells] at h0
          cases sp with
          | none => rfl
          | some s =>
            simp only [World.cell?] at h0
            split at h0 <;> simp at h0
        · obtain ⟨cs0, hc0, ht0⟩ := hi 0 (by omega)
          rw [cells39] at hc0
          obtain ⟨o0, rfl, _, _⟩ := open_op ht0
          obtain ⟨_, _, hat0⟩ := World.cells?_some hc0
          have h00 := hat0 0 (by omega)
          simp [Addr.add, opCells] at h00
          cases sp with
          | none => rfl
          | some s =>
            simp only [World.cell?] at h00
            split at h00 <;> simp at h00
      refine ⟨o, hd, hok, a.block, a.off, by obtain ⟨b, off, sp⟩ := a; simp_all, fun j u hu => ?_⟩
      have hj : j < 4 := by have := (List.getElem?_eq_some_iff.1 hu).1; simpa [opCells] using this
      have := hat j hj
      rw [hu] at this
      have e : (a.add (i * 4)).add j = ⟨a.block, a.off + i * 4 + j, none⟩ := by
        obtain ⟨b, off, sp⟩ := a
        simp only at hsp; subst hsp
        unfold Addr.add
        split <;> split <;> simp_all
      rw [← e]; exact this
    obtain ⟨f, hf⟩ := choose_lt hop
    refine ⟨some a, cap, (List.range len).map f, ((List.range (m - len)).map fun j => D (len + j)), by simp [hcs], by simp; omega, .inr ?_, fun i o ho => ?_⟩
    · rw [hx]
      simp only [List.map_map]
      congr 1
      apply List.map_congr_left
      intro i hir
      exact (hf i (List.mem_range.1 hir)).1
    · rw [List.getElem?_map] at ho
      have hil : i < len := by
        rcases Nat.lt_or_ge i len with h | h
        · exact h
        · rw [List.getElem?_eq_none (by simp; exact h)] at ho; cases ho
      rw [List.getElem?_range hil] at ho
      simp only [Option.map_some, Option.some.injEq] at ho
      subst ho
      obtain ⟨_, hok, b, off, ha, hc⟩ := hf i hil
      exact ⟨hok, b, off, by rw [ha], hc⟩
end

/-- How many letters the calls hold. -/
def letters (ops : List OpM) : Nat := (ops.map fun o => o.data.length).sum
theorem bulk_ops {H : Type} (ops : List OpM) : letters ops ≤ Rows.uptoBulkAll (ops.map (opD (H := H))) := by
  induction ops with
  | nil => simp [letters]
  | cons o ops ih =>
    simp only [letters, List.map_cons, List.sum_cons, Rows.uptoBulkAll, opD, Rows.uptoBulk] at ih ⊢
    omega
theorem small_letters {H : Type} {ops : List OpM} {sp : List (DataW H)} {d d0 : DataW H} (hd : d = .nil ∧ ops = [] ∨ d = .slice (ops.map opD) sp) (hs : Rows.uptoSmall H [d0, d] = true) : letters ops ≤ 1048576 := by
  have hk := of_decide_eq_true hs
  simp only [Rows.uptoBulkAll] at hk
  rcases hd with ⟨_, rfl⟩ | rfl
  · simp [letters]
  · simp only [Rows.uptoBulk] at hk
    have := bulk_ops (H := H) ops
    omega
end Go.Proofs.Ytlgboamedjoidaa
