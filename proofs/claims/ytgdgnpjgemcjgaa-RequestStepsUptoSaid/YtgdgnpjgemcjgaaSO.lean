import Derived.Test.YtgdgnpjgemcjgaaZO
namespace Go.Proofs.Ytgdgnpjgemcjgaa
open Go Go.RowKit Go.ChangeShapes Go.WideShapes Go.ChangeAt Go.Deep Go.ChangeMaps Go.Joins
/-! The rows of steps: opened. -/
structure StepM where
  piece : List UInt8
  next : Int
instance : Inhabited StepM := ⟨⟨[], 0⟩⟩
def stepCells (o : StepM) : List Value := [.string ⟨o.piece.toArray⟩, .int .i64 o.next]
def stepD {H : Type} (o : StepM) : DataW H := .agg [.lit (.string o.piece), .lit (.int .i64 o.next)]
def StepsIn (w : World) (v : Value) (ss : List StepM) : Prop :=
  ∃ a cap, v = .slice a ss.length cap ∧ ss.length ≤ cap ∧ cap ≤ maxLen ∧ (ss = [] ∨ ∃ b off, a = some ⟨b, off, none⟩ ∧ b < w.heap.size ∧ ∀ (k : Nat) x, ss[k]? = some x → w.cell? ⟨b, off + k * 2, none⟩ = some (.string ⟨x.piece.toArray⟩) ∧ w.cell? ⟨b, off + k * 2 + 1, none⟩ = some (.int .i64 x.next))
def bulkSt (ss : List StepM) : Nat := (ss.map fun x => x.piece.length + 1).sum
theorem cellsStep : Try.prog.cellsOf 49 = 2 := by kernel_rfl
section
variable {H : Type} {enc : TypeId × Value → H} {w : World} {base : Nat} {spare : Nat → Bool} {held : Bool}
theorem open_step {fuel : Nat} {cs : List Value} {x : DataW H × List MemPlace} (h : DataW.trod enc Try.prog w base spare held fuel 49 cs = some x) : ∃ o : StepM, cs = stepCells o ∧ x.1 = stepD o := by
  obtain ⟨xs, n, _, hx, hcl, hl, hf⟩ := DataW.trod_struct Try.underlying49 h
  rw [cellsStep] at hcl
  match cs, hcl with
  | [v0, v1], _ =>
    match xs, hl with
    | [y0, y1], _ =>
      have h0 := hf 0 _ rfl
      have h1 := hf 1 _ rfl
      change DataW.trod enc Try.prog w base spare held n 9 (([v0, v1].drop 0).take (Try.prog.cellsOf 9)) = some y0 at h0
      change DataW.trod enc Try.prog w base spare held n 3 (([v0, v1].drop 1).take (Try.prog.cellsOf 3)) = some y1 at h1
      rw [cellsStr] at h0
      rw [cellsInt] at h1
      obtain ⟨s, e0, rfl, _⟩ := DataW.trod_string Try.underlying9 h0
      obtain ⟨a1, e1, rfl, _⟩ := DataW.trod_int Try.underlying3 h1
      simp at e0 e1
      refine ⟨⟨s.data.toList, a1⟩, ?_, ?_⟩
      · simp [stepCells, e0, e1]
      · rw [hx]; simp [stepD]
theorem trod_steps {fuel : Nat} {v : Value} {x : DataW H × List MemPlace} (h : DataW.trod enc Try.prog w base spare held fuel 40 [v] = some x) (_ : Rows.uptoBulk x.1 ≤ 1048576) :
    ∃ ss : List StepM, StepsIn w v ss ∧ bulkSt ss + 1 ≤ Rows.uptoBulk x.1 := by
  rcases open_slice Try.underlying40 h with ⟨h1, h2⟩ | ⟨a, len, cap, m, n, D, Pl, hcs, hb, hl, hm, hmm, hx, hi⟩
  · simp at h1
    exact ⟨[], ⟨none, 0, by simp [h1], Nat.le_refl _, by simp, .inl rfl⟩, by rw [h2]; simp [bulkSt, Rows.uptoBulk]⟩
  · simp at hcs
    have hml : len ≤ m := by rw [hmm]; split <;> omega
    have hgen : ∀ i, i < len → ∃ o : StepM, D i = stepD o ∧ w.cell? ((a.add (i * 2)).add 0) = some (.string ⟨o.piece.toArray⟩) ∧ w.cell? ((a.add (i * 2)).add 1) = some (.int .i64 o.next) := by
      intro i hil
      obtain ⟨cs', hc, ht⟩ := hi i (by omega)
      rw [cellsStep] at hc
      obtain ⟨o, rfl, hd⟩ := open_step ht
      obtain ⟨_, _, hat⟩ := World.cells?_some hc
      exact ⟨o, hd, hat 0 (by omega), hat 1 (by omega)⟩
    have hop : ∀ i, i < len → ∃ o : StepM, D i = stepD o ∧ ∃ b off, a = ⟨b, off, none⟩ ∧ b < w.heap.size ∧ w.cell? ⟨b, off + i * 2, none⟩ = some (.string ⟨o.piece.toArray⟩) ∧ w.cell? ⟨b, off + i * 2 + 1, none⟩ = some (.int .i64 o.next) := by
      intro i hil
      obtain ⟨o, hd, e0, e1⟩ := hgen i hil
      obtain ⟨_, _, h00, _⟩ := hgen 0 (by omega)
      have hsp : a.spot = none := by
        have := spot_of h00
        simpa [Addr.add] using this
      have hbk : a.block < w.heap.size := by
        have := block_of h00
        obtain ⟨b, off, sp⟩ := a
        simp only at hsp; subst hsp
        simpa [Addr.add] using this
      refine ⟨o, hd, a.block, a.off, by obtain ⟨b, off, sp⟩ := a; simp_all, hbk, ?_, ?_⟩
      · have e : (a.add (i * 2)).add 0 = ⟨a.block, a.off + i * 2, none⟩ := by
          obtain ⟨b, off, sp⟩ := a
          simp only at hsp; subst hsp
          unfold Addr.add
          split <;> simp_all
        rw [← e]; exact e0
      · have e : (a.add (i * 2)).add 1 = ⟨a.block, a.off + i * 2 + 1, none⟩ := by
          obtain ⟨b, off, sp⟩ := a
          simp only at hsp; subst hsp
          unfold Addr.add
          split <;> split <;> simp_all
        rw [← e]; exact e1
    obtain ⟨f, hf⟩ := choose_lt hop
    refine ⟨(List.range len).map f, ⟨some a, cap, by simp [hcs], by simpa using hl, hm, ?_⟩, ?_⟩
    · by_cases h0 : len = 0
      · subst h0; exact .inl rfl
      · right
        obtain ⟨_, b, off, hab, hbs, _⟩ := hf 0 (by omega)
        refine ⟨b, off, by rw [hab], hbs, fun k x hk => ?_⟩
        have hkl : k < len := by have := (List.getElem?_eq_some_iff.1 hk).1; simpa using this
        obtain ⟨_, b', off', hab', _, hc0, hc1⟩ := hf k hkl
        rw [hab] at hab'
        cases hab'
        rw [List.getElem?_map, List.getElem?_range hkl] at hk
        cases hk
        exact ⟨hc0, hc1⟩
    · rw [hx]
      simp only [Rows.uptoBulk]
      rw [bulkAll_range]
      unfold bulkSt
      rw [sum_map_range]
      have := sum_mono len (fun i => (f i).piece.length + 1) (fun i => Rows.uptoBulk (D i)) (fun i hi' => by rw [(hf i hi').1]; simp [stepD, Rows.uptoBulk, Rows.uptoBulkAll])
      omega
end
theorem read_steps : Try.prog.readableRec 40 = true ∧ 40 < Try.prog.types.size := ⟨by kernel_rfl, of_decide_eq_true (by kernel_rfl)⟩
end Go.Proofs.Ytgdgnpjgemcjgaa
