/- The evaluator: rows whose type is known; bytes that become a text; a start with arguments. -/
import Derived.Test.YtcgecgilkapjaaaGreatDoorEs
import Derived.Lib.Builder
import Derived.Lib.UnsafeStr
namespace Go.Proofs.YtcgecgilkapjaaaGreatDoor
open Go Go.RowKit
variable {S : Rho}

/-- In a row of rows of a type, n of them lie side by side. -/
theorem liesAt_self {p : Program} {e : TypeId} {s : Nat} (hc : p.cellsOf e = s) (hs : s ≠ 0) (count off n : Nat) (hr : off % s = 0) (hn : off / s + n ≤ count) : liesAt p p.depth e count off e n = true := by
  have hd : p.depth = (2 * (p.types.size + Made.depth) + 1) + 1 := rfl
  rw [hd]
  simp only [liesAt, Bool.or_eq_true]
  left
  rw [hd]
  simp [rowAt, hc, hs, hr, hn, sameLayout]

section
variable {p : Program} (w : World)
set_option maxRecDepth 20000 in
/-- A text over bytes in a row. -/
theorem run_unsafeString_at (pt it ty e : TypeId) (hp : p.underlying pt = some (.pointer e)) (hc : p.cellsOf e = 1) (g off cells : Nat) (hsh : w.shape? g = some (e, cells)) (l : List UInt8) (h0 : l ≠ []) (hn : off + l.length ≤ cells) (h63 : l.length ≤ 9223372036854775807)
    (hcell : ∀ j x, l[j]? = some x → w.cell? ((⟨g, off, none⟩ : Addr).add j) = some (.int .u8 x.toNat)) :
    (Builtin.unsafeString_ #[pt, it] ty #[.pointer (some ⟨g, off, none⟩), .int .i64 l.length]).run p w = .ok (.string ⟨l.toArray⟩) (w.freeze ⟨g, off, none⟩ l.length) := by
  have hl : l.length ≠ 0 := by simpa using h0
  have hlb := Lib.run_loadBytes (P := p) w l ⟨g, off, none⟩ .empty hcell
  have hlies := liesAt_self (p := p) hc (by decide) (cells / p.cellsOf e) off l.length (by omega) (by rw [hc]; simpa using hn)
  have h63' : ¬ (9223372036854775807 : Int) < (l.length : Int) := by omega
  obtain ⟨msg, hdef⟩ : ∃ msg, Builtin.unsafeString_ #[pt, it] ty #[.pointer (some ⟨g, off, none⟩), .int .i64 l.length] =
      (do
        let n ← asInt (.int .i64 l.length)
        if n < 0 then runtimePanic (.error msg)
        if n > IntKind.i64.max then unsupported (.unsafePointer "String: a length above the largest int")
        if n = 0 then pure (.string .empty)
        else if ← variablesAt ⟨g, off, none⟩ (← elemOf pt) n.toNat then do
          let s ← loadBytes ⟨g, off, none⟩ .empty n.toNat
          freeze ⟨g, off, none⟩ n.toNat
          pure (.string s)
        else unsupported (.unsafePointer "String: not so many bytes at ptr")) := ⟨_, rfl⟩
  rw [hdef]
  have hmax : IntKind.i64.max = 9223372036854775807 := rfl
  have hneg : ¬ (l.length : Int) < 0 := by omega
  simp [asInt, asIntOf, hmax, h63', hneg, hl, variablesAt, hsh, elemOf, Go.run_underlying hp, hlies, hlb]
end

section
variable {G : Nat} {W : World} {ρ : Rho} {st : St} {w w' : World}

/-- A row of cells: what the world has there. -/
theorem Sim.row (h : Sim S G W ρ st w) {k u : Nat} {c : Tr Value} {e : Spot} (ha : st.heap.get k = some (.cells false u c)) (he : ρ k = some e) :
    ∃ (cs : Array Value) (T : TypeId) (fr : Nat × Nat), w.heap[e.b]? = some (.cells cs T fr) ∧ u / 65536 = T ∧ (u % 65536 = 65535 → e.sh = 0) ∧ (∀ i, i < cs.size → ¬ (fr.1 ≤ i ∧ i < fr.2)) ∧ (∀ i v, c.get i = some v → ∃ v', cs[i + e.sh]? = some v' ∧ VR ρ v v') ∧
      ObjR ρ e (.cells false u c) (.cells cs T fr) := by
  obtain ⟨o, ho, hr, -⟩ := h.obj k _ ha e he
  cases o <;> try exact hr.elim
  rename_i cs T fr
  have hr' := hr
  obtain ⟨r1, r2, r3, r4⟩ := hr
  exact ⟨cs, T, fr, ho, (r3 rfl).1.1, (r3 rfl).1.2, (r3 rfl).2, r4, hr'⟩

/-- Bytes of it are frozen: it is read only from now on. -/
theorem Sim.freeze (h : Sim S G W ρ st w) {k u : Nat} {c : Tr Value} {e : Spot} (ha : st.heap.get k = some (.cells false u c)) (he : ρ k = some e) (off n : Nat) :
    Sim S G W ρ (st.put k (.cells true u c)) (w.freeze ⟨e.b, off, none⟩ n) := by
  obtain ⟨cs, T, fr, ho, h1, h2, h3, h4, h5⟩ := h.row ha he
  unfold World.freeze
  split
  · have := h.setObj (o := .cells cs T fr) (a' := .cells true u c) ha he rfl (by obtain ⟨r1, r2, r3, r4⟩ := h5; exact ⟨r1, r2, (fun hh => by cases hh), r4⟩)
    have e2 : w.heap.setIfInBounds e.b (.cells cs T fr) = w.heap := by
      apply Array.ext_getElem?
      intro i
      rw [Array.getElem?_setIfInBounds]
      split
      · rename_i hi; subst hi
        split
        · exact ho.symm
        · rename_i hn; rw [Array.getElem?_eq_none (by omega)]
      · rfl
    rw [e2] at this
    exact this
  · rw [modify_eq _ ho]
    exact h.setObj ha he rfl (by obtain ⟨r1, r2, r3, r4⟩ := h5; exact ⟨r1, r2, (fun hh => by cases hh), r4⟩)

/-- A start: some blocks have places, nothing is laid. -/
theorem Sim.start (S : Rho) (G : Nat) (w : World) (ρ : Rho) (n : Nat) (hn : G ≤ n) (h1 : ∀ k, n ≤ k → ρ k = none) (h2 : ∀ k, k < G → ρ k = none) (h3 : ∀ k e, S k = some e → ρ k = some e) : Sim S G w ρ ⟨.nil, n⟩ w :=
  ⟨Below.refl _ _, h1, hn, fun k e hk he => (by rw [h2 k hk] at he; cases he), fun _ _ _ h => (by rw [Tr.get_nil] at h; cases h), fun _ _ h => (by rw [Tr.get_nil] at h; cases h), (fun _ _ _ _ _ _ h => (by rw [Tr.get_nil] at h; cases h)), h3⟩

end
end Go.Proofs.YtcgecgilkapjaaaGreatDoor
