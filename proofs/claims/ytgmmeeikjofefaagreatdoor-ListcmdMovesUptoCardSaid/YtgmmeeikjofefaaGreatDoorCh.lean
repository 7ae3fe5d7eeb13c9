import Derived.Test.YtgmmeeikjofefaaGreatDoorFi
namespace Go.Proofs.YtgmmeeikjofefaaGreatDoor
open Go Go.RowKit
/-! table.Check: a request that is one. -/
set_option maxRecDepth 10000 in
set_option maxHeartbeats 1000000 in
theorem check_ok {A : Nat → Prop} {w : World} {v : Value} {nm : List UInt8} {rest : List (List UInt8)} {s : SpecM} (h : Vw A w v 1 (nm :: rest).length ((nm :: rest).map txt)) (hn : nm.length ≤ 1099511627776) (hs : specOf (lowL nm) = some s)
    (ha : (0 ≤ s.arity ∧ ((nm :: rest).length : Int) = s.arity) ∨ (s.arity < 0 ∧ - s.arity ≤ ((nm :: rest).length : Int))) (hl : (nm :: rest).length ≤ 1099511627776) (hb : -9223372036854775808 < s.arity) :
    Calls Tryz.prog 34 #[v] w fun e w' => e = .returned (.string ⟨#[]⟩) ∧ Below w.heap.size w w' := by
  have HF := Lib.hid (find_ok nm w hn)
  rw [hs] at HF
  obtain ⟨⟨a, cap, rfl, h1, h2, h3⟩, h4⟩ := h
  rcases h3 with h3 | ⟨b, off, rfl, g2, g3, g4⟩
  · simp at h3
  have c0 : w.cell? ⟨b, off, none⟩ = some (.string ⟨nm.toArray⟩) := g4 0 (txt nm) rfl
  generalize hN : (nm :: rest).length = n at *
  have hn1 : 1 ≤ n := by rw [← hN]; simp
  have e0 : ((n : Int) == 0) = false := beq_eq_false_iff_ne.2 (by omega)
  have ew : IntKind.i64.wrap (- s.arity) = - s.arity := by rw [IntKind.wrap_i64]; omega
  obtain ⟨name, arity, write, control, first, last, step⟩ := s
  dsimp only at ha ew hb
  unfold FindDid at HF
  simp only [Option.getD_some, Option.isSome_some] at HF
  clear h4 g4 hs hN hn h1 h2 hb
  unfold txt at HF
  have dn : (n != 0) = true := by simp; omega
  rcases ha with ⟨ha1, ha2⟩ | ⟨ha1, ha2⟩
  · have d1 : decide (0 ≤ arity) = true := decide_eq_true ha1
    have d2 : ((n : Int) != arity) = false := by simp [ha2]
    have d3 : decide (arity < 0) = false := decide_eq_false (by omega)
    clear ha1 ha2
    go_enter Tryz.func34, Tryz.ntmps34
    go_wp2_with fail
    refine HF.out.mono ?_; rintro e w2 ⟨rfl, hB⟩
    have HB := Lib.hid hB
    clear hB
    go_wp2_with fail
    go_ret
    exact ⟨rfl, HB.out.alloc HB.out.size _⟩
  · have d1 : decide (0 ≤ arity) = false := decide_eq_false (by omega)
    have d3 : decide (arity < 0) = true := decide_eq_true ha1
    have d4 : decide ((n : Int) < - arity) = false := decide_eq_false (by omega)
    clear ha1 ha2
    go_enter Tryz.func34, Tryz.ntmps34
    go_wp2_with fail
    refine HF.out.mono ?_; rintro e w2 ⟨rfl, hB⟩
    have HB := Lib.hid hB
    clear hB
    go_wp2_with fail
    go_ret
    exact ⟨rfl, HB.out.alloc HB.out.size _⟩
end Go.Proofs.YtgmmeeikjofefaaGreatDoor
