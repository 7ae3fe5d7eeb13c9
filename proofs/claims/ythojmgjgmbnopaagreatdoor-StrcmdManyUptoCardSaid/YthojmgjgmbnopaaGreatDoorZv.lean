import Derived.Test.YthojmgjgmbnopaaGreatDoorZu
import Derived.Test.YthojmgjgmbnopaaGreatDoorXA
namespace Go.Proofs.YthojmgjgmbnopaaGreatDoor
open Go
/-! An append as an operation of a region that draws its order. -/
theorem ZTurn.app {P : Program} {ops : Array Oper} {Q : Exit → Act → World → Prop} {S : World → Prop} {S' : Value → World → Prop} {aF : Act} {o : Oper} (hw : Region.wanted o (yielded ops aF.tmps) = true) (s x : Operand) (t tx : TypeId)
    (ho : o.op = .call { callee := .builtin .append, args := #[s, x], argTypes := #[t, tx] })
    (e : TypeId) (i : TypeInfo) (z : Value) (size bytes : Nat) (ht : P.underlying t = some (.slice e)) (hi : P.info? e = some i) (hz : i.zero = some z)
    (hsize : i.size = size) (hby : i.bytes = bytes) (hzs : z.cells.size = size) {v xv : Value} (hv : aF.eval s = v) (hx : aF.eval x = xv)
    (h : ∀ w, S w → ∃ (ow : Roles) (r : List Nat) (n : Nat) (xs : List Value) (m : Nat) (news : List Value), Row ow w r e size v n xs ∧ Src P size tx xv m news w ∧ n + m ≤ maxLen ∧ (n + m) * bytes ≤ 140737488355328 ∧
      ∀ v' w' ow', Row ow' w' r e size v' (n + m) (xs ++ news) → Stp r ow w ow' w' → S' v' w') : ZTurn P ops Q S S' aF o := ⟨hw, fun w hW K f _ hop hK => by
  obtain ⟨ow, r, n, xs, m, news, hr, hs, h1, h2, h3⟩ := h w hW
  exact wp_app w s x t tx ho e i z size bytes ht hi hz hsize hby hzs (by rw [hop s (by rw [ho]; simp [Op.operands, Call.operands]), hv]) hr (by rw [hop x (by rw [ho]; simp [Op.operands, Call.operands]), hx]) hs h1 h2 fun v' w' ow' g1 g2 => hK v' w' (h3 v' w' ow' g1 g2)⟩
end Go.Proofs.YthojmgjgmbnopaaGreatDoor
