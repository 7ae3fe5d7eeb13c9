/- The evaluator is sound: comparisons and arithmetic. -/
import Derived.Test.YtcgecgilkapjaaaGreatDoorEh
import Derived.IntWalk
namespace Go.Proofs.YtcgecgilkapjaaaGreatDoor
open Go Go.RowKit
variable {S : Rho}

theorem kindNo_inj {k k' : IntKind} (h : Nat.beq (kindNo k) (kindNo k') = true) : k = k' := by
  cases k <;> cases k' <;> first | rfl | (exact absurd h (by decide))

theorem wr_eq (n : Int) (k : IntKind) : wr n k = k.wrap n := by
  have pos : ∀ m : Nat, fit k m = true → k.wrap (.ofNat m) = .ofNat m := by
    intro m h
    cases k <;> simp only [fit] at h <;> first | (exact absurd h (by decide)) | skip
    · have := Nat.le_of_ble_eq_true h
      exact Go.IntWalk.i64_in _ (by rw [Int.ofNat_eq_natCast]; omega)
    · have := Nat.le_of_ble_eq_true h
      exact Go.IntWalk.u8_in _ (by rw [Int.ofNat_eq_natCast]; omega)
    · have := Nat.le_of_ble_eq_true h
      exact Go.IntWalk.u32_in _ (by rw [Int.ofNat_eq_natCast]; omega)
    · have := Nat.le_of_ble_eq_true h
      exact Go.IntWalk.u64_in _ (by rw [Int.ofNat_eq_natCast]; omega)
  have neg : ∀ m : Nat, fitNeg k m = true → k.wrap (.negSucc m) = .negSucc m := by
    intro m h
    cases k <;> simp only [fitNeg] at h <;> first | (exact absurd h (by decide)) | skip
    have := Nat.le_of_ble_eq_true h
    exact Go.IntWalk.i64_in _ (by rw [Int.negSucc_eq]; omega)
  cases n with
  | ofNat m =>
    show (bif fit k m then Int.ofNat m else k.wrap (.ofNat m)) = _
    cases h : fit k m
    · rfl
    · exact (pos m h).symm
  | negSucc m =>
    show (bif fitNeg k m then Int.negSucc m else k.wrap (.negSucc m)) = _
    cases h : fitNeg k m
    · rfl
    · exact (neg m h).symm

theorem intSub_eq (a b : Int) : intSub a b = a - b := by
  cases a with
  | ofNat m =>
    cases b with
    | ofNat n =>
      show (bif Nat.ble n m then Int.ofNat (Nat.sub m n) else Int.negSucc (Nat.sub (Nat.sub n m) 1)) = _
      cases h : Nat.ble n m
      · have : ¬ n ≤ m := fun hh => by rw [Nat.ble_eq_true_of_le hh] at h; cases h
        show Int.negSucc (n - m - 1) = Int.ofNat m - Int.ofNat n
        rw [Int.negSucc_eq, Int.ofNat_eq_natCast, Int.ofNat_eq_natCast]; omega
      · have := Nat.le_of_ble_eq_true h
        show Int.ofNat (m - n) = Int.ofNat m - Int.ofNat n
        rw [Int.ofNat_eq_natCast, Int.ofNat_eq_natCast, Int.ofNat_eq_natCast]; omega
    | negSucc n => rfl
  | negSucc m => rfl

section
variable {G : Nat} {W : World} {ρ : Rho} {st : St} {w : World}

theorem not_lt_dec (a b : Int) : (!decide (b < a)) = decide (a ≤ b) := by
  rw [Bool.eq_iff_iff, Bool.not_eq_true', decide_eq_false_iff_not, decide_eq_true_iff]; omega

theorem aIntOp_run {op : BinOp} {k : IntKind} {a b : Int} {v : Value} {t : TypeId} (h : aIntOp op k a b = some v) : (binOp op t (.int k a) (.int k b)).run P w = .ok v w ∧ VR ρ v v := by
  have hn : ¬ (k ≠ k) := fun h => h rfl
  cases op <;> first
    | exact nn h
    | (cases (Option.some.inj h); refine ⟨?_, by constructor⟩; simp only [binOp, if_neg hn, Op.intArith, Op.intCmp, Sem.run_pure, wr_eq, intSub_eq, intEq_eq, intLt_eq, not_lt_dec, bne]; try rfl)

theorem aTextOp_run {op : BinOp} {a b : List UInt8} {v : Value} {t : TypeId} (h : aTextOp op a b = some v) : (binOp op t (.string ⟨⟨a⟩⟩) (.string ⟨⟨b⟩⟩)).run P w = .ok v w ∧ VR ρ v v := by
  cases op <;> first
    | exact nn h
    | skip
  · have h : (bif Nat.ble (Nat.add a.length b.length) 9223372036854775807 then some (Value.string ⟨⟨a ++ b⟩⟩) else none) = some v := h
    cases hb : Nat.ble (Nat.add a.length b.length) 9223372036854775807 with
    | false => rw [hb] at h; exact nn h
    | true =>
      rw [hb] at h
      cases (Option.some.inj h)
      have := Nat.le_of_ble_eq_true hb
      refine ⟨?_, .string _⟩
      simp only [binOp, Op.stringOp]
      rw [if_neg]
      · rw [Sem.run_pure]
        congr 2
      · show ¬ (((a.length + b.length : Nat) : Int) > IntKind.i64.max)
        have e : IntKind.i64.max = 9223372036854775807 := by decide
        rw [e]
        have : Nat.add a.length b.length = a.length + b.length := rfl
        omega
  all_goals
    cases (Option.some.inj h)
    refine ⟨?_, by constructor⟩
    simp only [binOp, Op.stringOp, Sem.run_pure, bytes_toList, bytesEq_eq, bytesLt_eq]

theorem guard_free {op : BinOp} {t : TypeId} {a b : Operand} {x y : Value} (h1 : ¬ (x = .nilIface ∧ y = .nilIface)) (h2 : ∀ c d, ¬ (x = .agg c ∧ y = .agg d)) : (eqGuard op t a b x y).run P w = .ok () w := by
  unfold eqGuard
  cases op <;> first
    | exact Sem.run_pure P w ()
    | (rw [if_neg (by decide)]
       split
       · exact absurd ⟨rfl, rfl⟩ h1
       · exact absurd ⟨rfl, rfl⟩ (h2 _ _)
       · exact Sem.run_pure P w ())

theorem aArith_run {op : BinOp} {t : TypeId} {a b : Operand} {x x' y y' v : Value} (hx : VR ρ x x') (hy : VR ρ y y') (h : aArith x y op = some v) :
    (do eqGuard op t a b x' y'; binOp op t x' y' : Sem Value).run P w = .ok v w ∧ VR ρ v v := by
  rcases x with _ | ⟨k, n⟩ | _ | _ | ⟨⟨⟨s⟩⟩⟩ | _ | _ | _ | _ | _ | _ | _ | _ | _ | _ <;> try exact nn h
  · rcases y with _ | ⟨k', m⟩ | _ | _ | _ | _ | _ | _ | _ | _ | _ | _ | _ | _ | _ <;> try exact nn h
    cases hx
    cases hy
    replace h : (bif Nat.beq (kindNo k) (kindNo k') then aIntOp op k n m else none) = some v := h
    cases hk : Nat.beq (kindNo k) (kindNo k') with
    | false => rw [hk] at h; exact nn h
    | true =>
      rw [hk] at h
      cases kindNo_inj hk
      have := aIntOp_run (ρ := ρ) (w := w) (t := t) h
      rw [Sem.run_bind, guard_free (by rintro ⟨h, -⟩; cases h) (by rintro c d ⟨h, -⟩; cases h), Result.andThen_ok]
      exact this
  · rcases y with _ | _ | _ | _ | ⟨⟨⟨r⟩⟩⟩ | _ | _ | _ | _ | _ | _ | _ | _ | _ | _ <;> try exact nn h
    cases hx
    cases hy
    replace h : aTextOp op s r = some v := h
    have := aTextOp_run (ρ := ρ) (w := w) (t := t) h
    rw [Sem.run_bind, guard_free (by rintro ⟨h, -⟩; cases h) (by rintro c d ⟨h, -⟩; cases h), Result.andThen_ok]
    exact this

/-- The values that '==' asks after their type. -/
def Eqable : Value → Prop
  | .pointer _ | .slice _ _ _ | .map _ | .func _ _ _ | .nilFunc | .iface _ _ | .nilIface => True
  | _ => False

theorem binOp_eql {t : TypeId} {x y : Value} (hx : Eqable x) (hy : Eqable y) : binOp .eql t x y = (do pure (.bool (← Op.equal t x y))) := by
  cases x <;> first | exact hx.elim | (cases y <;> first | exact hy.elim | rfl)
theorem binOp_neq {t : TypeId} {x y : Value} (hx : Eqable x) (hy : Eqable y) : binOp .neq t x y = (do pure (.bool (!(← Op.equal t x y)))) := by
  cases x <;> first | exact hx.elim | (cases y <;> first | exact hy.elim | rfl)

theorem notIface {a b : Value} (h : a ≠ .nilIface ∨ b ≠ .nilIface) : ¬ (a = .nilIface ∧ b = .nilIface) := by
  rintro ⟨p, q⟩
  rcases h with h | h
  · exact h p
  · exact h q
theorem notAgg {a b : Value} (h : ∀ c, a ≠ .agg c) (c d : Array Value) : ¬ (a = .agg c ∧ b = .agg d) := fun p => h c p.1

theorem equal_unfold (t : TypeId) (x y : Value) : Op.equal t x y = Op.equalIn (9999 + 1) t x y := rfl

theorem aEq_run {t : TypeId} {x x' y y' : Value} {r : Bool} (hx : VR ρ x x') (hy : VR ρ y y') (h : aEq t x y = some r) :
    (Op.equal t x' y').run P w = .ok r w ∧ ¬ (x' = .nilIface ∧ y' = .nilIface) ∧ (∀ c d, ¬ (x' = .agg c ∧ y' = .agg d)) ∧ Eqable x' ∧ Eqable y' := by
  unfold aEq at h
  cases hu : P.underlying t with
  | none => rw [hu] at h; exact nn h
  | some d =>
    rw [hu] at h
    simp only at h
    rw [equal_unfold, Op.equalIn]
    simp only [Sem.run_bind, run_underlying hu, Result.andThen_ok]
    cases hn : nilable d x y with
    | some b =>
      rw [hn] at h
      simp only [Option.some.injEq] at h
      subst h
      unfold nilable at hn
      split at hn <;> first
        | exact nn hn
        | (cases hx <;> cases hy <;> (cases (Option.some.inj hn); refine ⟨rfl, notIface ?_, notAgg (fun c h => by cases h), trivial, trivial⟩; first | (left; intro h; cases h; done) | (right; intro h; cases h; done)))
    | none =>
      rw [hn] at h
      simp only at h
      split at h
      · rename_i elem k o k' o'
        split at h
        · rename_i n hs
          cases hk : Nat.beq k k' with
          | false => rw [hk] at h; exact nn h
          | true =>
            rw [hk] at h
            simp only [cond_true, Option.some.injEq] at h
            subst h
            cases Nat.eq_of_beq_eq_true hk
            cases hx with
            | @ptr _ e _ he =>
              cases hy with
              | @ptr _ e' _ he' =>
                rw [he] at he'
                cases he'
                refine ⟨?_, notIface (.inl (by intro h; cases h)), notAgg (fun c h => by cases h), trivial, trivial⟩
                have eq : ((⟨e.b, o + e.sh, none⟩ : Addr) == ⟨e.b, o' + e.sh, none⟩) = Nat.beq o o' := by
                  rw [Bool.eq_iff_iff, beq_iff_eq, Nat.beq_eq]
                  constructor
                  · intro h; exact Nat.add_right_cancel (congrArg Addr.off h)
                  · rintro rfl; rfl
                simp only [Sem.run_bind, run_sizeOf hs, Result.andThen_ok]
                have hne : n.succ ≠ 0 := Nat.succ_ne_zero n
                rw [if_pos hne]
                unfold sameAddr
                rw [if_pos (beq_self_eq_true e.b), eq]
                exact Sem.run_pure P w _
        · exact nn h
      · rename_i ms tx vx ty vy
        cases hk : Nat.beq tx ty with
        | true => rw [hk] at h; exact nn h
        | false =>
          rw [hk] at h
          simp only [cond_false, Option.some.injEq] at h
          subst h
          cases hx
          cases hy
          refine ⟨?_, notIface (.inl (by intro h; cases h)), notAgg (fun c h => by cases h), trivial, trivial⟩
          simp only
          rw [if_pos (Nat.ne_of_beq_eq_false hk)]
          exact Sem.run_pure P w false
      · exact nn h

end
end Go.Proofs.YtcgecgilkapjaaaGreatDoor
