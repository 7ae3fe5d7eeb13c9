import Derived.Test.YthojmgjgmbnopaaGreatDoorTw
namespace Go.Proofs.YthojmgjgmbnopaaGreatDoor
open Go Go.RowKit
/-! A law's runs of Run. -/
section
variable {o : Roles} {w : World} {q : List Nat} {p : Nat} {c : Cnt} {S : SP}
/-- A world that a law has come to, and the space it made. -/
structure At (w0 : World) (o : Roles) (w : World) (p : Nat) (S : SP) (c : Cnt) (n : Nat) : Prop where
  sp : SpJ o w [1] p S c
  st : Stp [1] none0 w0 o w
  num : c.num ≤ n
  few : c.few ≤ n
theorem At.below {w0 w' : World} {n : Nat} (h : At w0 o w p S c n) (hB : Below w.heap.size w w') : At w0 o w' p S c n := ⟨h.sp.below hB, h.st.trans (Stp.ofBelow _ _ hB), h.num, h.few⟩
theorem At.since {w0 : World} {n : Nat} (h : At w0 o w p S c n) : Below w0.heap.size w0 w := h.st.below0
theorem At.mono {w0 : World} {n n' : Nat} (h : At w0 o w p S c n) (hn : n ≤ n') : At w0 o w p S c n' := ⟨h.sp, h.st, Nat.le_trans h.num hn, Nat.le_trans h.few hn⟩
theorem At.vw {w0 : World} {n k sz : Nat} {v : Value} {xs : List Value} (h : At w0 o w p S c n) (hv : Vw (Old w0) w0 v sz k xs) : Vw (Old w) w v sz k xs := (hv.below h.since).imp (fun _ hb => Nat.lt_of_lt_of_le hb h.since.size)
theorem At.cell {w0 : World} {n : Nat} (h : At w0 o w p S c n) {b off : Nat} {u : Value} (hc : w0.cell? ⟨b, off, none⟩ = some u) : w.cell? ⟨b, off, none⟩ = some u := cell_below h.since hc
/-- A reply of Run, and where it leaves the law. -/
def RunT (w0 : World) (o : Roles) (w : World) (p : Nat) (n : Nat) (r : RP) (K : SP → Prop) (e : Ending) (w' : World) : Prop :=
  ∃ v, e = .returned (.tuple #[repV r.kind r.text r.n v, .bool true]) ∧ Vw (fun b => w.heap.size ≤ b) w' v 4 r.list.length (rfsC r.list) ∧ ∃ o' S' c', At w0 o' w' p S' c' (n + 2) ∧ K S' ∧ Stp [1] o w o' w'
theorem at_trun {w0 : World} {n : Nat} (h : At w0 o w p S c n) {nm low : Tx} {args : List Tx} {sv : Value} {now : Int} (hnow : 0 ≤ now ∧ now ≤ 9007199254740992) (hv : Vw (fun b => b < w.heap.size ∧ ¬ [1] <+: o b) w sv 1 (args.length + 1) ((nm :: args).map txt)) (hlow : lowL nm = low) (hn : nm.length ≤ 1099511627776) (hl : args.length + 1 ≤ 1099511627776) (hne : 0 < args.length)
    (hft : Fits low (args.length + 1)) {F : FuncId} (hg : Goes low F) {r : RP} {K : SP → Prop} (hs : ServesT F w [1] p now S c low args r (fun S' c' => K S' ∧ c.near c')) :
    Calls Tryz.prog 23 #[.pointer (some ⟨p, 0, none⟩), .int .i64 now, sv] w (RunT w0 o w p n r K) :=
  (tRun_ok h.sp (by decide) hnow hv hlow hn hl hne hft hg hs).mono fun _ _ hr => by
    obtain ⟨v, rfl, hv', o', S', c', hj, hk, hst⟩ := hr
    exact ⟨v, rfl, hv', o', S', c', ⟨hj, h.st.trans hst, by have := h.num; have := hk.2.1; omega, by have := h.few; have := hk.2.2; omega⟩, hk.1, hst⟩
end
theorem fits_two {low : Tx} (h : low = incrB ∨ low = [103, 101, 116]) : Fits low 2 := by
  rcases h with rfl | rfl
  · exact ⟨⟨incrB, 2, true, false, 1, 1, 1⟩, by kernel_rfl, .inl ⟨by decide, by decide⟩, by decide⟩
  · exact ⟨⟨[103, 101, 116], 2, false, false, 1, 1, 1⟩, by kernel_rfl, .inl ⟨by decide, by decide⟩, by decide⟩
theorem fits_three {low : Tx} (h : low = incrbyB ∨ low = decrbyB ∨ low = [97, 112, 112, 101, 110, 100]) : Fits low 3 := by
  rcases h with rfl | rfl | rfl
  · exact ⟨⟨incrbyB, 3, true, false, 1, 1, 1⟩, by kernel_rfl, .inl ⟨by decide, by decide⟩, by decide⟩
  · exact ⟨⟨decrbyB, 3, true, false, 1, 1, 1⟩, by kernel_rfl, .inl ⟨by decide, by decide⟩, by decide⟩
  · exact ⟨⟨[97, 112, 112, 101, 110, 100], 3, true, false, 1, 1, 1⟩, by kernel_rfl, .inl ⟨by decide, by decide⟩, by decide⟩
end Go.Proofs.YthojmgjgmbnopaaGreatDoor
