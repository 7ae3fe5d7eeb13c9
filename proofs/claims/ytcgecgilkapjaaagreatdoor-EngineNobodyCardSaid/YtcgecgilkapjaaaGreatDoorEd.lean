/- The evaluator is sound: loads, stores, new blocks. No program is named. -/
import Derived.Test.YtcgecgilkapjaaaGreatDoorEb
import Derived.Laws.Sem
import Derived.Laws.World
namespace Go.Proofs.YtcgecgilkapjaaaGreatDoor
open Go Go.RowKit
variable {S : Rho}

theorem add_none (b o n : Nat) : (⟨b, o, none⟩ : Addr).add n = ⟨b, o + n, none⟩ := by
  unfold Addr.add
  split
  · subst_vars; rfl
  · rfl

section
variable {G : Nat} {W : World} {ρ : Rho} {st : St} {w : World} {P : Program}

theorem Sim.congr {st' : St} (h : Sim S G W ρ st w) (hg : ∀ k, st'.heap.get k = st.heap.get k) (hn : st'.next = st.next) : Sim S G W ρ st' w :=
  ⟨h.below, fun k hk => h.fresh k (hn ▸ hk), hn ▸ h.low, h.glob, fun k a hk ha => h.globB k a hk (hg k ▸ ha), fun k a ha e he => h.obj k a (hg k ▸ ha) e he,
   (fun k k' a a' e e' h1 h2 => h.inj k k' a a' e e' (hg k ▸ h1) (hg k' ▸ h2)), h.keep⟩

theorem Sim.globPut (h : Sim S G W ρ st w) {k : Nat} {b : AObj} (hk : st.heap.get k = some b) (b' : AObj) : ∀ j a, j < G → (st.put k b').heap.get j = some a → ∃ e, ρ j = some e := by
  intro j a hj ha
  simp only [St.put, Tr.get_set] at ha
  by_cases hjk : j = k
  · subst hjk; exact h.globB _ _ hj hk
  · rw [if_neg hjk] at ha; exact h.globB _ _ hj ha

theorem Sim.load (h : Sim S G W ρ st w) {k : Nat} {ro : Bool} {u : Nat} {c : Tr Value} {e : Spot} (hk : st.heap.get k = some (.cells ro u c)) (he : ρ k = some e)
    {i : Nat} {v : Value} (hv : c.get i = some v) : ∃ v', w.cell? ⟨e.b, i + e.sh, none⟩ = some v' ∧ VR ρ v v' := by
  obtain ⟨o, ho, hr, _⟩ := h.obj k _ hk e he
  cases o <;> simp only [ObjR] at hr
  obtain ⟨_, _, _, hc⟩ := hr
  obtain ⟨v', h1, h2⟩ := hc i v hv
  exact ⟨v', by simp [World.cell?, ho, h1], h2⟩

theorem run_cell {a : Addr} {v : Value} (h : w.cell? a = some v) : (load a).run P w = .ok v w := by simp [h]

theorem Sim.cells (h : Sim S G W ρ st w) {k : Nat} {ro : Bool} {u : Nat} {c : Tr Value} {e : Spot} (hk : st.heap.get k = some (.cells ro u c)) (he : ρ k = some e) (o : Nat) :
    ∀ (n i : Nat) (l : List Value) (acc : Array Value), cellsFrom c (o + i) n = some l →
      ∃ l', (loadCellsFrom ⟨e.b, o + e.sh, none⟩ i n acc).run P w = .ok (acc ++ l'.toArray) w ∧ VRs ρ l l' := by
  intro n
  induction n with
  | zero =>
    intro i l acc hl
    simp only [cellsFrom, Option.some.injEq] at hl
    subst hl
    exact ⟨[], by simp [loadCellsFrom], .nil⟩
  | succ n ih =>
    intro i l acc hl
    simp only [cellsFrom] at hl
    cases hv : c.get (o + i) with
    | none => simp [hv] at hl
    | some v =>
      simp only [hv] at hl
      cases hr : cellsFrom c (o + i + 1) n with
      | none => simp [hr] at hl
      | some r =>
        simp only [hr, Option.some.injEq] at hl
        subst hl
        obtain ⟨v', h1, h2⟩ := h.load hk he hv
        obtain ⟨l', h3, h4⟩ := ih (i + 1) r (acc.push v') (by rw [show o + (i + 1) = o + i + 1 by omega]; exact hr)
        refine ⟨v' :: l', ?_, .cons h2 h4⟩
        rw [loadCellsFrom, Sem.run_bind, add_none, show o + e.sh + i = o + i + e.sh by omega, run_cell h1, Result.andThen_ok, h3]
        simp

theorem Sim.loadCells (h : Sim S G W ρ st w) {k : Nat} {ro : Bool} {u : Nat} {c : Tr Value} {e : Spot} (hk : st.heap.get k = some (.cells ro u c)) (he : ρ k = some e) {o n : Nat} {l : List Value}
    (hl : cellsFrom c o n = some l) : ∃ l', (loadCells ⟨e.b, o + e.sh, none⟩ n).run P w = .ok ⟨l'⟩ w ∧ VRs ρ l l' := by
  obtain ⟨l', h1, h2⟩ := h.cells (P := P) hk he o n 0 l #[] (by simpa using hl)
  exact ⟨l', by rw [Go.loadCells, h1]; simp, h2⟩

/-- One cell of a block of the call's own is written. -/
theorem Sim.setCell (h : Sim S G W ρ st w) {k : Nat} {u : Nat} {c : Tr Value} {e : Spot} (hk : st.heap.get k = some (.cells false u c)) (he : ρ k = some e)
    {i : Nat} {old v v' : Value} (hi : c.get i = some old) (hv : VR ρ v v') :
    Sim S G W ρ (st.put k (.cells false u (c.set i (some v)))) (w.setCell ⟨e.b, i + e.sh, none⟩ v') ∧ (∃ x, w.cell? ⟨e.b, i + e.sh, none⟩ = some x) ∧ w.frozen? ⟨e.b, i + e.sh, none⟩ = false := by
  obtain ⟨o, ho, hr, hB⟩ := h.obj k _ hk e he
  have hB := hB rfl
  cases o <;> simp only [ObjR] at hr
  rename_i cs el fr
  obtain ⟨hu, hsz, hfr, hc⟩ := hr
  obtain ⟨x, hx, _⟩ := hc i old hi
  have hlt : i + e.sh < cs.size := by
    rcases Nat.lt_or_ge (i + e.sh) cs.size with h' | h'
    · exact h'
    · simp [Array.getElem?_eq_none h'] at hx
  refine ⟨⟨h.below.setCell (by exact hB) v', h.fresh, h.low, h.glob, h.globPut hk _, ?_, ?_, h.keep⟩, ⟨x, by simp [World.cell?, ho, hx]⟩, ?_⟩
  · intro j a ha f hf
    simp only [St.put, Tr.get_set] at ha
    by_cases hj : j = k
    · subst hj
      rw [if_pos rfl, Option.some.injEq] at ha
      subst ha
      obtain rfl : e = f := by rw [he] at hf; exact Option.some.inj hf
      refine ⟨.cells (cs.setIfInBounds (i + e.sh) v') el fr, by simp [World.setCell, Array.getElem?_modify, ho], ?_, fun _ => hB⟩
      refine ⟨hu, by simp [hsz], fun _ => ⟨(hfr trivial).1, fun j hj => (hfr trivial).2 j (by simpa using hj)⟩, ?_⟩
      intro j y hy
      rw [Tr.get_set] at hy
      by_cases hji : j = i
      · subst hji
        rw [if_pos rfl, Option.some.injEq] at hy
        subst hy
        exact ⟨v', by simp [hlt], hv⟩
      · rw [if_neg hji] at hy
        obtain ⟨y', h1, h2⟩ := hc j y hy
        exact ⟨y', by rw [Array.getElem?_setIfInBounds_ne (by omega)]; exact h1, h2⟩
    · rw [if_neg hj] at ha
      obtain ⟨o', h1, h2, h3⟩ := h.obj j a ha f hf
      have hne : f.b ≠ e.b := fun hb => hj (h.inj j k a _ f e ha hk hf he hb)
      exact ⟨o', by rw [Below.heap_setCell _ _ _ _ hne]; exact h1, h2, h3⟩
  · intro j j' a a' f f' ha ha' hf hf' hb
    simp only [St.put, Tr.get_set] at ha ha'
    obtain ⟨b1, hb1⟩ : ∃ a, st.heap.get j = some a := by
      by_cases hik : j = k
      · subst hik; exact ⟨_, hk⟩
      · rw [if_neg hik] at ha; exact ⟨a, ha⟩
    obtain ⟨b2, hb2⟩ : ∃ a, st.heap.get j' = some a := by
      by_cases hik : j' = k
      · subst hik; exact ⟨_, hk⟩
      · rw [if_neg hik] at ha'; exact ⟨a', ha'⟩
    exact h.inj j j' b1 b2 f f' hb1 hb2 hf hf' hb
  · simp only [World.frozen?, ho]
    have := (hfr trivial).2 (i + e.sh) hlt
    simpa using this


theorem VR.one {v v' : Value} (h : VR ρ v v') (hv : v.oneCell' = true) : v'.oneCell' = true := by cases h <;> first | rfl | (simp [Value.oneCell'] at hv)

theorem Sim.run_one {a : Addr} {x v v' : Value} {s : Sem Unit} (hx : w.cell? a = some x) (hf : w.frozen? a = false) (hone : v.oneCell' = true) (hv : VR ρ v v') :
    (do Go.store a v'; s).run P w = s.run P (w.setCell a v') := by
  rw [Sem.run_bind, run_store P w a v' .plain (hv.one hone), hx]
  simp [hf]

theorem Sim.storeCells {k : Nat} {u : Nat} {e : Spot} (he : ρ k = some e) (o : Nat) : ∀ (l l' : List Value) (i : Nat) (c c' : Tr Value) (st : St) (w : World), Sim S G W ρ st w →
    st.heap.get k = some (.cells false u c) → putCells c (o + i) l = some c' → VRs ρ l l' →
    ∃ w', (storeCells ⟨e.b, o + e.sh, none⟩ l' i).run P w = .ok () w' ∧ Sim S G W ρ (st.put k (.cells false u c')) w' := by
  intro l
  induction l with
  | nil =>
    intro l' i c c' st w h hk hp hv
    cases hv
    simp only [putCells, Option.some.injEq] at hp
    subst hp
    refine ⟨w, rfl, h.congr (fun j => ?_) rfl⟩
    simp only [St.put, Tr.get_set]
    split
    · subst_vars; exact hk.symm
    · rfl
  | cons v l ih =>
    intro l' i c c' st w h hk hp hv
    cases hv with
    | @cons _ v' _ l' hv hl =>
      simp only [putCells] at hp
      cases hc : c.get (o + i) with
      | none => simp [hc] at hp
      | some old =>
        simp only [hc] at hp
        have hone : v.oneCell' = true ∧ putCells (c.set (o + i) (some v)) (o + i + 1) l = some c' := by
          cases v <;> first | exact ⟨rfl, hp⟩ | (simp at hp)
        obtain ⟨h1, ⟨x, hx⟩, hf⟩ := h.setCell hk he hc hv
        obtain ⟨w', h2, h3⟩ := ih l' (i + 1) (c.set (o + i) (some v)) c' (st.put k (.cells false u (c.set (o + i) (some v)))) _ h1
          (by simp [St.put, Tr.get_set]) (by rw [show o + (i + 1) = o + i + 1 by omega]; exact hone.2) hl
        refine ⟨w', ?_, h3.congr (fun j => ?_) rfl⟩
        · rw [Go.storeCells, add_none, show o + e.sh + i = o + i + e.sh by omega, Sim.run_one hx hf hone.1 hv, h2]
        · simp only [St.put, Tr.get_set]
          split <;> rfl

/-- A new block. -/
theorem Sim.new (h : Sim S G W ρ st w) {a : AObj} {o : Obj} {sz u : Nat} (hr : ObjR (fun i => if i = st.next then some ⟨w.heap.size, 0, sz, u⟩ else ρ i) ⟨w.heap.size, 0, sz, u⟩ a o) :
    Sim S G W (fun i => if i = st.next then some ⟨w.heap.size, 0, sz, u⟩ else ρ i) (st.new a) { w with heap := w.heap.push o } ∧
    Ext ρ st (fun i => if i = st.next then some ⟨w.heap.size, 0, sz, u⟩ else ρ i) (st.new a) := by
  have hle : Rho.le ρ (fun i => if i = st.next then some ⟨w.heap.size, 0, sz, u⟩ else ρ i) := by
    intro k e he
    show (if k = st.next then _ else ρ k) = some e
    rw [if_neg (by rintro rfl; rw [h.fresh _ (Nat.le_refl _)] at he; cases he)]
    exact he
  have hlt : ∀ k a e, st.heap.get k = some a → ρ k = some e → e.b < w.heap.size := by
    intro k a e ha he
    obtain ⟨o, ho, _⟩ := h.obj k a ha e he
    rcases Nat.lt_or_ge e.b w.heap.size with h' | h'
    · exact h'
    · simp [Array.getElem?_eq_none h'] at ho
  refine ⟨⟨?_, ?_, ?_, ?_, ?_, ?_, ?_, fun k e hk => hle _ _ (h.keep k e hk)⟩, ⟨hle, Nat.le_succ _, ?_⟩⟩
  · exact h.below.alloc h.below.size o
  · intro k hk
    simp only [St.new] at hk
    show (if k = st.next then _ else ρ k) = none
    rw [if_neg (by omega)]
    exact h.fresh k (by omega)
  · exact Nat.le_succ_of_le h.low
  · intro k e hk he
    have := h.low
    exact h.glob k e hk (by rw [← he, if_neg (by omega)])
  · intro k b hk hb
    have := h.low
    simp only [St.new, Tr.get_set] at hb
    rw [if_neg (by omega)] at hb
    obtain ⟨e, he⟩ := h.globB k b hk hb
    exact ⟨e, hle _ _ he⟩
  · intro k b hb f hf
    simp only [St.new, Tr.get_set] at hb
    by_cases hkn : k = st.next
    · subst hkn
      rw [if_pos rfl, Option.some.injEq] at hb
      subst hb
      obtain rfl : (⟨w.heap.size, 0, sz, u⟩ : Spot) = f := Option.some.inj (by rw [← hf, if_pos rfl])
      exact ⟨o, by simp, hr, fun _ => h.below.size⟩
    · rw [if_neg hkn] at hb
      have hf' : ρ k = some f := by rw [← hf, if_neg hkn]
      obtain ⟨o', h1, h2, h3⟩ := h.obj k b hb f hf'
      exact ⟨o', by rw [Array.getElem?_push_lt (hlt k b f hb hf')]; rw [← h1, Array.getElem?_eq_getElem (hlt k b f hb hf')], h2.mono hle, h3⟩
  · intro k k' b b' f f' hb hb' hf hf' hbb
    simp only [St.new, Tr.get_set] at hb hb'
    by_cases h1 : k = st.next <;> by_cases h2 : k' = st.next
    · rw [h1, h2]
    · exfalso
      subst h1
      rw [if_neg h2] at hb'
      have e1 : (⟨w.heap.size, 0, sz, u⟩ : Spot) = f := Option.some.inj (by rw [← hf, if_pos rfl])
      have := hlt k' b' f' hb' (by rw [← hf', if_neg h2])
      rw [← hbb, ← e1] at this
      exact Nat.lt_irrefl _ this
    · exfalso
      subst h2
      rw [if_neg h1] at hb
      have e1 : (⟨w.heap.size, 0, sz, u⟩ : Spot) = f' := Option.some.inj (by rw [← hf', if_pos rfl])
      have := hlt k b f hb (by rw [← hf, if_neg h1])
      rw [hbb, ← e1] at this
      exact Nat.lt_irrefl _ this
    · rw [if_neg h1] at hb
      rw [if_neg h2] at hb'
      exact h.inj k k' b b' f f' hb hb' (by rw [← hf, if_neg h1]) (by rw [← hf', if_neg h2]) hbb
  · intro k hk hn
    exact ⟨by show (if k = st.next then _ else ρ k) = none; rw [if_neg (by omega)]; exact hn, by simp only [St.new, Tr.get_set]; rw [if_neg (by omega)]⟩

/-- A block that is no row of cells gets another content. -/
theorem Sim.setObj (h : Sim S G W ρ st w) {k : Nat} {a a' : AObj} {e : Spot} {o : Obj} (hk : st.heap.get k = some a) (he : ρ k = some e) (hro : a.isRo = false) (hr : ObjR ρ e a' o) :
    Sim S G W ρ (st.put k a') { w with heap := w.heap.setIfInBounds e.b o } := by
  obtain ⟨o0, ho, _, hB⟩ := h.obj k _ hk e he
  have hB := hB hro
  have hlt : e.b < w.heap.size := by
    rcases Nat.lt_or_ge e.b w.heap.size with h' | h'
    · exact h'
    · simp [Array.getElem?_eq_none h'] at ho
  refine ⟨h.below.trans ⟨rfl, rfl, rfl, by simp, fun i hi => ?_⟩, h.fresh, h.low, h.glob, h.globPut hk _, ?_, ?_, h.keep⟩
  · rw [Array.getElem?_setIfInBounds_ne (by omega)]
  · intro j b hb f hf
    simp only [St.put, Tr.get_set] at hb
    by_cases hj : j = k
    · subst hj
      rw [if_pos rfl, Option.some.injEq] at hb
      subst hb
      obtain rfl : e = f := by rw [he] at hf; exact Option.some.inj hf
      exact ⟨o, by simp [hlt], hr, fun _ => hB⟩
    · rw [if_neg hj] at hb
      obtain ⟨o', h1, h2, h3⟩ := h.obj j b hb f hf
      have hne : e.b ≠ f.b := fun hbb => hj (h.inj j k b _ f e hb hk hf he hbb.symm)
      exact ⟨o', by rw [Array.getElem?_setIfInBounds_ne hne]; exact h1, h2, h3⟩
  · intro j j' b b' f f' hb hb' hf hf' hbb
    simp only [St.put, Tr.get_set] at hb hb'
    obtain ⟨b1, hb1⟩ : ∃ a, st.heap.get j = some a := by
      by_cases hik : j = k
      · subst hik; exact ⟨_, hk⟩
      · rw [if_neg hik] at hb; exact ⟨b, hb⟩
    obtain ⟨b2, hb2⟩ : ∃ a, st.heap.get j' = some a := by
      by_cases hik : j' = k
      · subst hik; exact ⟨_, hk⟩
      · rw [if_neg hik] at hb'; exact ⟨b', hb'⟩
    exact h.inj j j' b1 b2 f f' hb1 hb2 hf hf' hbb

theorem Sim.drew (h : Sim S G W ρ st w) : Sim S G W ρ st { w with drawn := w.drawn + 1 } :=
  ⟨h.below.drew, h.fresh, h.low, h.glob, h.globB, h.obj, h.inj, h.keep⟩

/-- A block is let go. -/
theorem Sim.kill (h : Sim S G W ρ st w) (k : Nat) : Sim S G W ρ ⟨st.heap.set k none, st.next⟩ w := by
  have get : ∀ j a, (st.heap.set k none).get j = some a → st.heap.get j = some a := by
    intro j a ha
    rw [Tr.get_set] at ha
    split at ha
    · cases ha
    · exact ha
  exact ⟨h.below, h.fresh, h.low, h.glob, fun j a hj ha => h.globB j a hj (get j a ha), fun j a ha => h.obj j a (get j a ha), (fun j j' a a' f f' ha ha' => h.inj j j' a a' f f' (get j a ha) (get j' a' ha')), h.keep⟩

/-- A block that is there keeps the unborn ones. -/
theorem Ext.put {k : Nat} {e : Spot} (he : ρ k = some e) (a : AObj) : Ext ρ st ρ (st.put k a) :=
  ⟨fun _ _ h => h, Nat.le_refl _, fun i _ hn => ⟨hn, by simp only [St.put, Tr.get_set]; rw [if_neg (by rintro rfl; rw [he] at hn; cases hn)]⟩⟩
theorem Ext.kill {k : Nat} {e : Spot} (he : ρ k = some e) : Ext ρ st ρ ⟨st.heap.set k none, st.next⟩ :=
  ⟨fun _ _ h => h, Nat.le_refl _, fun i _ hn => ⟨hn, by simp only [Tr.get_set]; rw [if_neg (by rintro rfl; rw [he] at hn; cases hn)]⟩⟩

end
end Go.Proofs.YtcgecgilkapjaaaGreatDoor
