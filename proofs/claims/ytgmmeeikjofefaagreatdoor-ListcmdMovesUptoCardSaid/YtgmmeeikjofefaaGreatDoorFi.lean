import Derived.Test.YtgmmeeikjofefaaGreatDoorAl
import Derived.Test.YtgmmeeikjofefaaGreatDoorLo
namespace Go.Proofs.YtgmmeeikjofefaaGreatDoor
open Go Go.RowKit
/-! table.Find. -/
def specOf (x : List UInt8) : Option SpecM := allL.find? fun s => decide (s.name = x)
theorem allL_inj : ∀ y ∈ allL, ∀ z ∈ allL, y.name = z.name → y = z := by decide +kernel
theorem specOf_some {L : List SpecM} (hp : L.Perm allL) {k : Nat} {y : SpecM} (hy : L[k]? = some y) : specOf y.name = some y := by
  have hm : y ∈ allL := hp.mem_iff.1 (List.mem_of_getElem? hy)
  unfold specOf
  cases hf : allL.find? fun s => decide (s.name = y.name) with
  | none =>
    rw [List.find?_eq_none] at hf
    exact absurd (decide_eq_true rfl) (hf y hm)
  | some z =>
    have h1 := List.find?_some hf
    have h2 := List.mem_of_find?_eq_some hf
    rw [allL_inj z h2 y hm (of_decide_eq_true h1)]
theorem specOf_none {L : List SpecM} (hp : L.Perm allL) {x : List UInt8} (h : ∀ y ∈ L, y.name ≠ x) : specOf x = none := by
  unfold specOf
  rw [List.find?_eq_none]
  intro y hy
  simpa using h y (hp.mem_iff.2 hy)
def spec0 : SpecM := ⟨[], 0, false, false, 0, 0, 0⟩
abbrev specV (s : SpecM) : Value := .agg #[.string ⟨s.name.toArray⟩, .int .i64 s.arity, .bool s.write, .bool s.control, .int .i64 s.first, .int .i64 s.last, .int .i64 s.step]
def FindDid (w : World) (r : Option SpecM) (e : Ending) (w' : World) : Prop := e = .returned (.tuple #[specV (r.getD spec0), .bool r.isSome]) ∧ Below w.heap.size w w'
theorem vw_spec {A : Nat → Prop} {w : World} {v : Value} {L : List SpecM} (h : Vw A w v 7 L.length (specsC L)) {k : Nat} {y : SpecM} (hy : L[k]? = some y) : ∃ b off cap, v = .slice (some ⟨b, off, none⟩) L.length cap ∧ L.length ≤ cap ∧
    w.cell? ⟨b, off + k * 7, none⟩ = some (.string ⟨y.name.toArray⟩) ∧ w.cell? ⟨b, off + k * 7 + 1, none⟩ = some (.int .i64 y.arity) ∧ w.cell? ⟨b, off + k * 7 + 2, none⟩ = some (.bool y.write) ∧ w.cell? ⟨b, off + k * 7 + 3, none⟩ = some (.bool y.control) ∧
    w.cell? ⟨b, off + k * 7 + 4, none⟩ = some (.int .i64 y.first) ∧ w.cell? ⟨b, off + k * 7 + 5, none⟩ = some (.int .i64 y.last) ∧ w.cell? ⟨b, off + k * 7 + 6, none⟩ = some (.int .i64 y.step) := by
  obtain ⟨⟨a, cap, rfl, h1, h2, h3⟩, h4⟩ := h
  have hk : k < L.length := (List.getElem?_eq_some_iff.1 hy).1
  rcases h3 with h3 | ⟨b, off, rfl, _, _, hc⟩
  · omega
  have hg : ∀ j, j < 7 → (specsC L)[k * 7 + j]? = (specC y)[j]? := by
    intro j hj
    rw [specsC_get]
    have e1 : (k * 7 + j) / 7 = k := by omega
    have e2 : (k * 7 + j) % 7 = j := by omega
    rw [dif_pos (by omega)]
    rw [List.getElem?_eq_getElem hk] at hy
    cases hy
    simp only [e1, e2]
  have hcc : ∀ j u, j < 7 → (specC y)[j]? = some u → w.cell? ⟨b, off + k * 7 + j, none⟩ = some u := fun j u hj hu => by
    rw [Nat.add_assoc]; exact hc _ u (by rw [hg j hj]; exact hu)
  exact ⟨b, off, cap, rfl, h1, hcc 0 _ (by decide) rfl, hcc 1 _ (by decide) rfl, hcc 2 _ (by decide) rfl, hcc 3 _ (by decide) rfl, hcc 4 _ (by decide) rfl, hcc 5 _ (by decide) rfl, hcc 6 _ (by decide) rfl⟩
set_option maxRecDepth 10000 in
theorem find_res {Wf : World} {R : Nat} {tmps : Array Value} {s : SpecM} {ok : Bool} (h2 : tmps[2]?.getD undef = .pointer (some ⟨R, 0, none⟩)) (h3 : tmps[3]?.getD undef = .bool ok) (c0 : Wf.cell? ⟨R, 0, none⟩ = some (.string ⟨s.name.toArray⟩)) (c1 : Wf.cell? ⟨R, 1, none⟩ = some (.int .i64 s.arity)) (c2 : Wf.cell? ⟨R, 2, none⟩ = some (.bool s.write))
    (c3 : Wf.cell? ⟨R, 3, none⟩ = some (.bool s.control)) (c4 : Wf.cell? ⟨R, 4, none⟩ = some (.int .i64 s.first)) (c5 : Wf.cell? ⟨R, 5, none⟩ = some (.int .i64 s.last)) (c6 : Wf.cell? ⟨R, 6, none⟩ = some (.int .i64 s.step)) :
    (results Tryz.f59 tmps).run Tryz.prog Wf = .ok (.tuple #[specV s, .bool ok]) Wf := by
  simp [results, Tryz.results59, go_sem, h2, h3, c0, c1, c2, c3, c4, c5, c6]
def FindRel (W : World) (L : List SpecM) (x : List UInt8) (v i : Value) (wr : World) : Prop :=
  ∃ k : Nat, k ≤ L.length ∧ i = .int .i64 (k : Int) ∧ Below W.heap.size W wr ∧ Vw (fun _ => True) wr v 7 L.length (specsC L) ∧ ∀ (j : Nat) y, j < k → L[j]? = some y → y.name ≠ x
set_option maxRecDepth 10000 in
set_option maxHeartbeats 2000000 in
theorem find_ok (nm : List UInt8) (w : World) (hn : nm.length ≤ 1099511627776) : Calls Tryz.prog 59 #[txt nm] w (FindDid w (specOf (lowL nm))) := by
  obtain ⟨W, hW⟩ : ∃ W, W = w.alloc (.cells #[.string ⟨#[]⟩, .int .i64 0, .bool false, .bool false, .int .i64 0, .int .i64 0, .int .i64 0] 107) := ⟨_, rfl⟩
  have hB0 : Below w.heap.size w W := by rw [hW]; exact (Below.refl _ _).alloc (Nat.le_refl _) _
  have hR0 : Blk none0 W [] w.heap.size #[.string ⟨#[]⟩, .int .i64 0, .bool false, .bool false, .int .i64 0, .int .i64 0, .int .i64 0] 107 := ⟨by rw [hW]; exact heap_alloc_new w _, rfl⟩
  have hzW : W.heap.size = w.heap.size + 1 := by rw [hW]; simp
  have HLO := Lib.hid (lower_ok nm W hn)
  have HB0 := Lib.hid hB0
  have HR0 := Lib.hid hR0
  have HZ := Lib.hid hzW
  clear hB0 hR0 hzW
  unfold txt at *
  go_enter Tryz.func59, Tryz.ntmps59
  go_wp2_with fail
  rw [← hW]
  clear hW
  refine HLO.out.mono ?_; rintro e w1 ⟨rfl, hB1⟩
  have HB1 := Lib.hid hB1
  clear hB1 HLO
  generalize lowL nm = x at *
  go_wp2_with fail
  refine (all_ok _).mono ?_; rintro e w2 ⟨v, L, rfl, hp, hv, hB2⟩
  have hL : L.length = 118 := by rw [hp.length_eq]; decide
  rw [← hL] at hv
  have hB2' : Below W.heap.size W w2 := HB1.out.trans (hB2.mono HB1.out.size)
  obtain ⟨av, cv, rfl, _⟩ := id hv.slice
  have hat : FindRel W L x (.slice av L.length cv) (.int .i64 0) w2 := ⟨0, Nat.zero_le _, rfl, hB2', hv.imp (fun _ _ => trivial), fun j y hj => absurd hj (Nat.not_lt_zero _)⟩
  have HP := Lib.hid hp
  clear hp hv hB2 HB1 hB2'
  go_wp2_with fail
  go_loopw [10] (fun i wr => FindRel W L x (.slice av L.length cv) i wr) (fun i _ => L.length - (intOf i).toNat)
  case atStart => exact hat
  case round =>
    obtain ⟨k, hk, rfl, hB, hv, hno⟩ := hrel
    clear hat
    have hR := HR0.out.below hB
    by_cases hkl : k < L.length
    · obtain ⟨y, hy⟩ : ∃ y, L[k]? = some y := ⟨_, List.getElem?_eq_getElem hkl⟩
      obtain ⟨b, off, cap, hve, hcap, c0, c1, c2, c3, c4, c5, c6⟩ := vw_spec hv hy
      injection hve with e1 e2 e3
      subst e1
      have HV := Lib.hid hv
      have HB := Lib.hid hB
      have HR := Lib.hid hR
      have HNO := Lib.hid hno
      have HY := Lib.hid hy
      have hkI : (0 : Int) ≤ k ∧ (k : Int) < L.length := by omega
      obtain ⟨hk0, hk1⟩ := hkI
      clear hv hB hR hno hy e2
      by_cases hxy : y.name = x
      · have D := Lib.hid (specOf_some HP.out HY.out)
        rw [hxy] at D
        have hz := HR.out.cell
        have hzf := HR.out.free
        have hlt := HR.out.lt
        obtain ⟨name, arity, write, control, first, last, step⟩ := y
        dsimp only at c0 c1 c2 c3 c4 c5 c6 hxy
        subst hxy
        go_wp2_with fail
        refine bodyPost_ret (find_res (R := w.heap.size) (s := ⟨name, arity, write, control, first, last, step⟩) (ok := true) rfl rfl ?_ ?_ ?_ ?_ ?_ ?_ ?_) rfl ⟨by rw [D.out]; rfl, ?_⟩
        iterate 7 (rw [World.cell?_alloc_lt _ _ _ (by simpa using hlt)]; simp [go_sem, hz])
        have hB2 : Below w.heap.size w wr := HB0.out.trans (HB.out.mono (by rw [HZ.out]; omega))
        have hsz := hB2.size
        refine Below.alloc ?_ (by simpa using hsz) _
        iterate 7 refine Below.setCell ?_ (by simp) _
        exact hB2
      · have hd : (y.name == x) = false := by simpa using hxy
        have hHB := HB.out.size
        have D := Lib.hid (show FindRel W L x (.slice (some ⟨b, off, none⟩) L.length cv) (.int .i64 ((k + 1 : Nat) : Int)) (wr.alloc (.cells #[.string ⟨y.name.toArray⟩, .int .i64 y.arity, .bool y.write, .bool y.control, .int .i64 y.first, .int .i64 y.last, .int .i64 y.step] 107)) from
          ⟨k + 1, hkl, rfl, HB.out.alloc HB.out.size _, HV.out.below ((Below.refl _ _).alloc (Nat.le_refl _) _), fun j z hj hz => by
            rcases Nat.lt_or_ge j k with h | h
            · exact HNO.out j z h hz
            · obtain rfl : j = k := by omega
              rw [HY.out] at hz
              cases hz
              exact hxy⟩)
        clear HV HB HR HNO HY hxy
        go_wp2_with fail
        go_roundw
        case rel => exact D.out
        case measure => simp [intOf]; omega
    · obtain rfl : k = L.length := by omega
      have D := Lib.hid (specOf_none HP.out (fun y hy => by
        obtain ⟨j, hj, e⟩ := List.mem_iff_getElem.1 hy
        exact hno j y hj (by rw [List.getElem?_eq_getElem hj, e])))
      have hz := hR.cell
      have hzf := hR.free
      have hB2 : Below w.heap.size w wr := HB0.out.trans (hB.mono (by rw [HZ.out]; omega))
      have HB2 := Lib.hid hB2
      clear hB hv hno hR hB2
      go_wp2_with fail
      refine bodyPost_ret (v := .tuple #[specV spec0, .bool false]) (by simp [results, Tryz.results59, go_sem, hz, spec0]) rfl ⟨by rw [D.out]; rfl, ?_⟩
      have hB2 := HB2.out
      iterate 7 refine Below.setCell ?_ (by simp) _
      exact hB2
end Go.Proofs.YtgmmeeikjofefaaGreatDoor
