import Derived.Test.YthojmgjgmbnopaaGreatDoorXF
import Derived.Lib.ConvBytes
import Derived.Test.YthojmgjgmbnopaaGreatDoorXO
namespace Go.Proofs.YthojmgjgmbnopaaGreatDoor
open Go Go.RowKit
/-! table.Lower. -/
def bv (b : UInt8) : Value := .int .u8 b.toNat
def lowB (c : UInt8) : UInt8 := if 65 ≤ c ∧ c ≤ 90 then c + 32 else c
def lowL (s : List UInt8) : List UInt8 := s.map lowB
theorem fold_push (l : List UInt8) : ∀ s : ByteArray, ((l.map fun b : UInt8 => (b.toNat : Int)).foldl (fun r n => r.push (UInt8.ofNat n.toNat)) s) = ⟨s.data ++ l.toArray⟩ := by
  induction l with
  | nil => intro s; simp
  | cons b l ih =>
    intro s
    rw [List.map_cons, List.foldl_cons, ih]
    have e : UInt8.ofNat ((b.toNat : Int)).toNat = b := by simp
    rw [e]
    congr 1
    apply Array.ext'
    simp [ByteArray.push]
theorem run_bytes_text (w : World) (g cap : Nat) (l : List UInt8) (h : ∀ j x, l[j]? = some x → w.cell? ⟨g, j, none⟩ = some (bv x)) (n : Nat) (hn : n = l.length) :
    (convert 98 9 (.slice (some ⟨g, 0, none⟩) n cap)).run Tryz.prog w = .ok (.string ⟨l.toArray⟩) w := by
  subst hn
  rw [run_convert_bytes_string w 98 9 5 _ _ _ Tryz.underlying98 Tryz.underlying5 Tryz.underlying9]
  have hl := run_loadCells_list (P := Tryz.prog) w ⟨g, 0, none⟩ (l.map bv) (fun j v hj => by
    rw [addr_add, Nat.zero_add]
    rw [List.getElem?_map, Option.map_eq_some_iff] at hj
    obtain ⟨x, hx, rfl⟩ := hj
    exact h j x hx)
  rw [List.length_map] at hl
  have e : l.map bv = (l.map fun b : UInt8 => (b.toNat : Int)).map (Value.int .u8) := by rw [List.map_map]; rfl
  rw [run_bytesToString w ⟨g, 0, none⟩ l.length cap (l.map fun b : UInt8 => (b.toNat : Int)) (by rw [← e]; exact hl), fold_push]
  simp
def lowAt (s : List UInt8) (k : Nat) : List UInt8 := lowL (s.take k) ++ s.drop k
theorem lowAt_len (s : List UInt8) (k : Nat) : (lowAt s k).length = s.length := by unfold lowAt lowL; simp; omega
theorem lowAt_get {s : List UInt8} {k : Nat} (hk : k < s.length) : (lowAt s k)[k]? = s[k]? := by
  unfold lowAt lowL
  rw [List.getElem?_append_right (by simp; omega)]
  simp
  congr 1
  omega
theorem lowAt_next {s : List UInt8} {k : Nat} {x : UInt8} (hx : s[k]? = some x) : lowAt s (k + 1) = (lowAt s k).set k (lowB x) := by
  have hk : k < s.length := (List.getElem?_eq_some_iff.1 hx).1
  have hl : (lowL (s.take k)).length = k := by unfold lowL; simp; omega
  have hd : s.drop k = x :: s.drop (k + 1) := by
    rw [List.drop_eq_getElem_cons hk]
    congr 1
    rw [List.getElem?_eq_getElem hk] at hx
    cases hx; rfl
  unfold lowAt
  rw [List.take_add_one, hx, hd]
  unfold lowL
  rw [List.set_append, if_neg (by simp; omega)]
  simp [List.length_take, Nat.min_eq_left (Nat.le_of_lt hk)]
def LowRel (w : World) (g : Nat) (s : List UInt8) (i : Value) (wr : World) : Prop :=
  ∃ k : Nat, k ≤ s.length ∧ i = .int .i64 (k : Int) ∧ Below w.heap.size w wr ∧ g < wr.heap.size ∧ (∀ j x, (lowAt s k)[j]? = some x → wr.cell? ⟨g, j, none⟩ = some (bv x)) ∧ (∀ j, j < s.length → wr.frozen? ⟨g, j, none⟩ = false)
theorem lowRel_next {w wr : World} {g k : Nat} {s : List UInt8} {x : UInt8} {u : Value} (hg : w.heap.size ≤ g) (hx : s[k]? = some x) (hu : u = bv (lowB x)) (hB : Below w.heap.size w wr) (hl : g < wr.heap.size) (hc : ∀ j x, (lowAt s k)[j]? = some x → wr.cell? ⟨g, j, none⟩ = some (bv x)) (hf : ∀ j, j < s.length → wr.frozen? ⟨g, j, none⟩ = false) :
    LowRel w g s (.int .i64 ((k + 1 : Nat) : Int)) (wr.setCell ⟨g, k, none⟩ u) := by
  have hk : k < s.length := (List.getElem?_eq_some_iff.1 hx).1
  refine ⟨k + 1, hk, rfl, hB.setCell hg _, by simpa using hl, fun j y hj => ?_, fun j hj => by rw [World.frozen?_setCell]; exact hf j hj⟩
  rw [lowAt_next hx, List.getElem?_set] at hj
  by_cases hjk : k = j
  · subst hjk
    rw [if_pos rfl, if_pos (by rw [lowAt_len]; exact hk)] at hj
    cases hj
    rw [hu]
    exact World.cell?_setCell_same _ _ _ (hc k x (by rw [lowAt_get hk]; exact hx))
  · rw [if_neg hjk] at hj
    rw [World.cell?_setCell_other _ _ _ _ (by intro e; injection e with _ e2 _; exact hjk e2)]
    exact hc j y hj
theorem lowRel_keep {w wr : World} {g k : Nat} {s : List UInt8} {x : UInt8} (hx : s[k]? = some x) (hu : lowB x = x) (hB : Below w.heap.size w wr) (hl : g < wr.heap.size) (hc : ∀ j x, (lowAt s k)[j]? = some x → wr.cell? ⟨g, j, none⟩ = some (bv x)) (hf : ∀ j, j < s.length → wr.frozen? ⟨g, j, none⟩ = false) :
    LowRel w g s (.int .i64 ((k + 1 : Nat) : Int)) wr := by
  have hk : k < s.length := (List.getElem?_eq_some_iff.1 hx).1
  refine ⟨k + 1, hk, rfl, hB, hl, fun j y hj => ?_, hf⟩
  rw [lowAt_next hx, hu] at hj
  rw [List.getElem?_set] at hj
  by_cases hjk : k = j
  · subst hjk
    rw [if_pos rfl, if_pos (by rw [lowAt_len]; exact hk)] at hj
    cases hj
    exact hc k _ (by rw [lowAt_get hk]; exact hx)
  · rw [if_neg hjk] at hj
    exact hc j y hj
theorem lowAt_zero (s : List UInt8) : lowAt s 0 = s := by unfold lowAt lowL; simp
theorem lowAt_all (s : List UInt8) : lowAt s s.length = lowL s := by unfold lowAt; simp
set_option maxRecDepth 10000 in
set_option maxHeartbeats 1000000 in
theorem lower_ok (s : List UInt8) (w : World) (hs : s.length ≤ 1099511627776) : Calls Tryz.prog 62 #[txt s] w fun e w' => e = .returned (txt (lowL s)) ∧ Below w.heap.size w w' := by
  have hsz : (⟨s.toArray⟩ : ByteArray).size = s.length := by simp [ByteArray.size]
  have hcv := Lib.run_convert_string_bytes (P := Tryz.prog) w 9 98 5 ⟨s.toArray⟩ Tryz.underlying9 Tryz.underlying98 Tryz.underlying5
  rw [hsz] at hcv
  have hat : LowRel w w.heap.size s (.int .i64 0) (Lib.bytesWorld w 5 ⟨s.toArray⟩) := by
    refine ⟨0, Nat.zero_le _, rfl, ⟨rfl, rfl, rfl, by rw [Lib.bytesWorld_size]; omega, fun b hb => Lib.bytesWorld_at_old w _ _ b hb⟩, by rw [Lib.bytesWorld_size]; omega, fun j x hj => ?_, fun j hj => ?_⟩
    · rw [lowAt_zero] at hj
      have hjl : j < s.length := (List.getElem?_eq_some_iff.1 hj).1
      rw [Lib.bytesWorld_cell w _ _ j (by rw [hsz]; exact hjl)]
      simp only [List.getD_eq_getElem?_getD]
      rw [hj]; rfl
    · unfold World.frozen?
      rw [Lib.bytesWorld_at_new]
      have hbs : s.length ≤ (Lib.bytesCells w 5 ⟨s.toArray⟩).size := by simp [Lib.bytesCells]
      simp
      omega
  generalize Lib.bytesWorld w 5 ⟨s.toArray⟩ = w1 at *
  generalize grownCap w s.length 0 5 = cap at *
  unfold txt
  go_enter Tryz.func62, Tryz.ntmps62
  go_wp2_with fail
  go_loopw [10] (fun i wr => LowRel w w.heap.size s i wr) (fun i _ => s.length - (intOf i).toNat)
  case atStart => exact hat
  case round =>
    obtain ⟨k, hk, rfl, hB, hl, hc, hf⟩ := hrel
    clear hat
    by_cases hkl : k < s.length
    · obtain ⟨x, hx⟩ : ∃ x, s[k]? = some x := ⟨_, List.getElem?_eq_getElem hkl⟩
      have hcell : wr.cell? ⟨w.heap.size, k, none⟩ = some (.int .u8 x.toNat) := hc k x (by rw [lowAt_get hkl]; exact hx)
      have hfr := hf k hkl
      have hxb := x.toNat_lt
      by_cases hup : 65 ≤ x ∧ x ≤ 90
      · have h1 : 65 ≤ x.toNat ∧ x.toNat ≤ 90 := by
          obtain ⟨h1, h2⟩ := hup
          rw [UInt8.le_iff_toNat_le] at h1 h2
          exact ⟨h1, h2⟩
        have d1 : decide ((65 : Int) ≤ x.toNat) = true := decide_eq_true (by omega)
        have d2 : decide ((x.toNat : Int) ≤ 90) = true := decide_eq_true (by omega)
        have e1 : IntKind.u8.wrap ((x.toNat : Int) + 97) = (x.toNat : Int) + 97 := by rw [IntKind.wrap_u8]; omega
        have e2 : IntKind.u8.wrap ((x.toNat : Int) + 97 - 65) = (x.toNat : Int) + 32 := by rw [IntKind.wrap_u8]; omega
        have hu : (Value.int .u8 ((x.toNat : Int) + 32)) = bv (lowB x) := by
          unfold bv lowB
          rw [if_pos hup, UInt8.toNat_add]
          congr 1
          have : (32 : UInt8).toNat = 32 := rfl
          rw [this]
          omega
        have D := Lib.hid (lowRel_next (Nat.le_refl _) hx hu hB hl hc hf)
        clear hB hc hf hx hu hup h1
        go_wp2_with fail
        go_roundw
        case rel => exact D.out
        case measure => simp [intOf]; omega
      · have hu : lowB x = x := if_neg hup
        have D := Lib.hid (lowRel_keep hx hu hB hl hc hf)
        have hd : decide ((65 : Int) ≤ x.toNat) = true → decide ((x.toNat : Int) ≤ 90) = false := by
          intro h
          have h3 := of_decide_eq_true h
          apply decide_eq_false
          intro h4
          exact hup ⟨by rw [UInt8.le_iff_toNat_le]; show 65 ≤ x.toNat; omega, by rw [UInt8.le_iff_toNat_le]; show x.toNat ≤ 90; omega⟩
        clear hB hc hf hx hu hup
        rcases hq : decide ((65 : Int) ≤ x.toNat) with _ | _
        · clear hd
          go_wp2_with fail
          go_roundw
          case rel => exact D.out
          case measure => simp [intOf]; omega
        · have hq2 := hd hq
          clear hd
          go_wp2_with fail
          go_roundw
          case rel => exact D.out
          case measure => simp [intOf]; omega
    · obtain rfl : k = s.length := by omega
      rw [lowAt_all] at hc
      have hcv := run_bytes_text wr w.heap.size cap (lowL s) hc s.length (by simp [lowL])
      have HB := Lib.hid hB
      clear hB hc hf
      go_wp2_with fail
      go_ret
      exact ⟨rfl, HB.out⟩
end Go.Proofs.YthojmgjgmbnopaaGreatDoor
namespace Go.Proofs.YthojmgjgmbnopaaGreatDoor
open Go Go.RowKit
/-! table.Find. -/
def specOf (x : List UInt8) : Option SpecM := allL.find? fun s => decide (s.name = x)
theorem allL_inj : ∀ y ∈ allL, ∀ z ∈ allL, y.name = z.name → y = z := by decide +kernel
theorem specOf_some {L : List SpecM} (hp : L.Perm allL) {k : Nat} {y : SpecM} (hy : L[k]? = some y) : specOf y.name = some y := by
  have hm : y ∈ allL := hp.mem_iff.1 (List.mem_of_getElem? hy)
  unfold specOf
  cases hf : allL.find? fun s => decide (s.name = y.name) with
  | none =>
    rw [List.find?_eq_none] at hf
    exact absurd (decide_eq_true rfl) (hf y hm)
  | some z =>
    have h1 := List.find?_some hf
    have h2 := List.mem_of_find?_eq_some hf
    rw [allL_inj z h2 y hm (of_decide_eq_true h1)]
theorem specOf_none {L : List SpecM} (hp : L.Perm allL) {x : List UInt8} (h : ∀ y ∈ L, y.name ≠ x) : specOf x = none := by
  unfold specOf
  rw [List.find?_eq_none]
  intro y hy
  simpa using h y (hp.mem_iff.2 hy)
def spec0 : SpecM := ⟨[], 0, false, false, 0, 0, 0⟩
abbrev specV (s : SpecM) : Value := .agg #[.string ⟨s.name.toArray⟩, .int .i64 s.arity, .bool s.write, .bool s.control, .int .i64 s.first, .int .i64 s.last, .int .i64 s.step]
def FindDid (w : World) (r : Option SpecM) (e : Ending) (w' : World) : Prop := e = .returned (.tuple #[specV (r.getD spec0), .bool r.isSome]) ∧ Below w.heap.size w w'
theorem vw_spec {A : Nat → Prop} {w : World} {v : Value} {L : List SpecM} (h : Vw A w v 7 L.length (specsC L)) {k : Nat} {y : SpecM} (hy : L[k]? = some y) : ∃ b off cap, v = .slice (some ⟨b, off, none⟩) L.length cap ∧ L.length ≤ cap ∧
    w.cell? ⟨b, off + k * 7, none⟩ = some (.string ⟨y.name.toArray⟩) ∧ w.cell? ⟨b, off + k * 7 + 1, none⟩ = some (.int .i64 y.arity) ∧ w.cell? ⟨b, off + k * 7 + 2, none⟩ = some (.bool y.write) ∧ w.cell? ⟨b, off + k * 7 + 3, none⟩ = some (.bool y.control) ∧
    w.cell? ⟨b, off + k * 7 + 4, none⟩ = some (.int .i64 y.first) ∧ w.cell? ⟨b, off + k * 7 + 5, none⟩ = some (.int .i64 y.last) ∧ w.cell? ⟨b, off + k * 7 + 6, none⟩ = some (.int .i64 y.step) := by
  obtain ⟨⟨a, cap, rfl, h1, h2, h3⟩, h4⟩ := h
  have hk : k < L.length := (List.getElem?_eq_some_iff.1 hy).1
  rcases h3 with h3 | ⟨b, off, rfl, _, _, hc⟩
  · omega
  have hg : ∀ j, j < 7 → (specsC L)[k * 7 + j]? = (specC y)[j]? := by
    intro j hj
    rw [specsC_get]
    have e1 : (k * 7 + j) / 7 = k := by omega
    have e2 : (k * 7 + j) % 7 = j := by omega
    rw [dif_pos (by omega)]
    rw [List.getElem?_eq_getElem hk] at hy
    cases hy
    simp only [e1, e2]
  have hcc : ∀ j u, j < 7 → (specC y)[j]? = some u → w.cell? ⟨b, off + k * 7 + j, none⟩ = some u := fun j u hj hu => by
    rw [Nat.add_assoc]; exact hc _ u (by rw [hg j hj]; exact hu)
  exact ⟨b, off, cap, rfl, h1, hcc 0 _ (by decide) rfl, hcc 1 _ (by decide) rfl, hcc 2 _ (by decide) rfl, hcc 3 _ (by decide) rfl, hcc 4 _ (by decide) rfl, hcc 5 _ (by decide) rfl, hcc 6 _ (by decide) rfl⟩
set_option maxRecDepth 10000 in
theorem find_res {Wf : World} {R : Nat} {tmps : Array Value} {s : SpecM} {ok : Bool} (h2 : tmps[2]?.getD undef = .pointer (some ⟨R, 0, none⟩)) (h3 : tmps[3]?.getD undef = .bool ok) (c0 : Wf.cell? ⟨R, 0, none⟩ = some (.string ⟨s.name.toArray⟩)) (c1 : Wf.cell? ⟨R, 1, none⟩ = some (.int .i64 s.arity)) (c2 : Wf.cell? ⟨R, 2, none⟩ = some (.bool s.write))
    (c3 : Wf.cell? ⟨R, 3, none⟩ = some (.bool s.control)) (c4 : Wf.cell? ⟨R, 4, none⟩ = some (.int .i64 s.first)) (c5 : Wf.cell? ⟨R, 5, none⟩ = some (.int .i64 s.last)) (c6 : Wf.cell? ⟨R, 6, none⟩ = some (.int .i64 s.step)) :
    (results Tryz.f96 tmps).run Tryz.prog Wf = .ok (.tuple #[specV s, .bool ok]) Wf := by
  simp [results, Tryz.results96, go_sem, h2, h3, c0, c1, c2, c3, c4, c5, c6]
def FindRel (W : World) (L : List SpecM) (x : List UInt8) (v i : Value) (wr : World) : Prop :=
  ∃ k : Nat, k ≤ L.length ∧ i = .int .i64 (k : Int) ∧ Below W.heap.size W wr ∧ Vw (fun _ => True) wr v 7 L.length (specsC L) ∧ ∀ (j : Nat) y, j < k → L[j]? = some y → y.name ≠ x
set_option maxRecDepth 10000 in
set_option maxHeartbeats 2000000 in
theorem find_ok (nm : List UInt8) (w : World) (hn : nm.length ≤ 1099511627776) : Calls Tryz.prog 96 #[txt nm] w (FindDid w (specOf (lowL nm))) := by
  obtain ⟨W, hW⟩ : ∃ W, W = w.alloc (.cells #[.string ⟨#[]⟩, .int .i64 0, .bool false, .bool false, .int .i64 0, .int .i64 0, .int .i64 0] 147) := ⟨_, rfl⟩
  have hB0 : Below w.heap.size w W := by rw [hW]; exact (Below.refl _ _).alloc (Nat.le_refl _) _
  have hR0 : Blk none0 W [] w.heap.size #[.string ⟨#[]⟩, .int .i64 0, .bool false, .bool false, .int .i64 0, .int .i64 0, .int .i64 0] 147 := ⟨by rw [hW]; exact heap_alloc_new w _, rfl⟩
  have hzW : W.heap.size = w.heap.size + 1 := by rw [hW]; simp
  have HLO := Lib.hid (lower_ok nm W hn)
  have HB0 := Lib.hid hB0
  have HR0 := Lib.hid hR0
  have HZ := Lib.hid hzW
  clear hB0 hR0 hzW
  unfold txt at *
  go_enter Tryz.func96, Tryz.ntmps96
  go_wp2_with fail
  rw [← hW]
  clear hW
  refine HLO.out.mono ?_; rintro e w1 ⟨rfl, hB1⟩
  have HB1 := Lib.hid hB1
  clear hB1 HLO
  generalize lowL nm = x at *
  go_wp2_with fail
  refine (all_ok _).mono ?_; rintro e w2 ⟨v, L, rfl, hp, hv, hB2⟩
  have hL : L.length = 118 := by rw [hp.length_eq]; decide
  rw [← hL] at hv
  have hB2' : Below W.heap.size W w2 := HB1.out.trans (hB2.mono HB1.out.size)
  obtain ⟨av, cv, rfl, _⟩ := id hv.slice
  have hat : FindRel W L x (.slice av L.length cv) (.int .i64 0) w2 := ⟨0, Nat.zero_le _, rfl, hB2', hv.imp (fun _ _ => trivial), fun j y hj => absurd hj (Nat.not_lt_zero _)⟩
  have HP := Lib.hid hp
  clear hp hv hB2 HB1 hB2'
  go_wp2_with fail
  go_loopw [10] (fun i wr => FindRel W L x (.slice av L.length cv) i wr) (fun i _ => L.length - (intOf i).toNat)
  case atStart => exact hat
  case round =>
    obtain ⟨k, hk, rfl, hB, hv, hno⟩ := hrel
    clear hat
    have hR := HR0.out.below hB
    by_cases hkl : k < L.length
    · obtain ⟨y, hy⟩ : ∃ y, L[k]? = some y := ⟨_, List.getElem?_eq_getElem hkl⟩
      obtain ⟨b, off, cap, hve, hcap, c0, c1, c2, c3, c4, c5, c6⟩ := vw_spec hv hy
      injection hve with e1 e2 e3
      subst e1
      have HV := Lib.hid hv
      have HB := Lib.hid hB
      have HR := Lib.hid hR
      have HNO := Lib.hid hno
      have HY := Lib.hid hy
      have hkI : (0 : Int) ≤ k ∧ (k : Int) < L.length := by omega
      obtain ⟨hk0, hk1⟩ := hkI
      clear hv hB hR hno hy e2
      by_cases hxy : y.name = x
      · have D := Lib.hid (specOf_some HP.out HY.out)
        rw [hxy] at D
        have hz := HR.out.cell
        have hzf := HR.out.free
        have hlt := HR.out.lt
        obtain ⟨name, arity, write, control, first, last, step⟩ := y
        dsimp only at c0 c1 c2 c3 c4 c5 c6 hxy
        subst hxy
        go_wp2_with fail
        refine bodyPost_ret (find_res (R := w.heap.size) (s := ⟨name, arity, write, control, first, last, step⟩) (ok := true) rfl rfl ?_ ?_ ?_ ?_ ?_ ?_ ?_) rfl ⟨by rw [D.out]; rfl, ?_⟩
        iterate 7 (rw [World.cell?_alloc_lt _ _ _ (by simpa using hlt)]; simp [go_sem, hz])
        have hB2 : Below w.heap.size w wr := HB0.out.trans (HB.out.mono (by rw [HZ.out]; omega))
        have hsz := hB2.size
        refine Below.alloc ?_ (by simpa using hsz) _
        iterate 7 refine Below.setCell ?_ (by simp) _
        exact hB2
      · have hd : (y.name == x) = false := by simpa using hxy
        have hHB := HB.out.size
        have D := Lib.hid (show FindRel W L x (.slice (some ⟨b, off, none⟩) L.length cv) (.int .i64 ((k + 1 : Nat) : Int)) (wr.alloc (.cells #[.string ⟨y.name.toArray⟩, .int .i64 y.arity, .bool y.write, .bool y.control, .int .i64 y.first, .int .i64 y.last, .int .i64 y.step] 147)) from
          ⟨k + 1, hkl, rfl, HB.out.alloc HB.out.size _, HV.out.below ((Below.refl _ _).alloc (Nat.le_refl _) _), fun j z hj hz => by
            rcases Nat.lt_or_ge j k with h | h
            · exact HNO.out j z h hz
            · obtain rfl : j = k := by omega
              rw [HY.out] at hz
              cases hz
              exact hxy⟩)
        clear HV HB HR HNO HY hxy
        go_wp2_with fail
        go_roundw
        case rel => exact D.out
        case measure => simp [intOf]; omega
    · obtain rfl : k = L.length := by omega
      have D := Lib.hid (specOf_none HP.out (fun y hy => by
        obtain ⟨j, hj, e⟩ := List.mem_iff_getElem.1 hy
        exact hno j y hj (by rw [List.getElem?_eq_getElem hj, e])))
      have hz := hR.cell
      have hzf := hR.free
      have hB2 : Below w.heap.size w wr := HB0.out.trans (hB.mono (by rw [HZ.out]; omega))
      have HB2 := Lib.hid hB2
      clear hB hv hno hR hB2
      go_wp2_with fail
      refine bodyPost_ret (v := .tuple #[specV spec0, .bool false]) (by simp [results, Tryz.results96, go_sem, hz, spec0]) rfl ⟨by rw [D.out]; rfl, ?_⟩
      have hB2 := HB2.out
      iterate 7 refine Below.setCell ?_ (by simp) _
      exact hB2
end Go.Proofs.YthojmgjgmbnopaaGreatDoor
namespace Go.Proofs.YthojmgjgmbnopaaGreatDoor
open Go Go.RowKit
/-! table.Check: a request that is one. -/
set_option maxRecDepth 10000 in
set_option maxHeartbeats 1000000 in
theorem check_ok {A : Nat → Prop} {w : World} {v : Value} {nm : List UInt8} {rest : List (List UInt8)} {s : SpecM} (h : Vw A w v 1 (nm :: rest).length ((nm :: rest).map txt)) (hn : nm.length ≤ 1099511627776) (hs : specOf (lowL nm) = some s)
    (ha : (0 ≤ s.arity ∧ ((nm :: rest).length : Int) = s.arity) ∨ (s.arity < 0 ∧ - s.arity ≤ ((nm :: rest).length : Int))) (hl : (nm :: rest).length ≤ 1099511627776) (hb : -9223372036854775808 < s.arity) :
    Calls Tryz.prog 61 #[v] w fun e w' => e = .returned (.string ⟨#[]⟩) ∧ Below w.heap.size w w' := by
  have HF := Lib.hid (find_ok nm w hn)
  rw [hs] at HF
  obtain ⟨⟨a, cap, rfl, h1, h2, h3⟩, h4⟩ := h
  rcases h3 with h3 | ⟨b, off, rfl, g2, g3, g4⟩
  · simp at h3
  have c0 : w.cell? ⟨b, off, none⟩ = some (.string ⟨nm.toArray⟩) := g4 0 (txt nm) rfl
  generalize hN : (nm :: rest).length = n at *
  have hn1 : 1 ≤ n := by rw [← hN]; simp
  have e0 : ((n : Int) == 0) = false := beq_eq_false_iff_ne.2 (by omega)
  have ew : IntKind.i64.wrap (- s.arity) = - s.arity := by rw [IntKind.wrap_i64]; omega
  obtain ⟨name, arity, write, control, first, last, step⟩ := s
  dsimp only at ha ew hb
  unfold FindDid at HF
  simp only [Option.getD_some, Option.isSome_some] at HF
  clear h4 g4 hs hN hn h1 h2 hb
  unfold txt at HF
  have dn : (n != 0) = true := by simp; omega
  rcases ha with ⟨ha1, ha2⟩ | ⟨ha1, ha2⟩
  · have d1 : decide (0 ≤ arity) = true := decide_eq_true ha1
    have d2 : ((n : Int) != arity) = false := by simp [ha2]
    have d3 : decide (arity < 0) = false := decide_eq_false (by omega)
    clear ha1 ha2
    go_enter Tryz.func61, Tryz.ntmps61
    go_wp2_with fail
    refine HF.out.mono ?_; rintro e w2 ⟨rfl, hB⟩
    have HB := Lib.hid hB
    clear hB
    go_wp2_with fail
    go_ret
    exact ⟨rfl, HB.out.alloc HB.out.size _⟩
  · have d1 : decide (0 ≤ arity) = false := decide_eq_false (by omega)
    have d3 : decide (arity < 0) = true := decide_eq_true ha1
    have d4 : decide ((n : Int) < - arity) = false := decide_eq_false (by omega)
    clear ha1 ha2
    go_enter Tryz.func61, Tryz.ntmps61
    go_wp2_with fail
    refine HF.out.mono ?_; rintro e w2 ⟨rfl, hB⟩
    have HB := Lib.hid hB
    clear hB
    go_wp2_with fail
    go_ret
    exact ⟨rfl, HB.out.alloc HB.out.size _⟩
end Go.Proofs.YthojmgjgmbnopaaGreatDoor
