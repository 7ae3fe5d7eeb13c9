import Derived.Test.YthojmgjgmbnopaaGreatDoorRr
import Derived.Test.YthojmgjgmbnopaaGreatDoorXP
import Derived.Lib.ConvBytes
namespace Go.Proofs.YthojmgjgmbnopaaGreatDoor
open Go Go.RowKit
/-! The document's Lower, Find. -/
set_option maxRecDepth 10000 in
set_option maxHeartbeats 1000000 in
theorem rlower_ok (s : List UInt8) (w : World) (hs : s.length ≤ 1099511627776) : Calls Tryz.prog 50 #[txt s] w fun e w' => e = .returned (txt (lowL s)) ∧ Below w.heap.size w w' := by
  have hsz : (⟨s.toArray⟩ : ByteArray).size = s.length := by simp [ByteArray.size]
  have hcv := Lib.run_convert_string_bytes (P := Tryz.prog) w 9 98 5 ⟨s.toArray⟩ Tryz.underlying9 Tryz.underlying98 Tryz.underlying5
  rw [hsz] at hcv
  have hat : LowRel w w.heap.size s (.int .i64 0) (Lib.bytesWorld w 5 ⟨s.toArray⟩) := by
    refine ⟨0, Nat.zero_le _, rfl, ⟨rfl, rfl, rfl, by rw [Lib.bytesWorld_size]; omega, fun b hb => Lib.bytesWorld_at_old w _ _ b hb⟩, by rw [Lib.bytesWorld_size]; omega, fun j x hj => ?_, fun j hj => ?_⟩
    · rw [lowAt_zero] at hj
      have hjl : j < s.length := (List.getElem?_eq_some_iff.1 hj).1
      rw [Lib.bytesWorld_cell w _ _ j (by rw [hsz]; exact hjl)]
      simp only [List.getD_eq_getElem?_getD]
      rw [hj]; rfl
    · unfold World.frozen?
      rw [Lib.bytesWorld_at_new]
      have hbs : s.length ≤ (Lib.bytesCells w 5 ⟨s.toArray⟩).size := by simp [Lib.bytesCells]
      simp
      omega
  generalize Lib.bytesWorld w 5 ⟨s.toArray⟩ = w1 at *
  generalize grownCap w s.length 0 5 = cap at *
  unfold txt
  go_enter Tryz.func50, Tryz.ntmps50
  go_wp2_with fail
  go_loopw [4] (fun i wr => LowRel w w.heap.size s i wr) (fun i _ => s.length - (intOf i).toNat)
  case atStart => exact hat
  case round =>
    obtain ⟨k, hk, rfl, hB, hl, hc, hf⟩ := hrel
    clear hat
    by_cases hkl : k < s.length
    · obtain ⟨x, hx⟩ : ∃ x, s[k]? = some x := ⟨_, List.getElem?_eq_getElem hkl⟩
      have hcell : wr.cell? ⟨w.heap.size, k, none⟩ = some (.int .u8 x.toNat) := hc k x (by rw [lowAt_get hkl]; exact hx)
      have hfr := hf k hkl
      have hxb := x.toNat_lt
      by_cases hup : 65 ≤ x ∧ x ≤ 90
      · have h1 : 65 ≤ x.toNat ∧ x.toNat ≤ 90 := by
          obtain ⟨h1, h2⟩ := hup
          rw [UInt8.le_iff_toNat_le] at h1 h2
          exact ⟨h1, h2⟩
        have d1 : decide ((65 : Int) ≤ x.toNat) = true := decide_eq_true (by omega)
        have d2 : decide ((x.toNat : Int) ≤ 90) = true := decide_eq_true (by omega)
        have e1 : IntKind.u8.wrap ((x.toNat : Int) + 32) = (x.toNat : Int) + 32 := by rw [IntKind.wrap_u8]; omega
        have hu : (Value.int .u8 ((x.toNat : Int) + 32)) = bv (lowB x) := by
          unfold bv lowB
          rw [if_pos hup, UInt8.toNat_add]
          congr 1
          have : (32 : UInt8).toNat = 32 := rfl
          rw [this]
          omega
        have D := Lib.hid (lowRel_next (Nat.le_refl _) hx hu hB hl hc hf)
        clear hB hc hf hx hu hup h1
        go_wp2_with fail
        go_roundw
        case rel => exact D.out
        case measure => simp [intOf]; omega
      · have hu : lowB x = x := if_neg hup
        have D := Lib.hid (lowRel_keep hx hu hB hl hc hf)
        have hd : decide ((65 : Int) ≤ x.toNat) = true → decide ((x.toNat : Int) ≤ 90) = false := by
          intro h
          have h3 := of_decide_eq_true h
          apply decide_eq_false
          intro h4
          exact hup ⟨by rw [UInt8.le_iff_toNat_le]; show 65 ≤ x.toNat; omega, by rw [UInt8.le_iff_toNat_le]; show x.toNat ≤ 90; omega⟩
        clear hB hc hf hx hu hup
        rcases hq : decide ((65 : Int) ≤ x.toNat) with _ | _
        · clear hd
          go_wp2_with fail
          go_roundw
          case rel => exact D.out
          case measure => simp [intOf]; omega
        · have hq2 := hd hq
          clear hd
          go_wp2_with fail
          go_roundw
          case rel => exact D.out
          case measure => simp [intOf]; omega
    · obtain rfl : k = s.length := by omega
      rw [lowAt_all] at hc
      have hcv := run_bytes_text wr w.heap.size cap (lowL s) hc s.length (by simp [lowL])
      have HB := Lib.hid hB
      clear hB hc hf
      go_wp2_with fail
      go_ret
      exact ⟨rfl, HB.out⟩
set_option maxRecDepth 10000 in
theorem rfind_res {Wf : World} {R : Nat} {tmps : Array Value} {s : SpecM} {ok : Bool} (h2 : tmps[2]?.getD undef = .pointer (some ⟨R, 0, none⟩)) (h3 : tmps[3]?.getD undef = .bool ok) (c0 : Wf.cell? ⟨R, 0, none⟩ = some (.string ⟨s.name.toArray⟩)) (c1 : Wf.cell? ⟨R, 1, none⟩ = some (.int .i64 s.arity)) (c2 : Wf.cell? ⟨R, 2, none⟩ = some (.bool s.write))
    (c3 : Wf.cell? ⟨R, 3, none⟩ = some (.bool s.control)) (c4 : Wf.cell? ⟨R, 4, none⟩ = some (.int .i64 s.first)) (c5 : Wf.cell? ⟨R, 5, none⟩ = some (.int .i64 s.last)) (c6 : Wf.cell? ⟨R, 6, none⟩ = some (.int .i64 s.step)) :
    (results Tryz.f172 tmps).run Tryz.prog Wf = .ok (.tuple #[specV s, .bool ok]) Wf := by
  simp [results, Tryz.results172, go_sem, h2, h3, c0, c1, c2, c3, c4, c5, c6]
set_option maxRecDepth 10000 in
set_option maxHeartbeats 4000000 in
theorem rfind_ok (nm : List UInt8) (w : World) (hn : nm.length ≤ 1099511627776) : Calls Tryz.prog 172 #[txt nm] w (FindDid w (specOf (lowL nm))) := by
  obtain ⟨W, hW⟩ : ∃ W, W = w.alloc (.cells #[.string ⟨#[]⟩, .int .i64 0, .bool false, .bool false, .int .i64 0, .int .i64 0, .int .i64 0] 147) := ⟨_, rfl⟩
  have hB0 : Below w.heap.size w W := by rw [hW]; exact (Below.refl _ _).alloc (Nat.le_refl _) _
  have hR0 : Blk none0 W [] w.heap.size #[.string ⟨#[]⟩, .int .i64 0, .bool false, .bool false, .int .i64 0, .int .i64 0, .int .i64 0] 147 := ⟨by rw [hW]; exact heap_alloc_new w _, rfl⟩
  have hzW : W.heap.size = w.heap.size + 1 := by rw [hW]; simp
  have HLO := Lib.hid (fun W => rlower_ok nm W hn)
  have HB0 := Lib.hid hB0
  have HR0 := Lib.hid hR0
  have HZ := Lib.hid hzW
  clear hB0 hR0 hzW
  unfold txt at *
  go_enter Tryz.func172, Tryz.ntmps172
  go_wp2_with fail
  rw [← hW]
  clear hW
  refine (rrows_ok _).mono ?_; rintro e w2 ⟨v, rfl, hv, hB2⟩
  have hp : rowsL.Perm allL := rows_perm
  have hL0 : (118 : Nat) = rowsL.length := by decide
  rw [hL0] at hv
  generalize rowsL = L at *
  generalize lowL nm = x at *
  have hLl : L.length ≤ 1000 := by omega
  obtain ⟨av, cv, rfl, _⟩ := id hv.slice
  have hat : FindRel W L x (.slice av L.length cv) (.int .i64 0) w2 := ⟨0, Nat.zero_le _, rfl, hB2, hv.imp (fun _ _ => trivial), fun j y hj => absurd hj (Nat.not_lt_zero _)⟩
  have HP := Lib.hid hp
  clear hp hv hB2 hL0
  go_wp2_with fail
  go_loopw [5] (fun i wr => FindRel W L x (.slice av L.length cv) i wr) (fun i _ => L.length - (intOf i).toNat)
  case atStart => exact hat
  case round =>
    obtain ⟨k, hk, rfl, hB, hv, hno⟩ := hrel
    clear hat
    by_cases hkl : k < L.length
    · obtain ⟨y, hy⟩ : ∃ y, L[k]? = some y := ⟨_, List.getElem?_eq_getElem hkl⟩
      obtain ⟨b, off, cap, hve, hcap, c0, c1, c2, c3, c4, c5, c6⟩ := vw_spec hv hy
      injection hve with e1 e2 e3
      subst e1 e3
      have hlb : b < wr.heap.size := World.block_lt_of_cell? _ _ c0
      have HC := Lib.hid (fun (W2 : World) (hW2 : Below wr.heap.size wr W2) => show W2.cell? ⟨b, off + k * 7, none⟩ = some (.string ⟨y.name.toArray⟩) ∧ W2.cell? ⟨b, off + k * 7 + 1, none⟩ = some (.int .i64 y.arity) ∧ W2.cell? ⟨b, off + k * 7 + 2, none⟩ = some (.bool y.write) ∧ W2.cell? ⟨b, off + k * 7 + 3, none⟩ = some (.bool y.control) ∧ W2.cell? ⟨b, off + k * 7 + 4, none⟩ = some (.int .i64 y.first) ∧ W2.cell? ⟨b, off + k * 7 + 5, none⟩ = some (.int .i64 y.last) ∧ W2.cell? ⟨b, off + k * 7 + 6, none⟩ = some (.int .i64 y.step) from ⟨by rw [(bcell hW2).1 _ _ hlb]; exact c0, by rw [(bcell hW2).1 _ _ hlb]; exact c1, by rw [(bcell hW2).1 _ _ hlb]; exact c2, by rw [(bcell hW2).1 _ _ hlb]; exact c3, by rw [(bcell hW2).1 _ _ hlb]; exact c4, by rw [(bcell hW2).1 _ _ hlb]; exact c5, by rw [(bcell hW2).1 _ _ hlb]; exact c6⟩)
      have HV := Lib.hid hv
      have HB := Lib.hid hB
      have HNO := Lib.hid hno
      have HY := Lib.hid hy
      have hkI : (0 : Int) ≤ k ∧ (k : Int) < L.length := by omega
      obtain ⟨hk0, hk1⟩ := hkI
      clear hv hB hno hy e2 c1 c2 c3 c4 c5 c6
      by_cases hxy : y.name = x
      · have D := Lib.hid (specOf_some HP.out HY.out)
        rw [hxy] at D
        subst hxy
        go_wp2_with fail
        go_region_with (
          go_at_call 50
          (with_reducible refine (HLO.out _).mono ?_)
          rintro e w3 ⟨rfl, hB3⟩
          have hB3' : Below wr.heap.size wr w3 := (Below.refl _ wr).drew.trans hB3
          have HB3 := Lib.hid hB3'
          obtain ⟨d0, d1, d2, d3, d4, d5, d6⟩ := HC.out w3 hB3'
          clear hB3 hB3')
        all_goals (
          have hR3 := HR0.out.below (HB.out.trans (HB3.out.mono HB.out.size))
          have hz := hR3.cell
          have hzf := hR3.free
          have hlt := hR3.lt
          have hB2 : Below w.heap.size w w3 := HB0.out.trans ((HB.out.trans (HB3.out.mono HB.out.size)).mono (by rw [HZ.out]; omega))
          have HB2 := Lib.hid hB2
          obtain ⟨name, arity, write, control, first, last, step⟩ := y
          dsimp only at d0 d1 d2 d3 d4 d5 d6 D
          clear hR3 hB2 HC HLO c0
          go_wp2_with fail
          refine bodyPost_ret (rfind_res (R := w.heap.size) (s := ⟨name, arity, write, control, first, last, step⟩) (ok := true) rfl rfl ?_ ?_ ?_ ?_ ?_ ?_ ?_) rfl ⟨by rw [D.out]; rfl, ?_⟩
          iterate 7 (simp [go_sem, hz])
          have hB2 := HB2.out
          iterate 7 refine Below.setCell ?_ (by simp) _
          exact hB2)
      · have hd : (y.name == x) = false := by simpa using hxy
        go_wp2_with fail
        go_region_with (
          go_at_call 50
          (with_reducible refine (HLO.out _).mono ?_)
          rintro e w3 ⟨rfl, hB3⟩
          have hB3' : Below wr.heap.size wr w3 := (Below.refl _ wr).drew.trans hB3
          obtain ⟨d0, _⟩ := HC.out w3 hB3'
          have D := Lib.hid (show FindRel W L x (.slice (some ⟨b, off, none⟩) L.length cv) (.int .i64 ((k + 1 : Nat) : Int)) w3 from
            ⟨k + 1, hkl, rfl, HB.out.trans (hB3'.mono HB.out.size), HV.out.below hB3', fun j z hj hz => by
              rcases Nat.lt_or_ge j k with h | h
              · exact HNO.out j z h hz
              · obtain rfl : j = k := by omega
                rw [HY.out] at hz
                cases hz
                exact hxy⟩)
          clear hB3 hB3')
        all_goals (
          clear HC HV HB HNO HY hxy HLO c0
          go_wp2_with fail
          go_roundw
          case rel => exact D.out
          case measure => simp [intOf]; omega)
    · obtain rfl : k = L.length := by omega
      have D := Lib.hid (specOf_none HP.out (fun y hy => by
        obtain ⟨j, hj, e⟩ := List.mem_iff_getElem.1 hy
        exact hno j y hj (by rw [List.getElem?_eq_getElem hj, e])))
      have hR := HR0.out.below hB
      have hz := hR.cell
      have hzf := hR.free
      have hB2 : Below w.heap.size w wr := HB0.out.trans (hB.mono (by rw [HZ.out]; omega))
      have HB2 := Lib.hid hB2
      clear hB hv hno hR hB2 HLO
      go_wp2_with fail
      refine bodyPost_ret (v := .tuple #[specV spec0, .bool false]) (by simp [results, Tryz.results172, go_sem, hz, spec0]) rfl ⟨by rw [D.out]; rfl, ?_⟩
      have hB2 := HB2.out
      iterate 7 refine Below.setCell ?_ (by simp) _
      exact hB2
end Go.Proofs.YthojmgjgmbnopaaGreatDoor
