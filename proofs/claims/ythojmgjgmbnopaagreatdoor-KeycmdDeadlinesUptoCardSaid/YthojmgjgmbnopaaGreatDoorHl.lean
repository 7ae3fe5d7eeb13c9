import Derived.Test.YthojmgjgmbnopaaGreatDoorHk
import Derived.Test.YthojmgjgmbnopaaGreatDoorXG
import Derived.Deep.RegionHeld
namespace Go.Proofs.YthojmgjgmbnopaaGreatDoor
open Go Go.RowKit
/-! keycmd: dbsize; scan with a cursor that may not be. -/
abbrev dbsizeB : Tx := [100, 98, 115, 105, 122, 101]
abbrev cursErr : Tx := [69, 82, 82, 32, 116, 104, 101, 32, 99, 117, 114, 115, 111, 114, 32, 109, 97, 121, 32, 110, 111, 116, 32, 98, 101]
section
variable {o : Roles} {w : World} {q : List Nat} {p : Nat} {c : Cnt} {S : SP} {cb : Nat} {ρ : List Nat} {now : Int} {sv : Value} {nm : Tx}
set_option maxRecDepth 10000 in
set_option maxHeartbeats 4000000 in
theorem kdbsize_ok (h : SpJ o w q p S c) (hq : q ≠ []) (hcb : Blk o w ρ cb (callC p now dbsizeB sv) 112) (hv : Vw (Old w) w sv 1 0 [])
    {Ks K : List Tx} (hK : ∀ k, S k ≠ none → k ∈ Ks) (hn : Ks.length ≤ 1099511627776) (ha : Asc K) (hm : ∀ x, x ∈ K ↔ (S.at now x).isSome = true) :
    Calls Tryz.prog 71 #[.pointer (some ⟨cb, 0, none⟩)] w (RepJ o w q p S c ⟨3, [], (K.length : Int)⟩) := by
  obtain ⟨o1, m1, hbg, hj⟩ := begin_roles h hq
  have hfr0 := Fj.begin hbg hj hcb
  have hcc := hcb.cell
  have hcl := hcb.lt
  obtain ⟨a0, cap, rfl, hcap, _, _⟩ := id hv.slice
  have HF := Lib.hid hfr0
  have HBG := Lib.hid hbg
  have HL := Lib.hid (fun (W : World) (hW : Below (w.alloc (.cells zRepC 30)).heap.size (w.alloc (.cells zRepC 30)) W) => jlen_is (hfr0.sp.below hW) hK hn ha hm)
  have HC := Lib.hid (fun (W : World) (hW : Below w.heap.size w W) => show W.cell? ⟨cb, 0, none⟩ = some (.pointer (some ⟨p, 0, none⟩)) ∧ W.cell? ⟨cb, 1, none⟩ = some (.int .i64 now) from ⟨(hcb.below hW).cell 0, (hcb.below hW).cell 1⟩)
  have HA := Lib.hid (lit_below0 w (.cells zRepC 30))
  have hkl : (K.length : Int) = (K.length : Int) := rfl
  unfold LenDid at HL
  generalize K.length = n at *
  clear h hcb hv hbg hj hfr0 hkl ha hm hK hn
  go_enter Tryz.func71, Tryz.ntmps71
  go_wp2_with fail
  go_region_held (fun W => W.cell? ⟨cb, 0, none⟩ = some (.pointer (some ⟨p, 0, none⟩)) ∧ W.cell? ⟨cb, 1, none⟩ = some (.int .i64 now))
      (refine HC.out _ ?_ <;> (repeat (first | exact Below.refl _ _ | exact HA.out | exact HB2.out | exact HB3.out | refine Below.drew ?_ | refine below_drewN ?_ _ | refine Below.setCell ?_ (by exact Nat.le_refl _) _)) <;> done) (first
      | (go_at_call 137
         (with_reducible refine (HL.out _ (by (repeat (first | exact Below.refl _ _ | refine Below.drew ?_ | refine below_drewN ?_ _ | refine Below.alloc ?_ (by first | exact Nat.le_refl _ | simp | (simp; omega)) _)); done)).mono ?_)
         rintro e w2 ⟨rfl, hB2⟩
         have hB20 : Below (w.alloc (.cells zRepC 30)).heap.size (w.alloc (.cells zRepC 30)) w2 := Below.trans (by (repeat (first | exact Below.refl _ _ | refine Below.drew ?_ | refine below_drewN ?_ _ | refine Below.alloc ?_ (by first | exact Nat.le_refl _ | simp | (simp; omega)) _)); done) (hB2.mono (by simp))
         have HF2 := Lib.hid (HF.out.below hB20)
         have HB2 := Lib.hid (HA.out.trans (hB20.mono HA.out.size))
         clear hB2 hB20)
      | (go_at_call 127
         (with_reducible refine (kint_ok _ _).mono ?_)
         rintro e w3 ⟨rfl, hB3⟩
         have hB30 : Below w2.heap.size w2 w3 := Below.trans (by (repeat (first | exact Below.refl _ _ | refine Below.drew ?_ | refine below_drewN ?_ _ | refine Below.alloc ?_ (by first | exact Nat.le_refl _ | simp | (simp; omega)) _)); done) (hB3.mono (by simp))
         have HB3 := Lib.hid (show Below w.heap.size w w3 from HB2.out.trans (hB30.mono HB2.out.size))
         have HF3 := Lib.hid (HF2.out.below hB30)
         have hrc := HF3.out.res.cell
         have hrf := HF3.out.res.free
         clear hB3 hB30))
  all_goals (
    clear HL HC HF
    go_wp2_with fail
    obtain ⟨hj9, hs9⟩ := HF3.out.fin HBG.out (.int .i64 3) (.string ⟨#[]⟩) (.int .i64 (n : Int)) (.slice none 0 0)
    exact bodyPost_ret (v := repV 3 [] (n : Int) (.slice none 0 0)) (by simp [results, Tryz.results71, go_sem, hrc]) rfl ⟨rfl, o1, hj9, hs9⟩)
end
end Go.Proofs.YthojmgjgmbnopaaGreatDoor
