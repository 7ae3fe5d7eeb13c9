import Derived.Test.YthojmgjgmbnopaaGreatDoorJG
import Derived.Deep.RegionHeld
namespace Go.Proofs.YthojmgjgmbnopaaGreatDoor
open Go Go.RowKit
/-! Begun of any starts. -/
def BegAny (w : World) (L : List ST) (p x : Nat) (i : Value) (wr : World) : Prop :=
  ∃ (k : Nat) (o : Roles) (X : List EV), k ≤ L.length ∧ i = .int .i64 (k : Int) ∧ Stp [1] none0 w o wr ∧ SpJ o wr [1] p (begS (L.take k) zeroS).1 ⟨(begS (L.take k) zeroS).2, (begS (L.take k) zeroS).2⟩ ∧
    XsR o wr [2] x X (begS (L.take k) zeroS).2 ∧ Agree X (begS (L.take k) zeroS).1 ∧ X.length ≤ k
def BegunAny (w : World) (L : List ST) (e : Ending) (w' : World) : Prop :=
  ∃ p x o X, e = .returned (.tuple #[.pointer (some ⟨p, 0, none⟩), .pointer (some ⟨x, 0, none⟩)]) ∧ SpJ o w' [1] p (begS L zeroS).1 ⟨(begS L zeroS).2, (begS L zeroS).2⟩ ∧ XsR o w' [2] x X (begS L zeroS).2 ∧ Agree X (begS L zeroS).1 ∧ X.length ≤ L.length ∧ Stp [1] none0 w o w'
theorem begS_snoc (l : List ST) (s : ST) : begS (l ++ [s]) zeroS = if fitV s.v s.due = 0 then ((begS l zeroS).1.put s.key ⟨s.v, s.due, (begS l zeroS).2 + 1⟩, (begS l zeroS).2 + 1) else begS l zeroS := by
  rw [begS_app]; rfl
set_option maxRecDepth 10000 in
set_option maxHeartbeats 8000000 in
theorem begun_any {w : World} {L : List ST} {v : Value} (hv : Vw (Old w) w v 7 L.length (stC L)) (hok : StsOk (Old w) w L) (hn : L.length ≤ 1099511627) : Calls Tryz.prog 15 #[v] w (BegunAny w L) := by
  obtain ⟨av, cv, rfl, _⟩ := id hv.slice
  have HN := Lib.hid (jnew_ok none0 w [1])
  have HV := Lib.hid hv
  have HOK := Lib.hid hok
  clear hv hok
  go_enter Tryz.func15, Tryz.ntmps15
  go_wp2_with fail
  refine HN.out.mono ?_; rintro e w1 ⟨p, o1, rfl, hj, hst⟩
  have hat : BegAny w L p w1.heap.size (.int .i64 0) (w1.alloc (.cells (xsV (.slice none 0 0) 0) 79)) := by
    have s1 : Stp [2] o1 w1 (o1.put w1.heap.size [2]) (w1.alloc (.cells (xsV (.slice none 0 0) 0) 79)) := (Stp.refl _ _ _).alloc (r' := [2]) _ w1.heap.size rfl
    exact ⟨0, _, [], Nat.zero_le _, rfl, hst.hide s1 (fun b _ => by unfold none0; simp), hj.keep s1 (Apart.head (by decide) _ _), ⟨⟨_, Blk.new _ _ _ _ _ _ rfl, Vw.nil _ _ _⟩, fun e he => by simp at he, List.Pairwise.nil⟩, fun k => rfl, Nat.le_refl _⟩
  have HAT := Lib.hid hat
  clear hj hst HN hat
  go_wp2_with fail
  go_loopw [6] (fun i wr => BegAny w L p w1.heap.size i wr) (fun i _ => L.length - (intOf i).toNat)
  case atStart => exact HAT.out
  case round =>
    clear HAT
    generalize w1.heap.size = x at *
    obtain ⟨k, o, X, hk, rfl, hst, hj, hx, hag, hXl⟩ := hrel
    by_cases hkl : k < L.length
    · obtain ⟨s, hs⟩ : ∃ s, L[k]? = some s := ⟨_, List.getElem?_eq_getElem hkl⟩
      obtain ⟨b, off, c, e, _, hbl, _, hcs⟩ := vw_sts HV.out hs
      injection e with e1 e2 e3
      subst e1 e3
      obtain ⟨hv3, hsm⟩ := HOK.out s (List.mem_of_getElem? hs)
      have hB0 := hst.below0
      have HCS := Lib.hid (fun (W : World) (hW : Below w.heap.size w W) => show W.cell? ⟨b, off + k * 7, none⟩ = some (.string ⟨s.key.toArray⟩) ∧ W.cell? ⟨b, off + k * 7 + 1, none⟩ = some (.int .i64 s.v.kind) ∧ W.cell? ⟨b, off + k * 7 + 2, none⟩ = some (.string ⟨s.v.text.toArray⟩) ∧ W.cell? ⟨b, off + k * 7 + 3, none⟩ = some s.l ∧ W.cell? ⟨b, off + k * 7 + 4, none⟩ = some s.f ∧ W.cell? ⟨b, off + k * 7 + 5, none⟩ = some s.r ∧ W.cell? ⟨b, off + k * 7 + 6, none⟩ = some (.int .i64 s.due) from
        ⟨cell_below hW (hcs k s hs 0 _ rfl), cell_below hW (hcs k s hs 1 _ rfl), cell_below hW (hcs k s hs 2 _ rfl), cell_below hW (hcs k s hs 3 _ rfl), cell_below hW (hcs k s hs 4 _ rfl), cell_below hW (hcs k s hs 5 _ rfl), cell_below hW (hcs k s hs 6 _ rfl)⟩)
      have hbw : b < wr.heap.size := Nat.lt_of_lt_of_le hbl hB0.size
      obtain ⟨c0, c1, c2, c3, c4, c5, c6⟩ := HCS.out wr hB0
      have hnum := begS_le (L.take k) zeroS
      rw [List.length_take, Nat.min_eq_left hk] at hnum
      have hz : zeroS.2 = 0 := rfl
      have hsn : begS (L.take (k + 1)) zeroS = if fitV s.v s.due = 0 then ((begS (L.take k) zeroS).1.put s.key ⟨s.v, s.due, (begS (L.take k) zeroS).2 + 1⟩, (begS (L.take k) zeroS).2 + 1) else begS (L.take k) zeroS := by
        rw [List.take_add_one, hs]; exact begS_snoc _ _
      have HSN := Lib.hid hsn
      have hkI : (0 : Int) ≤ k ∧ (k : Int) < L.length := by omega
      obtain ⟨hk0, hk1⟩ := hkI
      have HV3 := Lib.hid (fun (W : World) (hW : Below w.heap.size w W) => hv3.below hW)
      have hA : ∀ b, Old w b → b ≠ p := fun b hb e => by
        have h1 := hj.role.1
        rw [← e, hst.old b hb] at h1
        unfold none0 at h1
        cases h1
      have HA := Lib.hid hA
      have HX := Lib.hid hx
      have HS := Lib.hid hst
      have HJ := Lib.hid hj
      have HAG := Lib.hid hag
      have HSM := Lib.hid hsm
      have HNUM := Lib.hid (show (begS (L.take k) zeroS).2 ≤ k from by omega)
      generalize begS (L.take k) zeroS = st at *
      clear hcs hs hv3 hsm hnum hz hsn hA hx hst hj hag
      have HB0 := Lib.hid hB0
      by_cases hf : fitV s.v s.due = 0
      · have HP := Lib.hid (fun W (hW : Below wr.heap.size wr W) => jput_fine (HJ.out.below hW) s.key (HV3.out W (HB0.out.trans (hW.mono HB0.out.size))) HSM.out HA.out hf (by have := HNUM.out; show st.2 ≤ _; omega) (by have := HNUM.out; show st.2 ≤ _; omega))
        have HF := Lib.hid hf
        obtain ⟨key, ⟨kind, text, list, fields, ranked⟩, due, l, f, r⟩ := s
        dsimp only at *
        unfold txt at HP
        clear hf hB0
        go_wp2_with fail
        have HA0 := Lib.hid (HCS.out _ (HB0.out.trans ((Below.refl _ wr).drew.mono HB0.out.size)))
        clear c0 c1 c2 c3 c4 c5 c6
        go_region_held (fun W => W.cell? ⟨b, off + k * 7, none⟩ = some (.string ⟨key.toArray⟩) ∧ W.cell? ⟨b, off + k * 7 + 1, none⟩ = some (.int .i64 kind) ∧ W.cell? ⟨b, off + k * 7 + 2, none⟩ = some (.string ⟨text.toArray⟩) ∧ W.cell? ⟨b, off + k * 7 + 3, none⟩ = some l ∧ W.cell? ⟨b, off + k * 7 + 4, none⟩ = some f ∧ W.cell? ⟨b, off + k * 7 + 5, none⟩ = some r ∧ W.cell? ⟨b, off + k * 7 + 6, none⟩ = some (.int .i64 due))
          (first | exact HA0.out | exact HA4.out | exact HA5.out) (first
          | (go_at_call 32
             (with_reducible refine (HP.out _ ((Below.refl _ wr).drew)).mono ?_)
             rintro e w4 ⟨rfl, o4, hj4, hs4⟩
             have hx4 := HX.out.keep (hs4.from1) (Apart.head (by decide) _ _)
             have hst4 := HS.out.trans (hs4.from1)
             have HA4 := Lib.hid (HCS.out _ hst4.below0)
             have HP2 := Lib.hid (xput_fine hx4 key (HV3.out w4 hst4.below0) HSM.out HF.out (by have := HNUM.out; omega) (by omega))
             unfold txt at HP2
             have HJ4 := Lib.hid hj4
             have HS4 := Lib.hid hst4
             clear hj4 hs4 hx4 hst4)
          | (go_at_call 59
             (with_reducible refine HP2.out.mono ?_)
             rintro e w5 ⟨rfl, o5, ev, hek, hev, hed, hevr, hx5, hs5⟩
             have hst5 := HS4.out.hide hs5 (fun b _ => by unfold none0; simp)
             have HA5 := Lib.hid (HCS.out _ hst5.below0)
             have hag5 := HAG.out.put ev
             unfold EV.hd at hag5
             rw [hek, hev, hed, hevr] at hag5
             have hl5 := putX_len X ev
             have D := Lib.hid (show BegAny w L p x (.int .i64 ((k + 1 : Nat) : Int)) w5 from ⟨k + 1, o5, putX X ev, hkl, rfl, hst5, by rw [HSN.out, if_pos HF.out]; exact HJ4.out.keep hs5 (Apart.head (by decide) _ _), by rw [HSN.out, if_pos HF.out]; exact hx5, by rw [HSN.out, if_pos HF.out]; exact hag5, by omega⟩)
             clear hs5 hst5 hx5 hag5 hl5 hek hev hed hevr))
        all_goals (
          clear HP HX HS HP2 HJ4 HS4 HCS HA0 HA4 HA5 HAG HJ
          go_wp2_with fail
          go_roundw
          case rel => exact D.out
          case measure => simp [intOf]; omega)
      · have HP := Lib.hid (fun W (hW : Below wr.heap.size wr W) => jput_bad (p := p) s.key (HV3.out W (HB0.out.trans (hW.mono HB0.out.size))) HSM.out hf)
        have HP2 := Lib.hid (fun W (hW : Below wr.heap.size wr W) => xput_bad (x := x) s.key (HV3.out W (HB0.out.trans (hW.mono HB0.out.size))) HSM.out hf)
        rw [if_neg hf] at HSN
        generalize fitV s.v s.due = fe at *
        obtain ⟨key, ⟨kind, text, list, fields, ranked⟩, due, l, f, r⟩ := s
        dsimp only at *
        unfold txt at HP HP2
        clear hf hB0
        go_wp2_with fail
        have HA0 := Lib.hid (HCS.out _ (HB0.out.trans ((Below.refl _ wr).drew.mono HB0.out.size)))
        clear c0 c1 c2 c3 c4 c5 c6
        go_region_held (fun W => W.cell? ⟨b, off + k * 7, none⟩ = some (.string ⟨key.toArray⟩) ∧ W.cell? ⟨b, off + k * 7 + 1, none⟩ = some (.int .i64 kind) ∧ W.cell? ⟨b, off + k * 7 + 2, none⟩ = some (.string ⟨text.toArray⟩) ∧ W.cell? ⟨b, off + k * 7 + 3, none⟩ = some l ∧ W.cell? ⟨b, off + k * 7 + 4, none⟩ = some f ∧ W.cell? ⟨b, off + k * 7 + 5, none⟩ = some r ∧ W.cell? ⟨b, off + k * 7 + 6, none⟩ = some (.int .i64 due))
          (first | exact HA0.out | exact HA4.out | exact HA5.out) (first
          | (go_at_call 32
             (with_reducible refine (HP.out _ ((Below.refl _ wr).drew)).mono ?_)
             rintro e w4 ⟨rfl, hB4⟩
             have HB4 := Lib.hid (show Below wr.heap.size wr w4 from (Below.refl _ wr).drew.trans hB4)
             have HA4 := Lib.hid (HCS.out _ (HB0.out.trans (HB4.out.mono HB0.out.size)))
             clear hB4)
          | (go_at_call 59
             (with_reducible refine (HP2.out _ HB4.out).mono ?_)
             rintro e w5 ⟨rfl, hB5⟩
             have hB05 := HB4.out.trans (hB5.mono HB4.out.size)
             have HA5 := Lib.hid (HCS.out _ (HB0.out.trans (hB05.mono HB0.out.size)))
             have D := Lib.hid (show BegAny w L p x (.int .i64 ((k + 1 : Nat) : Int)) w5 from ⟨k + 1, o, X, hkl, rfl, HS.out.trans (Stp.ofBelow [1] o hB05), by rw [HSN.out]; exact HJ.out.below hB05, by rw [HSN.out]; exact HX.out.below hB05, by rw [HSN.out]; exact HAG.out, by omega⟩)
             clear hB5 hB05))
        all_goals (
          clear HP HX HS HP2 HCS HA0 HA4 HA5 HAG HJ HB4
          go_wp2_with fail
          go_roundw
          case rel => exact D.out
          case measure => simp [intOf]; omega)
    · obtain rfl : k = L.length := by omega
      rw [List.take_length] at hj hx hag
      have D := Lib.hid (show BegunAny w L (.returned (.tuple #[.pointer (some ⟨p, 0, none⟩), .pointer (some ⟨x, 0, none⟩)])) wr from ⟨p, x, o, X, rfl, hj, hx, hag, hXl, hst⟩)
      clear hj hx hag hst
      go_wp2_with fail
      go_ret2
      exact D.out
end Go.Proofs.YthojmgjgmbnopaaGreatDoor
