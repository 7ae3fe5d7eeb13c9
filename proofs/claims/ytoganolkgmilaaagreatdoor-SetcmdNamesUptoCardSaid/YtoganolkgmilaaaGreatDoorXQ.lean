import Derived.Test.YtoganolkgmilaaaGreatDoorXK
import Derived.Test.YtoganolkgmilaaaGreatDoorXN
import Derived.Test.YtoganolkgmilaaaGreatDoorXP
namespace Go.Proofs.YtoganolkgmilaaaGreatDoor
open Go Go.RowKit
/-! Run. -/
abbrev sscanB : Tx := [115, 115, 99, 97, 110]
/-- Which function serves which command. -/
def Goes (low : Tx) (F : FuncId) : Prop := (F = 43 ∧ (low = saddB ∨ low = sremB)) ∨ (F = 44 ∧ (low = scardB ∨ low = sismemberB ∨ low = smismemberB ∨ low = smembersB)) ∨ (F = 45 ∧ low = spopB) ∨ (F = 46 ∧ low = smoveB) ∨ (F = 52 ∧ low = sscanB)
/-- A request that is one, by the table. -/
def Fits (low : Tx) (n : Nat) : Prop := ∃ s, specOf low = some s ∧ ((0 ≤ s.arity ∧ (n : Int) = s.arity) ∨ (s.arity < 0 ∧ - s.arity ≤ (n : Int))) ∧ -9223372036854775808 < s.arity
def RunR (o1 : Roles) (w : World) (m p : Nat) (low : Tx) (sv : Value) (s8 : Value) (wx : World) : Prop :=
  ∃ g, s8 = .pointer (some ⟨g, 0, none⟩) ∧ Below (w.alloc (.cells zRepC 29)).heap.size (w.alloc (.cells zRepC 29)) wx ∧ Blk o1 wx [m + 2] g (callC p 0 low sv) 93
section
variable {o : Roles} {w : World} {q : List Nat} {p : Nat} {c : Cnt} {S : SP}
set_option maxRecDepth 10000 in
set_option maxHeartbeats 20000000 in
theorem lRun_ok (h : SpJ o w q p S c) (hq : q ≠ []) {nm low : List UInt8} {args : List (List UInt8)} {sv : Value} (hv : Vw (Old w) w sv 1 (args.length + 1) ((nm :: args).map txt)) (hlow : lowL nm = low) (hn : nm.length ≤ 1099511627776) (hl : args.length + 1 ≤ 1099511627776) (hne : 0 < args.length)
    (hft : Fits low (args.length + 1)) {F : FuncId} (hg : Goes low F) {r : RP} {K : SP → Cnt → Prop} (hs : Serves F w q p S c low args r K) :
    Calls Tryz.prog 26 #[.pointer (some ⟨p, 0, none⟩), .int .i64 0, sv] w (RunDid o w q p r K) := by
  obtain ⟨o1, m, hbg, hj⟩ := begin_roles h hq
  obtain ⟨s, hsp, hsa, hsb⟩ := hft
  obtain ⟨b, off, cap, a', c', rfl, hk, hbl, hvt, hsl⟩ := vw_rest hv
  replace hbl : b < w.heap.size := hbl
  have HCK := Lib.hid (check_ok (hv.below hbg.res.2) hn (by rw [hlow]; exact hsp) hsa hl hsb)
  have HLO := Lib.hid (fun W => lower_ok nm W hn)
  have HV := Lib.hid hvt
  have HBG := Lib.hid hbg
  have HJ := Lib.hid hj
  have HS := Lib.hid hs
  have HB1 := Lib.hid hbg.res.2
  have HR1 := Lib.hid hbg.res.1
  have HG := Lib.hid hg
  rw [hlow] at HLO
  clear h hbg hj hs hv hvt hsp hsa hsb hg hlow
  unfold txt at HLO
  have hn2 : 1 < args.length + 1 := by omega
  have hn3 : ((args.length + 1 : Nat) : Int) = ((args.length + 1 : Nat) : Int) := rfl
  generalize args.length + 1 = N at *
  clear hn3
  have hn1 : 0 < N := by omega
  go_enter Tryz.func26, Tryz.ntmps26
  go_wp2_with fail
  refine HCK.out.mono ?_; rintro e w2 ⟨rfl, hB2⟩
  have HB2 := Lib.hid hB2
  have hB02 := HB1.out.trans (hB2.mono HB1.out.size)
  have hk2 : w2.cell? ⟨b, off, none⟩ = some (.string ⟨nm.toArray⟩) := by rw [(bcell hB02).1 _ _ hbl]; exact hk
  clear hB2 hk hB02 HCK
  go_upto_region 3 with fail
  go_cut [8] from 8 to 32 (fun s8 wx => RunR o1 w m p low (.slice a' args.length c') s8 wx)
  case first =>
    go_region_with (
      go_at_call 42
      (with_reducible refine (HLO.out _).mono ?_)
      rintro e w3 ⟨rfl, hB3⟩
      have hB03 := HB2.out.trans (((Below.refl _ w2).drew.trans hB3).mono HB2.out.size)
      have HB3 := Lib.hid hB03
      clear hB3 hB03)
    all_goals (
      have D : RunR o1 w m p low (.slice a' args.length c') (.pointer (some ⟨w3.heap.size, 0, none⟩)) (w3.alloc (.cells (callC p 0 low (.slice a' args.length c')) 93)) :=
        ⟨_, rfl, HB3.out.alloc HB3.out.size _, heap_alloc_new _ _, HBG.out.new _ (by have := HB3.out.size; rw [World.size_alloc] at this; omega)⟩
      have HD := Lib.hid D
      clear D HB3 HLO HV HBG HJ HS HB1 HB2 HR1 HG hsl hk2
      rw [show (max (0 : Int) (min 0 9007199254740992)) = 0 from by decide]
      go_wp2_with fail
      go_meet
      exact HD.out)
  case rest =>
    obtain ⟨g, rfl, hB4, hcb⟩ := hcut
    have hB4 := hB4
    have hr4 := HR1.out.below hB4
    have hB4 := HB1.out.trans (hB4.mono HB1.out.size)
    have hv4 := (HV.out.below hB4).imp (B := Old wc) (fun b hb => Nat.lt_of_lt_of_le hb hB4.size)
    have HC := Lib.hid (HS.out o1 _ g (m + 2) _ (HJ.out.below hB4) (HBG.out.aq 2).not hB4 hcb hv4)
    have hcc := hcb.cell
    have HB4 := Lib.hid hB4
    have HR4 := Lib.hid hr4
    clear hv4 hB4 hr4 hcb hsl hk2 HLO HV HS HB2 HR1
    obtain ⟨kind, text, rn, list⟩ := r
    unfold RepL at HC
    dsimp only at HC
    rcases HG.out with ⟨rfl, rfl | rfl⟩ | ⟨rfl, rfl | rfl | rfl | rfl⟩ | ⟨rfl, rfl⟩ | ⟨rfl, rfl⟩ | ⟨rfl, rfl⟩ <;> (
      clear HG
      go_wp2_with fail
      refine HC.out.mono ?_
      rintro e w5 ⟨v, rfl, hv5, o5, S5, c5, hj5, hK5, hs5⟩
      obtain ⟨a5, cap5, rfl, _⟩ := id hv5.slice
      have hr5 := HR4.out.keep hs5 (HBG.out.aq 2).not
      have hrc := hr5.cell
      have hrf := hr5.free
      have HV5 := Lib.hid hv5
      have HJ5 := Lib.hid hj5
      have HK5 := Lib.hid hK5
      have HR5 := Lib.hid hr5
      have hsz : w.heap.size < wc.heap.size := HR4.out.lt
      have HSZ := Lib.hid hsz
      have HS5 := Lib.hid ((HBG.out.st q).trans ((Stp.ofBelow q o1 HB4.out).trans hs5))
      clear hv5 hj5 hK5 hr5 hs5 hsz HC HR4 HB4 hcc
      go_wp2_with fail
      obtain ⟨hj7, hs7⟩ := HBG.out.stored HJ5.out HR5.out HS5.out (.int .i64 (kind : Int)) (.string ⟨text.toArray⟩) (.int .i64 rn) (.slice a5 list.length cap5)
      refine bodyPost_ret (v := .tuple #[repV kind text rn (.slice a5 list.length cap5), .bool true]) (by simp [results, Tryz.results26, go_sem, hrc]) rfl ⟨_, rfl, vw_four HV5.out HSZ.out, o5, S5, c5, hj7, HK5.out, hs7⟩)
end
end Go.Proofs.YtoganolkgmilaaaGreatDoor
