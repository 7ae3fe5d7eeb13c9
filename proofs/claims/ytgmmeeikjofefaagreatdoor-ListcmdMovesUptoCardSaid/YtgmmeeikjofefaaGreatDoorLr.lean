import Derived.Test.YtgmmeeikjofefaaGreatDoorRn
import Derived.Test.YtgmmeeikjofefaaGreatDoorLf
namespace Go.Proofs.YtgmmeeikjofefaaGreatDoor
open Go Go.RowKit
/-! The law's run. -/
section
variable {o : Roles} {w : World} {q : List Nat} {p : Nat} {c : Cnt} {S : SP}
set_option maxRecDepth 10000 in
set_option maxHeartbeats 4000000 in
theorem lawrun_ok (h : SpJ o w q p S c) (hq : q ≠ []) {nm low : List UInt8} {args : List (List UInt8)} {sv : Value} (hv : Vw (Old w) w sv 1 (args.length + 1) ((nm :: args).map txt)) (hlow : lowL nm = low) (hn : nm.length ≤ 1099511627776) (hl : args.length + 1 ≤ 1099511627776) (hne : 0 < args.length)
    (hft : Fits low (args.length + 1)) {F : FuncId} (hg : Goes low F) {r : RP} {K : SP → Prop} (hs : Serves F w q p S c low args r K) :
    Calls Tryz.prog 13 #[.pointer (some ⟨p, 0, none⟩), sv] w (RepL o w q p c r K) := by
  obtain ⟨o1, m, hbg, hj⟩ := begin_roles h hq
  obtain ⟨a0, cap, rfl, _⟩ := id hv.slice
  have HRN := Lib.hid (lRun_ok (hj.below hbg.res.2) hq ((hv.below hbg.res.2).imp (fun b hb => Nat.lt_of_lt_of_le hb hbg.res.2.size)) hlow hn hl hne hft hg (r := r) (K := K)
    (fun o2 w2 cb m2 sv hj2 hm2 hB2 hcb hv2 => hs o2 w2 cb m2 sv hj2 hm2 (hbg.res.2.trans (hB2.mono hbg.res.2.size)) hcb hv2))
  have HBG := Lib.hid hbg
  have HR1 := Lib.hid hbg.res.1
  have HB1 := Lib.hid hbg.res.2
  clear h hbg hj hs hv hft hg hlow
  obtain ⟨kind, text, n, list⟩ := r
  unfold RunDid at HRN
  dsimp only at HRN
  go_enter Tryz.func13, Tryz.ntmps13
  go_wp2_with fail
  refine HRN.out.mono ?_; rintro e w2 ⟨v, rfl, hv, o2, S2, c2, hj2, hK2, hc2, hs2⟩
  obtain ⟨a2, cap2, rfl, _⟩ := id hv.slice
  have hB3 : Below w2.heap.size w2 (w2.alloc (.cells #[.int .i64 (kind : Int), .string ⟨text.toArray⟩, .int .i64 n, .slice a2 list.length cap2] 29)) := (Below.refl _ _).alloc (Nat.le_refl _) _
  have hr2 := (HR1.out.keep hs2 (HBG.out.aq 2).not).below hB3
  have hrc := hr2.cell
  have hrf := hr2.free
  have HJ3 := Lib.hid (hj2.below hB3)
  have HR3 := Lib.hid hr2
  have HV3 := Lib.hid (hv.below hB3)
  have HK := Lib.hid hK2
  have HC := Lib.hid hc2
  have HS3 := Lib.hid ((HBG.out.st q).trans ((Stp.ofBelow q o1 HB1.out).trans (hs2.trans (Stp.ofBelow q o2 hB3))))
  clear hv hj2 hK2 hc2 hs2 hB3 hr2 HRN
  go_wp2_with fail
  obtain ⟨hj7, hs7⟩ := HBG.out.stored HJ3.out HR3.out HS3.out (.int .i64 (kind : Int)) (.string ⟨text.toArray⟩) (.int .i64 n) (.slice a2 list.length cap2)
  refine bodyPost_ret (v := repV kind text n (.slice a2 list.length cap2)) (by simp [results, Tryz.results13, go_sem, hrc]) rfl ⟨_, rfl, ?_, o2, S2, c2, hj7, HK.out, HC.out, hs7⟩
  exact vw_four HV3.out (by simp)
/-- A world that a law has come to, and the space it made. -/
structure At (w0 : World) (o : Roles) (w : World) (p : Nat) (S : SP) (c : Cnt) (n : Nat) : Prop where
  sp : SpJ o w [1] p S c
  st : Stp [1] none0 w0 o w
  num : c.num ≤ n
theorem At.below {w0 w' : World} {n : Nat} (h : At w0 o w p S c n) (hB : Below w.heap.size w w') : At w0 o w' p S c n := ⟨h.sp.below hB, h.st.trans (Stp.ofBelow _ _ hB), h.num⟩
theorem At.since {w0 : World} {n : Nat} (h : At w0 o w p S c n) : Below w0.heap.size w0 w := h.st.below0
theorem At.vw {w0 : World} {n k sz : Nat} {v : Value} {xs : List Value} (h : At w0 o w p S c n) (hv : Vw (Old w0) w0 v sz k xs) : Vw (Old w) w v sz k xs := (hv.below h.since).imp (fun _ hb => Nat.lt_of_lt_of_le hb h.since.size)
/-- A reply, and where it leaves the law. -/
def RunAt (w0 : World) (w : World) (p : Nat) (n : Nat) (r : RP) (K : SP → Prop) (e : Ending) (w' : World) : Prop :=
  ∃ v, e = .returned (repV r.kind r.text r.n v) ∧ Vw (fun b => w.heap.size ≤ b) w' v 4 r.list.length (rfsC r.list) ∧ ∃ o' S' c', At w0 o' w' p S' c' (n + 2) ∧ K S' ∧ Below w0.heap.size w0 w'
theorem at_run {w0 : World} {n : Nat} (h : At w0 o w p S c n) {nm low : List UInt8} {args : List (List UInt8)} {sv : Value} (hv : Vw (Old w) w sv 1 (args.length + 1) ((nm :: args).map txt)) (hlow : lowL nm = low) (hn : nm.length ≤ 1099511627776) (hl : args.length + 1 ≤ 1099511627776) (hne : 0 < args.length)
    (hft : Fits low (args.length + 1)) {F : FuncId} (hg : Goes low F) {r : RP} {K : SP → Prop} (hs : Serves F w [1] p S c low args r K) :
    Calls Tryz.prog 13 #[.pointer (some ⟨p, 0, none⟩), sv] w (RunAt w0 w p n r K) := by
  refine (lawrun_ok h.sp (by decide) hv hlow hn hl hne hft hg hs).mono ?_
  rintro e w' ⟨v, rfl, hv', o', S', c', hj, hK, hc, hst⟩
  exact ⟨v, rfl, hv', o', S', c', ⟨hj, h.st.trans hst, by have := h.num; omega⟩, hK, (h.st.trans hst).below0⟩
end
theorem fits_rpush {n : Nat} (h : 3 ≤ n) : Fits rpushB n := ⟨⟨rpushB, -3, true, false, 1, 1, 1⟩, by decide +kernel, .inr ⟨by decide, by show (3 : Int) ≤ n; omega⟩, by decide⟩
theorem fits_lpush {n : Nat} (h : 3 ≤ n) : Fits lpushB n := ⟨⟨lpushB, -3, true, false, 1, 1, 1⟩, by decide +kernel, .inr ⟨by decide, by show (3 : Int) ≤ n; omega⟩, by decide⟩
theorem fits_lmove : Fits lmoveB 5 := ⟨⟨lmoveB, 5, true, false, 1, 2, 1⟩, by decide +kernel, .inl ⟨by decide, by decide⟩, by decide⟩
theorem fits_rpoplpush : Fits rpoplpushB 3 := ⟨⟨rpoplpushB, 3, true, false, 1, 2, 1⟩, by decide +kernel, .inl ⟨by decide, by decide⟩, by decide⟩
theorem fits_llen : Fits llenB 2 := ⟨⟨llenB, 2, false, false, 1, 1, 1⟩, by decide +kernel, .inl ⟨by decide, by decide⟩, by decide⟩
theorem fits_lrange : Fits lrangeB 4 := ⟨⟨lrangeB, 4, false, false, 1, 1, 1⟩, by decide +kernel, .inl ⟨by decide, by decide⟩, by decide⟩
end Go.Proofs.YtgmmeeikjofefaaGreatDoor
