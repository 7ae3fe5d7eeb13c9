import Derived.Test.YtgdgnpjgemcjgaaZS
namespace Go.Proofs.Ytgdgnpjgemcjgaa
open Go Go.RowKit
abbrev thingC (u : Value) (n x : Int) (f : List UInt8) : Array Value := #[u, .int .i64 n, .int .i64 x, .string ⟨f.toArray⟩]
def RThingDid (o : Roles) (w : World) (r : List Nat) (s : List UInt8) (at_ : Nat) (l : Lim) (e : Ending) (w' : World) : Prop :=
  ∃ o', Stp r o w o' w' ∧ ((e = .returned (.agg (thingC (.slice none 0 0) 0 0 [])) ∧ thingR l (s.drop at_) = .more) ∨ (∃ f, e = .returned (.agg (thingC (.slice none 0 0) 0 2 f)) ∧ thingR l (s.drop at_) = .fault f) ∨
  ∃ v ws n, e = .returned (.agg (thingC v (n : Nat) 1 [])) ∧ thingR l (s.drop at_) = .ok ws (s.drop n) ∧ Texts o' w' (r ++ [0] ++ [0]) v ws ∧ at_ < n ∧ n ≤ s.length)
theorem stp4 {r t : List Nat} {o o' : Roles} {w w1 : World} {B : Nat} (st : Stp r o w o' w1) (hb : o' B = r ++ t) (a b c d : Value) :
    Stp r o w o' ((((w1.setCell ⟨B, 0, none⟩ a).setCell ⟨B, 1, none⟩ b).setCell ⟨B, 2, none⟩ c).setCell ⟨B, 3, none⟩ d) := by
  have h : ∀ k, r <+: o' (⟨B, k, none⟩ : Addr).block := fun k => by show r <+: o' B; rw [hb]; exact List.prefix_append _ _
  exact (((st.setCell (h 0) a).setCell (h 1) b).setCell (h 2) c).setCell (h 3) d
theorem row4 {r : List Nat} {o : Roles} {w1 : World} {B : Nat} {v : Value} {ws : List (List UInt8)} (h : Texts o w1 r v ws) (hb : o B ≠ r) (a b c d : Value) :
    Texts o ((((w1.setCell ⟨B, 0, none⟩ a).setCell ⟨B, 1, none⟩ b).setCell ⟨B, 2, none⟩ c).setCell ⟨B, 3, none⟩ d) r v ws :=
  (((Row.setCell h ⟨B, 0, none⟩ a hb).setCell ⟨B, 1, none⟩ b hb).setCell ⟨B, 2, none⟩ c hb).setCell ⟨B, 3, none⟩ d hb
/-- What stands in memory while a thing is read: the limits and the answer's place. -/
structure RTh (o : Roles) (w : World) (r : List Nat) (B : Nat) (l : Lim) : Prop where
  lim : Blk o w (r ++ [5]) B #[.int .i64 l.bulk, .int .i64 l.args, .int .i64 l.line] 23
  res : Blk o w (r ++ [6]) (B + 1) (thingC (.slice none 0 0) 0 0 []) 84
section
variable {o o' : Roles} {w w' : World} {r : List Nat} {B : Nat} {l : Lim}
theorem RTh.below (h : RTh o w r B l) (hB : Below w.heap.size w w') : RTh o w' r B l := ⟨h.lim.below hB, h.res.below hB⟩
theorem RTh.keep (h : RTh o w r B l) {t : List Nat} (st : Stp (r ++ t) o w o' w') (h5 : ¬ t <+: [5]) (h6 : ¬ t <+: [6]) : RTh o' w' r B l := ⟨h.lim.keep st (np_app h5), h.res.keep st (np_app h6)⟩
theorem RTh.alloc (h : RTh o w r B l) (x : Obj) (t : List Nat) : RTh (o.put w.heap.size t) (w.alloc x) r B l := ⟨h.lim.alloc x _ t rfl, h.res.alloc x _ t rfl⟩
theorem RTh.drewN (h : RTh o w r B l) (k : Nat) : RTh o (w.drewN k) r B l := ⟨h.lim.drewN k, h.res.drewN k⟩
theorem RTh.start (o : Roles) (w : World) (r : List Nat) (l : Lim) :
    RTh ((o.put w.heap.size (r ++ [5])).put (w.heap.size + 1) (r ++ [6])) ((w.alloc (.cells #[.int .i64 l.bulk, .int .i64 l.args, .int .i64 l.line] 23)).alloc (.cells (thingC (.slice none 0 0) 0 0 []) 84)) r w.heap.size l ∧
    Stp r o w ((o.put w.heap.size (r ++ [5])).put (w.heap.size + 1) (r ++ [6])) ((w.alloc (.cells #[.int .i64 l.bulk, .int .i64 l.args, .int .i64 l.line] 23)).alloc (.cells (thingC (.slice none 0 0) 0 0 []) 84)) :=
  ⟨⟨(Blk.new o w (r ++ [5]) _ 23 _ rfl).alloc _ _ _ (by simp), Blk.new _ _ (r ++ [6]) _ 84 _ (by simp)⟩, ((Stp.refl r o w).alloc _ _ rfl).alloc _ _ (by simp)⟩
end
theorem size_alloc1 (w : World) (x : Obj) : (w.alloc x).heap.size = w.heap.size + 1 := by simp
theorem Stp.allocN {r : List Nat} {o o' : Roles} {w w' : World} (h : Stp r o w o' w') (x : Obj) : Stp r o w o' (w'.alloc x) := h.trans (Stp.ofBelow r o' ((Below.refl _ _).alloc (Nat.le_refl _) x))
theorem BulksI.more {l : Lim} {n : Nat} {s : List UInt8} {j0 j k : Nat} {acc : List (List UInt8)} (h : BulksI l n s j0 j k acc) (hk : k < n) (hw : bulkR l (s.drop j) = .more) : bulksR l n (s.drop j0) = .more := by
  obtain ⟨d, hd⟩ : ∃ d, n - k = d + 1 := ⟨n - k - 1, by omega⟩
  rw [h.2.2, hd, bulksR, hw]; rfl
theorem BulksI.fault {l : Lim} {n : Nat} {s f : List UInt8} {j0 j k : Nat} {acc : List (List UInt8)} (h : BulksI l n s j0 j k acc) (hk : k < n) (hw : bulkR l (s.drop j) = .fault f) : bulksR l n (s.drop j0) = .fault f := by
  obtain ⟨d, hd⟩ : ∃ d, n - k = d + 1 := ⟨n - k - 1, by omega⟩
  rw [h.2.2, hd, bulksR, hw]; rfl
def RBulksRel (o : Roles) (w : World) (r : List Nat) (B : Nat) (s : List UInt8) (j0 m : Nat) (l : Lim) (nx v i : Value) (wr : World) : Prop :=
  ∃ (j k : Nat) (acc : List (List UInt8)) (o' : Roles), nx = .int .i64 (j : Int) ∧ i = .int .i64 (k : Int) ∧ BulksI l m s j0 j k acc ∧ j0 ≤ j ∧ j ≤ s.length ∧ Texts o' wr (r ++ [0] ++ [0]) v acc ∧ RTh o' wr r B l ∧ Stp r o w o' wr

set_option maxRecDepth 10000 in
set_option maxHeartbeats 4000000 in
theorem rthing_array (o : Roles) (w : World) (r : List Nat) (s : List UInt8) (at_ : Nat) (l : Lim) (hlt : at_ < s.length) (hck : s[at_]? = some 42) (hs : s.length ≤ 1099511627776) (hl : LimOk l) :
    Calls Try.prog 43 #[limW l, .string ⟨s.toArray⟩, .int .i64 at_] w (RThingDid o w r s at_ l) := by
  have hsz : (⟨s.toArray⟩ : ByteArray).size = s.length := by simp [ByteArray.size]
  have HW := Lib.hid wrong_ok
  have hix := idx_ok hck
  have HL := Lib.hid (fun W => rline_ok s at_ l.line W (Nat.le_of_lt hlt) hs)
  have HX := Lib.hid (thingR_array (l := l) hck)
  have HCK := Lib.hid hck
  have hlb := Lib.hid hl
  obtain ⟨hT0, hS0⟩ := RTh.start o w r l
  have HT0 := Lib.hid hT0
  have HS0 := Lib.hid hS0
  clear hck hl hT0 hS0
  unfold limW limV
  go_enter Try.func43, Try.ntmps43
  go_wp2_with fail
  refine (HL.out _).mono ?_
  rintro e w0 ⟨rfl, (⟨rfl, hm⟩ | ⟨rfl, hm⟩ | ⟨t, n, rfl, hline, htn, hn⟩)⟩
  · have hE : thingR l (s.drop at_) = .more := by rw [HX.out, hm]
    clear hm hix
    go_wp2_with fail
    exact bodyPost_ret (v := .agg (thingC (.slice none 0 0) 0 0 [])) (by simp [results, Try.results43, go_sem]) rfl ⟨o, Stp.ofBelow r o (by repeat (first | exact Below.refl _ _ | refine Below.setCell ?_ (by simp) _ | refine Below.drew ?_ | refine below_drewN ?_ _ | refine Below.alloc ?_ (by simp) _)), .inl ⟨rfl, hE⟩⟩
  · have hE : thingR l (s.drop at_) = .fault wLine := by rw [HX.out, hm]
    clear hm hix
    go_wp2_with fail
    refine (HW.out wLine _).mono ?_; rintro e w1 ⟨rfl, hB⟩
    obtain ⟨hc, hf⟩ := bcell hB
    have HB := Lib.hid ((((Below.refl w.heap.size w).alloc (Nat.le_refl _) _).alloc (by simp) _).trans (hB.mono (by simp; omega)))
    clear hB
    unfold thingV
    go_wp2_with fail
    exact bodyPost_ret (v := .agg (thingC (.slice none 0 0) 0 2 wLine)) (by simp [results, Try.results43, go_sem, hc]) rfl ⟨o, Stp.ofBelow r o (by repeat (first | exact HB.out | refine Below.setCell ?_ (by simp) _)), .inr (.inl ⟨_, rfl, hE⟩)⟩
  · have htl := trim_len t
    have hcut : ∀ W, (Instr.slice 9 (.string ⟨(trim13 t).toArray⟩) (some (.int .i64 1)) none none).run Try.prog W = .ok (.string ⟨(trim13 t).tail.toArray⟩) W := cut_tail _ (by obtain ⟨r', hr'⟩ := trim_head (line_head HCK.out (by decide) hline) (by decide); rw [hr']; simp)
    have htt : (trim13 t).tail.length ≤ 1099511627776 := by simp; omega
    cases hcnt : countR l.args (trim13 t).tail with
    | none =>
      have HC := Lib.hid (fun W => rcount_none hcnt W (Nat.le_trans hlb.out.args.2 (by decide)) htt)
      have hE : thingR l (s.drop at_) = .fault wCount := by rw [HX.out, hline]; simp only [hcnt]
      clear hcnt hline
      go_wp2_with fail
      go_quiet ((go_at_call 52; exact Calls.quiet_of_same (HC.out _)))
      go_wp2_with fail
      refine (HW.out wCount _).mono ?_; rintro e w1 ⟨rfl, hB⟩
      obtain ⟨hc, hf⟩ := bcell hB
      have HB := Lib.hid ((below_drewN (((Below.refl w.heap.size w).alloc (Nat.le_refl _) _).alloc (by simp) _) _).trans (hB.mono (by simp; omega)))
      clear hB
      unfold thingV
      go_wp2_with fail
      exact bodyPost_ret (v := .agg (thingC (.slice none 0 0) 0 2 wCount)) (by simp [results, Try.results43, go_sem, hc]) rfl ⟨o, Stp.ofBelow r o (by repeat (first | exact HB.out | refine Below.setCell ?_ (by simp) _)), .inr (.inl ⟨_, rfl, hE⟩)⟩
    | some m =>
      have HC := Lib.hid (fun W => rcount_some hcnt W (Nat.le_trans hlb.out.args.2 (by decide)) htt)
      have hmb : m ≤ 1099511627776 := Nat.le_trans (countR_le hcnt) (Nat.le_trans hlb.out.args.2 (by decide))
      have HE := Lib.hid (show thingR l (s.drop at_) = bulksR l m (s.drop n) by rw [HX.out, hline]; simp only [hcnt])
      have hatn : at_ < n := by omega
      clear hcnt hline
      go_wp2_with fail
      go_quiet ((go_at_call 52; exact Calls.quiet_of_same (HC.out _)))
      have hat : ∀ q, RBulksRel o w r w.heap.size s n m l (.int .i64 n) (.slice none 0 0) (.int .i64 0) (((w.alloc (.cells #[.int .i64 l.bulk, .int .i64 l.args, .int .i64 l.line] 23)).alloc (.cells (thingC (.slice none 0 0) 0 0 []) 84)).drewN q) :=
        fun q => ⟨n, 0, [], _, rfl, rfl, .start _ _ _ _, Nat.le_refl _, hn, Row.nil _ _ _ _ _, HT0.out.drewN q, HS0.out.drewN q⟩
      clear hcut HC hix htl htt
      go_wp2_with fail
      go_loopw [8, 12, 13] (fun nx v i wr => RBulksRel o w r w.heap.size s n m l nx v i wr) (fun _ _ i _ => m - (intOf i).toNat)
      case atStart => exact hat _
      case round =>
        obtain ⟨j, k, acc, o', rfl, rfl, hI, hnj, hj, hT, hTh, hst⟩ := hrel
        clear hat
        have hkm := hI.1
        have hacc : acc.length ≤ 1099511627776 := by have := hI.2.1; omega
        have hc5 := hTh.lim.cell
        have HI := Lib.hid hI
        have HT := Lib.hid hT
        have HTh := Lib.hid hTh
        have HS := Lib.hid hst
        clear hI hT hTh hst
        by_cases hk : k < m
        · have BK := Lib.hid (fun W => show Calls Try.prog 53 #[.agg #[.int .i64 l.bulk, .int .i64 l.args, .int .i64 l.line], .string ⟨s.toArray⟩, .int .i64 j] W (RBulkDid W s j l) from rbulk_ok s j l W hj hs hlb.out)
          go_wp2_with fail
          refine (BK.out _).mono ?_
          rintro e w2 ⟨hB, (⟨rfl, hm⟩ | ⟨f, rfl, hm⟩ | ⟨a, n2, rfl, hm, hj2, hn2⟩)⟩
          · have HB2 := Lib.hid hB
            have hRes := (HTh.out.below hB).res
            have hcR := hRes.cell
            have hfR := hRes.free
            have hltR := hRes.lt
            have hp6 : o' (w.heap.size + 1) = r ++ [6] := hRes.role
            have HS2 := Lib.hid (HS.out.trans (Stp.ofBelow r o' hB))
            have HQ := Lib.hid hm
            clear hB hRes hm
            unfold RBulkAns thingV
            go_wp2_with fail
            exact bodyPost_ret (v := .agg (thingC (.slice none 0 0) 0 0 [])) (by simp [results, Try.results43, go_sem, hcR, World.cell?_alloc_lt, hltR]) rfl ⟨o', Stp.allocN (stp4 HS2.out hp6 _ _ _ _) _, .inl ⟨rfl, by rw [HE.out]; exact HI.out.more hk HQ.out⟩⟩
          · have HB2 := Lib.hid hB
            have hRes := (HTh.out.below hB).res
            have hcR := hRes.cell
            have hfR := hRes.free
            have hltR := hRes.lt
            have hp6 : o' (w.heap.size + 1) = r ++ [6] := hRes.role
            have HS2 := Lib.hid (HS.out.trans (Stp.ofBelow r o' hB))
            have HQ := Lib.hid hm
            clear hB hRes hm
            unfold RBulkAns thingV
            go_wp2_with fail
            exact bodyPost_ret (v := .agg (thingC (.slice none 0 0) 0 2 f)) (by simp [results, Try.results43, go_sem, hcR, World.cell?_alloc_lt, hltR]) rfl ⟨o', Stp.allocN (stp4 HS2.out hp6 _ _ _ _) _, .inr (.inl ⟨_, rfl, by rw [HE.out]; exact HI.out.fault hk HQ.out⟩)⟩
          · have hX := Blk.new o' w2 (r ++ [7]) (thingC (.slice none 0 0) (n2 : Nat) 1 []) 84 _ rfl
            have hTX := (Row.below HT.out hB).alloc (.cells (thingC (.slice none 0 0) (n2 : Nat) 1 []) 84) w2.heap.size (r ++ [7]) rfl
            have hThX := (HTh.out.below hB).alloc (.cells (thingC (.slice none 0 0) (n2 : Nat) 1 []) 84) (r ++ [7])
            have hSX := (HS.out.trans (Stp.ofBelow r o' hB)).alloc (r' := r ++ [7]) (.cells (thingC (.slice none 0 0) (n2 : Nat) 1 []) 84) _ rfl
            have HXX := Lib.hid hX
            have HTX := Lib.hid hTX
            have HThX := Lib.hid hThX
            have HSX := Lib.hid hSX
            have HN := Lib.hid (HI.out.go hk hm)
            clear hB hm hX hTX hThX hSX HT HTh HS HI
            unfold RBulkAns thingV
            go_wp2_with (
              at_builtin
              refine wpList_pushS rfl _ _ rfl a rfl HTX.out ?_ hacc ?_
              · rw [size_alloc1]; rfl
              intro v' w4 o4 hrow hst
              have HW4 := Lib.hid hrow
              have HTh4 := Lib.hid (HThX.out.keep (t := [0] ++ [0]) (by rw [← List.append_assoc]; exact hst) (by simp) (by simp))
              have HS4 := Lib.hid (HSX.out.trans (hst.wide (by rw [List.append_assoc]; exact List.prefix_append _ _)))
              have hc7 := (HXX.out.keep hst (by rw [List.append_assoc]; exact np_app (by simp))).cell
              clear hrow hst)
            go_roundw
            case rel => exact ⟨n2, k + 1, _, o4, rfl, by go_num, HN.out, by omega, hn2, HW4.out, HTh4.out, HS4.out⟩
            case measure => simp [intOf]; omega
        · have hRes := HTh.out.res
          have hcR := hRes.cell
          have hfR := hRes.free
          have hp6 : o' (w.heap.size + 1) = r ++ [6] := hRes.role
          have hr6 : o' (w.heap.size + 1) ≠ r ++ [0] ++ [0] := by rw [hRes.role, List.append_assoc]; exact ne_app (by simp)
          have HQ := Lib.hid (HI.out.done hk)
          obtain ⟨va, vcap, hv, _⟩ := HT.out.slice
          subst hv
          clear hRes
          go_wp2_with fail
          exact bodyPost_ret (v := .agg (thingC (.slice va acc.length vcap) j 1 [])) (by simp [results, Try.results43, go_sem, hcR]) rfl ⟨o', stp4 HS.out hp6 _ _ _ _, .inr (.inr ⟨_, acc, j, rfl, by rw [HE.out]; exact HQ.out, row4 HT.out hr6 _ _ _ _, by omega, hj⟩)⟩
end Go.Proofs.Ytgdgnpjgemcjgaa
