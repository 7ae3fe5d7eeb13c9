import Derived.Test.YtgdgnpjgemcjgaaZV
import Derived.Deep.Cut
import Derived.Deep.CutRange
namespace Go.Proofs.Ytgdgnpjgemcjgaa
open Go Go.RowKit
def two (r q : List Nat) (s : List Nat) : Prop := r <+: s ∨ q <+: s
def RNextAns (o : Roles) (w : World) (r : List Nat) (x : NX) (e : Ending) : Prop := match x with
  | .more => e = .returned (.tuple #[.slice none 0 0, .int .i64 0])
  | .fault => e = .returned (.tuple #[.slice none 0 0, .int .i64 2])
  | .one ws => ∃ v, e = .returned (.tuple #[v, .int .i64 1]) ∧ Texts o w (r ++ [0] ++ [0]) v ws
def RNextDid (o : Roles) (w : World) (q r : List Nat) (p : Nat) (R : RI) (S : List UInt8) (e : Ending) (w' : World) : Prop :=
  ∃ o' en', StpP (two r q) o w o' w' ∧ RRd o' w' q p R.next.2 S en' ∧ RNextAns o' w' r R.next.1 e
structure RNextRel (o : Roles) (w : World) (q r : List Nat) (p : Nat) (R : RI) (S : List UInt8) (j : Nat) (o' : Roles) (wr : World) : Prop where
  blk : Blk o' wr q p (rrC R S j false) 46
  low : R.used ≤ j
  le : j ≤ S.length
  eq : reqR R.l R.held = reqR R.l (S.drop j)
  st : StpP (two r q) o w o' wr
/-- What a thing's four places say. -/
def ThingIs (o : Roles) (w : World) (r : List Nat) (S : List UInt8) (j : Nat) (l : Lim) (u : Value) (n x : Int) (f : List UInt8) : Prop :=
  (u = .slice none 0 0 ∧ n = 0 ∧ x = 0 ∧ f = [] ∧ thingR l (S.drop j) = .more) ∨ (u = .slice none 0 0 ∧ n = 0 ∧ x = 2 ∧ thingR l (S.drop j) = .fault f) ∨
  (x = 1 ∧ f = [] ∧ ∃ ws m, n = (m : Nat) ∧ thingR l (S.drop j) = .ok ws (S.drop m) ∧ Texts o w (r ++ [0] ++ [0]) u ws ∧ j < m ∧ m ≤ S.length)
theorem rthing_u (o : Roles) (w : World) (r : List Nat) (s : List UInt8) (at_ : Nat) (l : Lim) (hlt : at_ < s.length) (hs : s.length ≤ 1099511627776) (hl : LimOk l) :
    Calls Try.prog 43 #[limW l, .string ⟨s.toArray⟩, .int .i64 at_] w fun e w' => ∃ ua un uc n x f o', e = .returned (.agg #[.slice ua un uc, .int .i64 n, .int .i64 x, .string ⟨f.toArray⟩]) ∧ Stp r o w o' w' ∧ ThingIs o' w' r s at_ l (.slice ua un uc) n x f := by
  refine (rthing_ok o w r s at_ l hlt hs hl).mono ?_
  rintro e w' ⟨o', st, (⟨rfl, hm⟩ | ⟨f, rfl, hm⟩ | ⟨v, ws, n, rfl, hm, hT, h1, h2⟩)⟩
  · exact ⟨none, 0, 0, 0, 0, [], o', rfl, st, .inl ⟨rfl, rfl, rfl, rfl, hm⟩⟩
  · exact ⟨none, 0, 0, 0, 2, f, o', rfl, st, .inr (.inl ⟨rfl, rfl, rfl, hm⟩)⟩
  · obtain ⟨a, cap, rfl, _⟩ := hT.slice
    exact ⟨a, ws.length, cap, n, 1, [], o', rfl, st, .inr (.inr ⟨rfl, rfl, ws, n, rfl, hm, hT, h1, h2⟩)⟩
def CutR (o' : Roles) (wr : World) (q r : List Nat) (p : Nat) (R : RI) (S : List UInt8) (j : Nat) (s4 : Value) (wx : World) : Prop :=
  ∃ b4 o4 u n x f, s4 = .pointer (some ⟨b4, 0, none⟩) ∧ StpP (two r q) o' wr o4 wx ∧ Blk o4 wx q p (rrC R S j false) 46 ∧ Blk o4 wx (q ++ [8]) b4 (thingC u n x f) 84 ∧ ThingIs o4 wx r S j R.l u n x f
theorem hz_of (o' : Roles) (wr : World) (n : Nat) (q : List Nat) : Blk (o'.put wr.heap.size (q ++ [8])) ((wr.drewN n).alloc (.cells #[.slice none 0 0, .int .i64 0, .int .i64 0, .string ⟨#[]⟩] 84)) (q ++ [8]) wr.heap.size #[.slice none 0 0, .int .i64 0, .int .i64 0, .string ⟨#[]⟩] 84 :=
  ⟨heap_alloc_new (wr.drewN n) _, Roles.put_same _ _ _⟩
theorem ThingIs.map {o o' : Roles} {w w' : World} {r : List Nat} {S : List UInt8} {j : Nat} {l : Lim} {u : Value} {n x : Int} {f : List UInt8} (h : ThingIs o w r S j l u n x f) (hT : ∀ ws, Texts o w (r ++ [0] ++ [0]) u ws → Texts o' w' (r ++ [0] ++ [0]) u ws) : ThingIs o' w' r S j l u n x f := by
  rcases h with h | h | ⟨h1, h2, ws, m, h3, h4, h5, h6⟩
  · exact .inl h
  · exact .inr (.inl h)
  · exact .inr (.inr ⟨h1, h2, ws, m, h3, h4, hT ws h5, h6⟩)
section
variable {o' o2 : Roles} {wr w2 : World} {q r : List Nat} {p : Nat} {R : RI} {S : List UInt8} {j k : Nat} {u : Value} {n x : Int} {f : List UInt8}
theorem cutA (hb : Blk o' wr q p (rrC R S j false) 46) (hrq : ¬ r <+: q) (st2 : Stp r (o'.put wr.heap.size (q ++ [8])) (wr.drewN k) o2 w2) (hans : ThingIs o2 w2 r S j R.l u n x f) :
    CutR o' wr q r p R S j (.pointer (some ⟨w2.heap.size, 0, none⟩)) (w2.alloc (.cells #[u, .int .i64 n, .int .i64 x, .string ⟨f.toArray⟩] 84)) := by
  have s0 : Stp r o' wr (o'.put wr.heap.size (q ++ [8])) (wr.drewN k) := ((Stp.refl r o' wr).name wr.heap.size (q ++ [8]) (Nat.le_refl _)).drewN k
  have s1 := s0.trans st2
  exact ⟨w2.heap.size, o2.put w2.heap.size (q ++ [8]), u, n, x, f, rfl, (s1.alloc _ _ rfl).toP (fun s h => .inl h), (hb.keep s1 hrq).alloc _ _ _ rfl, Blk.new _ _ _ _ _ _ rfl, hans.map (fun ws h => Row.alloc h _ _ _ rfl)⟩
theorem cutB (hb : Blk o' wr q p (rrC R S j false) 46) (hrq : ¬ r <+: q) (hrq8 : ¬ r <+: q ++ [8]) (hqr : ¬ q <+: r ++ [0] ++ [0]) (st2 : Stp r (o'.put wr.heap.size (q ++ [8])) ((wr.drewN k).alloc (.cells #[.slice none 0 0, .int .i64 0, .int .i64 0, .string ⟨#[]⟩] 84)) o2 w2) (hans : ThingIs o2 w2 r S j R.l u n x f) :
    CutR o' wr q r p R S j (.pointer (some ⟨wr.heap.size, 0, none⟩)) ((((w2.setCell ⟨wr.heap.size, 0, none⟩ u).setCell ⟨wr.heap.size, 1, none⟩ (.int .i64 n)).setCell ⟨wr.heap.size, 2, none⟩ (.int .i64 x)).setCell ⟨wr.heap.size, 3, none⟩ (.string ⟨f.toArray⟩)) := by
  have s0 : Stp r o' wr (o'.put wr.heap.size (q ++ [8])) ((wr.drewN k).alloc (.cells #[.slice none 0 0, .int .i64 0, .int .i64 0, .string ⟨#[]⟩] 84)) := ((Stp.refl r o' wr).drewN k).alloc _ _ rfl
  have s1 := s0.trans st2
  have hz := Blk.keep (hz_of o' wr k q) st2 hrq8
  have hp := hb.keep s1 hrq
  have hne : p ≠ wr.heap.size := Nat.ne_of_lt hb.lt
  have hq8 : two r q (o2 wr.heap.size) := by rw [hz.role]; exact .inr (List.prefix_append _ _)
  have hA : ∀ k (v : Value) W, StpP (two r q) o' wr o2 W → StpP (two r q) o' wr o2 (W.setCell ⟨wr.heap.size, k, none⟩ v) := fun k v W h =>
    h.trans ⟨rfl, rfl, rfl, by simp, fun _ _ => rfl, fun b _ hn => Below.heap_setCell _ _ _ _ (fun e => hn (e ▸ hq8))⟩
  have hr : o2 wr.heap.size ≠ r ++ [0] ++ [0] := by rw [hz.role]; intro e; exact hqr (by rw [← e]; exact List.prefix_append _ _)
  exact ⟨wr.heap.size, o2, u, n, x, f, rfl, hA _ _ _ (hA _ _ _ (hA _ _ _ (hA _ _ _ (s1.toP (fun s h => .inl h))))),
    (((hp.setOther _ _ hne).setOther _ _ hne).setOther _ _ hne).setOther _ _ hne, (((hz.setCell 0 u).setCell 1 _).setCell 2 _).setCell 3 _, hans.map (fun ws h => row4 h hr _ _ _ _)⟩
end
set_option maxRecDepth 10000 in
set_option maxHeartbeats 4000000 in
theorem rnext_go {o : Roles} {w : World} {q : List Nat} {p : Nat} {R : RI} {S : List UInt8} (r : List Nat) (h : RRd o w q p R S false) (hrq : ¬ r <+: q) (hqr : ¬ q <+: r ++ [0] ++ [0]) (hrq8 : ¬ r <+: q ++ [8]) :
    Calls Try.prog 26 #[.pointer (some ⟨p, 0, none⟩)] w (RNextDid o w q r p R S) := by
  have hfew := h.few
  have hsz : (⟨S.toArray⟩ : ByteArray).size = S.length := by simp [ByteArray.size]
  obtain ⟨hf0, hh0⟩ := h.go rfl
  have hlim := Lib.hid h.lim
  have hfh := Lib.hid hf0
  have hhh := Lib.hid hh0
  have hat : ∃ j o', RNextRel o w q r p R S j o' w ∧ S.length - j = S.length - R.used := ⟨R.used, o, ⟨h.blk, Nat.le_refl _, h.le, by rw [hh0], StpP.refl _ _ _⟩, rfl⟩
  clear h hf0 hh0
  go_enter Try.func26, Try.ntmps26
  go_wp2_with fail
  go_loopg [2] (S.length - R.used) (fun g v wr => v = .slice none 0 0 ∧ ∃ j o', RNextRel o w q r p R S j o' wr ∧ S.length - j = g)
  case atStart => exact ⟨rfl, hat⟩
  case round =>
    obtain ⟨rfl, j, o', hN, hg⟩ := hrel
    clear hat
    have hc := hN.blk.cell
    have hlow := hN.low
    have hle := hN.le
    by_cases hlt : j < S.length
    · have HT := Lib.hid (fun (W : World) (oo : Roles) => show Calls Try.prog 43 #[.agg #[.int .i64 R.l.bulk, .int .i64 R.l.args, .int .i64 R.l.line], .string ⟨S.toArray⟩, .int .i64 j] W (fun e w' => ∃ ua un uc n x f o', e = .returned (.agg #[.slice ua un uc, .int .i64 n, .int .i64 x, .string ⟨f.toArray⟩]) ∧ Stp r oo W o' w' ∧ ThingIs o' w' r S j R.l (.slice ua un uc) n x f) from rthing_u oo W r S j R.l hlt hfew hlim.out)
      have HN := Lib.hid hN
      have hgh := Lib.hid hg
      clear hN hg
      go_wp2_with fail
      go_quiet (fail)
      go_wp2_with fail
      have hcq : ∀ k n, (wr.drewN n).cell? ⟨p, k, none⟩ = (rrC R S j false)[k]? := fun k n => by rw [World.cell?_drewN]; exact hc k
      have hpl := HN.out.blk.lt
      have hz0 := Lib.hid (Blk.new o' wr (q ++ [8]) (thingC (.slice none 0 0) 0 0 []) 84 _ rfl)
      have hbk := Lib.hid (fun (W : World) (hB : Below wr.heap.size wr W) => show Blk (o'.put wr.heap.size (q ++ [8])) W q p (rrC R S j false) 46 from ⟨by rw [hB.block p HN.out.blk.lt]; exact HN.out.blk.heap, by rw [Roles.put_other (Nat.ne_of_lt HN.out.blk.lt)]; exact HN.out.blk.role⟩)
      go_cut [4] from 5 to 59 (fun s4 wx => CutR o' wr q r p R S j s4 wx)
      case first =>
        go_region_held (fun W => W.cell? ⟨p, 0, none⟩ = some (.int .i64 R.l.bulk) ∧ W.cell? ⟨p, 1, none⟩ = some (.int .i64 R.l.args) ∧ W.cell? ⟨p, 2, none⟩ = some (.int .i64 R.l.line) ∧ W.cell? ⟨p, 3, none⟩ = some (.string ⟨S.toArray⟩) ∧ W.cell? ⟨p, 4, none⟩ = some (.int .i64 j))
          (first | exact ⟨hcc 0, hcc 1, hcc 2, hcc 3, hcc 4⟩ | (refine ⟨?_, ?_, ?_, ?_, ?_⟩ <;> (go_simp; done)) | (simp [World.cell?_alloc_lt, hpl2, hcc]; done) | (refine ⟨?_, ?_, ?_, ?_, ?_⟩ <;> (rw [World.cell?_alloc_lt _ _ _ (by simpa using hpl), World.cell?_drewN, hc]; rfl))) (
          (go_at_call 43
           refine (HT.out _ (o'.put wr.heap.size (q ++ [8]))).mono ?_
           rintro e w2 ⟨ua, un, uc, n, x, f, o2, rfl, st2, hans⟩
           have hcc := ((hbk.out _ (by repeat (first | exact Below.refl _ _ | refine Below.drew ?_ | refine below_drewN ?_ _ | refine Below.alloc ?_ (by simp) _))).keep st2 hrq).cell
           have hpl2 := ((hbk.out _ (by repeat (first | exact Below.refl _ _ | refine Below.drew ?_ | refine below_drewN ?_ _ | refine Below.alloc ?_ (by simp) _))).keep st2 hrq).lt
           (first | (have hz := Blk.keep (hz_of o' wr _ q) st2 hrq8; have hzc := hz.cell; have hzf := hz.free; have hzh := Lib.hid hz; clear hz) | skip)
           have HS2 := Lib.hid st2
           have HA2 := Lib.hid hans
           clear st2 hans))
        all_goals
          go_wp2_with fail
          go_meet
          first
            | exact cutA HN.out.blk hrq HS2.out HA2.out
            | exact cutB HN.out.blk hrq hrq8 hqr HS2.out HA2.out
      case rest =>
        obtain ⟨b4, o4, u, n, x, f, rfl, hst, hbp, hb4, hans⟩ := hcut
        have hc4 := hb4.cell
        have hcp := hbp.cell
        have hfp := hbp.free
        have hrp : o4 p = q := hbp.role
        have hHst := Lib.hid (HN.out.st.trans hst)
        have hHbp := Lib.hid hbp
        have hpb : ¬ p = b4 := hbp.ne hb4 (fun e => by have := congrArg List.length e; simp at this)
        have hbpp : ¬ b4 = p := fun e => hpb e.symm
        have heq := Lib.hid HN.out.eq
        have hqq : ∀ s, q <+: s → two r q s := fun s h => .inr h
        clear hst hbp hb4 hbk hcq hz0 hc HT
        have hRU : R.used + (j - R.used) = j := by omega
        have hRUh := Lib.hid hRU
        have hdrop : S.drop j = R.held.drop (j - R.used) := by rw [hhh.out, List.drop_drop, hRU]
        have hdh := Lib.hid hdrop
        have hhl : j - R.used ≤ R.held.length := by rw [hhh.out, List.length_drop]; omega
        clear hRU hdrop
        rcases hans with ⟨rfl, rfl, rfl, rfl, hm⟩ | ⟨rfl, rfl, rfl, hm⟩ | ⟨rfl, rfl, ws, m, rfl, hm, hT, hjm, hml⟩
        · have hs := reqR_stop (word := []) (by rw [hm]; rfl)
          rw [← heq.out] at hs
          have hx := RI.next_more hfh.out hhl (stop_more hs.1) (by rw [hs.2]; exact hdh.out)
          have D : RNextDid o w q r p R S (.returned (.tuple #[.slice none 0 0, .int .i64 0])) wc := by
            refine ⟨o4, false, hHst.out, ?_, by rw [hx]; exact rfl⟩
            rw [hx]
            refine ⟨?_, hlim.out, hfew, by show R.used + (j - R.used) ≤ _; rw [hRUh.out]; exact hle, fun _ => ⟨hfh.out, by show R.held.drop _ = S.drop (R.used + (j - R.used)); rw [hRUh.out, hdh.out]⟩, fun h => by cases h⟩
            show Blk o4 wc q p (rrC _ S (R.used + (j - R.used)) false) 46
            rw [hRUh.out]
            exact hHbp.out
          have HD := Lib.hid D
          clear D hx hs hm
          go_wp2_with fail
          go_ret2
          exact HD.out
        · have hs := reqR_stop (word := f) (by rw [hm]; rfl)
          have hfne : f ≠ [] := thingR_word hm
          rw [← heq.out] at hs
          have hx := RI.next_word hfh.out hhl (stop_fault hs.1 hfne) (by rw [hs.2]; exact hdh.out)
          have D : RNextDid o w q r p R S (.returned (.tuple #[.slice none 0 0, .int .i64 2])) ((wc.setCell ⟨p, 6, none⟩ (.bool true)).setCell ⟨p, 5, none⟩ (.string ⟨f.toArray⟩)) := by
            have hs1 := ((Stp.refl q o4 wc).setCell (a := ⟨p, 6, none⟩) (by rw [hrp]; exact List.prefix_refl _) (.bool true)).setCell (a := ⟨p, 5, none⟩) (by rw [hrp]; exact List.prefix_refl _) (.string ⟨f.toArray⟩)
            refine ⟨o4, true, hHst.out.trans (hs1.toP hqq), ?_, by rw [hx]; exact rfl⟩
            rw [hx]
            refine ⟨?_, hlim.out, hfew, by show R.used + (j - R.used) ≤ _; rw [hRUh.out]; exact hle, (fun h => by cases h), fun _ => ⟨hfne, rfl⟩⟩
            show Blk o4 _ q p (rrC _ S (R.used + (j - R.used)) true) 46
            rw [hRUh.out]
            exact (hHbp.out.setCell 6 (.bool true)).setCell 5 (.string ⟨f.toArray⟩)
          have HD := Lib.hid D
          clear D hx hs hm
          go_wp2_with fail
          go_ret2
          exact HD.out
        · obtain ⟨ua, uc, hu, _⟩ := hT.slice
          subst hu
          have hs1 := (Stp.refl q o4 wc).setCell (a := ⟨p, 4, none⟩) (by rw [hrp]; exact List.prefix_refl _) (.int .i64 (m : Nat))
          have hblk := hHbp.out.setCell 4 (.int .i64 (m : Nat))
          have hST := Lib.hid (hHst.out.trans (hs1.toP hqq))
          have hBLK := Lib.hid hblk
          have hTT := Lib.hid (Row.keep hT hs1 hqr)
          have hmm := Lib.hid hm
          clear hs1 hblk hT hm
          by_cases hws : ws = []
          · subst hws
            have hR := Lib.hid (heq.out.trans (reqR_go hmm.out))
            go_wp2_with fail
            go_roundg (S.length - m)
            case measure => rw [← hgh.out]; omega
            case rel => exact ⟨rfl, m, o4, ⟨hBLK.out, by omega, hml, hR.out, hST.out⟩, rfl⟩
          · have hlen : 0 < ws.length := List.length_pos_iff.2 hws
            have hR1 : reqR R.l R.held = (.ok ws (S.drop m), S.drop m) := by
              obtain ⟨a, ws', rfl⟩ := List.exists_cons_of_ne_nil hws
              rw [heq.out]; exact reqR_one hmm.out
            have hdm : S.drop m = R.held.drop (m - R.used) := by rw [hhh.out, List.drop_drop, show R.used + (m - R.used) = m by omega]
            have hhl2 : m - R.used ≤ R.held.length := by rw [hhh.out, List.length_drop]; omega
            have hum : R.used + (m - R.used) = m := by omega
            have hx := RI.next_one (ws := ws) (rr := S.drop m) hfh.out hhl2 (by rw [hR1, ← hdm])
            have D : RNextDid o w q r p R S (.returned (.tuple #[.slice ua ws.length uc, .int .i64 1])) (wc.setCell ⟨p, 4, none⟩ (.int .i64 (m : Nat))) := by
              refine ⟨o4, false, hST.out, ?_, by rw [hx]; exact ⟨_, rfl, hTT.out⟩⟩
              rw [hx]
              refine ⟨?_, hlim.out, hfew, by show R.used + (m - R.used) ≤ _; rw [hum]; exact hml, fun _ => ⟨hfh.out, by show R.held.drop _ = S.drop (R.used + (m - R.used)); rw [hum, hdm]⟩, fun h => by cases h⟩
              show Blk o4 _ q p (rrC _ S (R.used + (m - R.used)) false) 46
              rw [hum]
              exact hBLK.out
            have HD := Lib.hid D
            clear D hx hR1 hdm hhl2 hum
            go_wp2_with fail
            go_ret2
            exact HD.out
    · have hjS : j = S.length := by omega
      have hRU : R.used + (j - R.used) = j := by omega
      have hhl : j - R.used ≤ R.held.length := by rw [hhh.out, List.length_drop]; omega
      have hdrop : S.drop j = R.held.drop (j - R.used) := by rw [hhh.out, List.drop_drop, hRU]
      have hs := reqR_stop (l := R.l) (s := S.drop j) (word := []) (by rw [List.drop_eq_nil_of_le (by omega), thingR, lineR.eq_def]; rfl)
      rw [← hN.eq] at hs
      have hx := RI.next_more hfh.out hhl (stop_more hs.1) (by rw [hs.2]; exact hdrop)
      have D : ∀ k, RNextDid o w q r p R S (.returned (.tuple #[.slice none 0 0, .int .i64 0])) (wr.drewN k) := by
        intro k
        refine ⟨o', false, hN.st.drewN k, ?_, by rw [hx]; exact rfl⟩
        rw [hx]
        refine ⟨?_, hlim.out, hfew, by show R.used + (j - R.used) ≤ _; rw [hRU]; exact hle, fun _ => ⟨hfh.out, by show R.held.drop _ = S.drop (R.used + (j - R.used)); rw [hRU, hdrop]⟩, fun h => by cases h⟩
        show Blk o' _ q p (rrC _ S (R.used + (j - R.used)) false) 46
        rw [hRU]
        exact hN.blk.drewN k
      have HD := Lib.hid D
      clear D hx hs hdrop hhl hRU hN hjS
      go_wp2_with fail
      go_quiet (fail)
      go_wp2_with fail
      go_ret2
      exact HD.out _
end Go.Proofs.Ytgdgnpjgemcjgaa
