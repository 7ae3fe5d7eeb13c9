import Derived.Test.YtgdgnpjgemcjgaaQ
namespace Go.Proofs.Ytgdgnpjgemcjgaa
open Go Go.RowKit
theorem next_nil (w : World) : Calls Try.prog 25 #[.pointer none] w fun e w' => e = .returned (.tuple #[.slice none 0 0, .int .i64 0]) ∧ w' = w := by
  go_enter Try.func25, Try.ntmps25
  go_wp2
  go_ret2
  exact ⟨rfl, rfl⟩
/-- What Next answers. -/
def NextAns (o : Roles) (w : World) (r : List Nat) (x : NX) (e : Ending) : Prop := match x with
  | .more => e = .returned (.tuple #[.slice none 0 0, .int .i64 0])
  | .fault => e = .returned (.tuple #[.slice none 0 0, .int .i64 2])
  | .one ws => ∃ v, e = .returned (.tuple #[v, .int .i64 1]) ∧ ws ≠ [] ∧ Texts o w (r ++ [0] ++ [1] ++ [0]) v ws
def NextDid (o : Roles) (w : World) (q r : List Nat) (p : Nat) (R : RI) (e : Ending) (w' : World) : Prop :=
  ∃ o1 w1 o', Stp r o w o1 w1 ∧ Stp q o1 w1 o' w' ∧ Rd o' w' q p R.next.2 ∧ NextAns o' w' r R.next.1 e
theorem next_fault {o : Roles} {w : World} {q : List Nat} {p : Nat} {R : RI} (r : List Nat) (h : Rd o w q p R) (hf : R.fault ≠ []) :
    Calls Try.prog 25 #[.pointer (some ⟨p, 0, none⟩)] w (NextDid o w q r p R) := by
  have hc := h.blk.cell
  unfold rdC at hc
  have hne : R.fault.isEmpty = false := by simpa using hf
  have hD : NextDid o w q r p R (.returned (.tuple #[.slice none 0 0, .int .i64 2])) w := by
    have e : R.next = (.fault, R) := by unfold RI.next; rw [if_pos hf]
    refine ⟨o, w, o, Stp.refl _ _ _, Stp.refl _ _ _, by rw [e]; exact h, by rw [e]; exact rfl⟩
  have HD := Lib.hid hD
  clear hD h
  generalize R.fault = f at *
  go_enter Try.func25, Try.ntmps25
  go_wp2
  go_ret2
  exact HD.out

theorem bulkR_word {l : Lim} {s w : List UInt8} (h : bulkR l s = .fault w) : w ≠ [] := by
  cases s with
  | nil => cases h
  | cons b s' =>
    rw [bulkR.eq_def] at h
    simp only at h
    split at h
    · cases h; decide
    · cases hq : lineR l.line (b :: s') with
      | more => rw [hq] at h; cases h
      | bad => rw [hq] at h; cases h; decide
      | ok t q =>
        rw [hq] at h
        simp only at h
        cases hn : countR l.bulk (trim13 t).tail with
        | none => rw [hn] at h; cases h; decide
        | some n =>
          rw [hn] at h
          simp only at h
          split at h
          · cases h
          · split at h
            · cases h; decide
            · split at h
              · cases h
              · split at h
                · cases h; decide
                · cases h
theorem bulksR_word {l : Lim} : ∀ (n : Nat) {s w : List UInt8}, bulksR l n s = .fault w → w ≠ []
  | 0, s, w, h => by cases h
  | n + 1, s, w, h => by
    rw [bulksR] at h
    cases hq : bulkR l s with
    | more => rw [hq] at h; cases h
    | fault w' => rw [hq] at h; cases h; exact bulkR_word hq
    | ok a q =>
      rw [hq] at h
      simp only at h
      cases hp : bulksR l n q with
      | more => rw [hp] at h; cases h
      | fault w' => rw [hp] at h; cases h; exact bulksR_word n hp
      | ok as' r' => rw [hp] at h; cases h
theorem thingR_word {l : Lim} {s w : List UInt8} (h : thingR l s = .fault w) : w ≠ [] := by
  rw [thingR] at h
  cases hq : lineR l.line s with
  | more => rw [hq] at h; cases h
  | bad => rw [hq] at h; cases h; decide
  | ok t q =>
    rw [hq] at h
    simp only at h
    split at h
    · cases hn : countR l.args (trim13 t).tail with
      | none => rw [hn] at h; cases h; decide
      | some n => rw [hn] at h; exact bulksR_word n h
    · cases hn : splitL (trim13 t) with
      | none => rw [hn] at h; cases h; decide
      | some n =>
        rw [hn] at h
        simp only at h
        split at h
        · cases h; decide
        · split at h
          · cases h; decide
          · cases h
theorem reqF_word {l : Lim} : ∀ (n : Nat) {s w : List UInt8}, (reqF l n s).1 = .fault w → w ≠ []
  | 0, s, w, h => by cases h
  | n + 1, s, w, h => by
    rw [reqF] at h
    cases hq : thingR l s with
    | more => rw [hq] at h; cases h
    | fault w' => rw [hq] at h; cases h; exact thingR_word hq
    | ok ws r =>
      rw [hq] at h
      cases ws with
      | nil => exact reqF_word n h
      | cons a ws => cases h
theorem stop_more {l : Lim} {s : List UInt8} (h : (reqR l s).1.stop = some []) : (reqR l s).1 = .more := by
  cases hx : (reqR l s).1 with
  | more => rfl
  | fault u => rw [hx] at h; cases h; exact absurd rfl (reqF_word _ hx)
  | ok a r => rw [hx] at h; cases h
theorem stop_fault {l : Lim} {s word : List UInt8} (h : (reqR l s).1.stop = some word) (hw : word ≠ []) : (reqR l s).1 = .fault word := by
  cases hx : (reqR l s).1 with
  | more => rw [hx] at h; cases h; exact absurd rfl hw
  | fault u => rw [hx] at h; cases h; rfl
  | ok a r => rw [hx] at h; cases h
theorem RI.next_more {R : RI} (hf : R.fault = []) {n : Nat} (hn : n ≤ R.held.length) (h1 : (reqR R.l R.held).1 = .more) (h2 : (reqR R.l R.held).2 = R.held.drop n) :
    R.next = (.more, { R with held := R.held.drop n, used := R.used + n }) := by
  unfold RI.next
  rw [if_neg (by simpa using hf)]
  rcases hq : reqR R.l R.held with ⟨x, y⟩
  rw [hq] at h1 h2
  simp only at h1 h2
  subst h1; subst h2
  simp only [List.length_drop, show R.held.length - (R.held.length - n) = n by omega]
theorem RI.next_word {R : RI} (hf : R.fault = []) {n : Nat} (hn : n ≤ R.held.length) {word : List UInt8} (h1 : (reqR R.l R.held).1 = .fault word) (h2 : (reqR R.l R.held).2 = R.held.drop n) :
    R.next = (.fault, { R with held := [], used := R.used + n, fault := word }) := by
  unfold RI.next
  rw [if_neg (by simpa using hf)]
  rcases hq : reqR R.l R.held with ⟨x, y⟩
  rw [hq] at h1 h2
  simp only at h1 h2
  subst h1; subst h2
  simp only [List.length_drop, show R.held.length - (R.held.length - n) = n by omega]
theorem RI.next_one {R : RI} (hf : R.fault = []) {n : Nat} (hn : n ≤ R.held.length) {ws : List (List UInt8)} {rr : List UInt8} (h1 : reqR R.l R.held = (.ok ws rr, R.held.drop n)) :
    R.next = (.one ws, { R with held := R.held.drop n, used := R.used + n }) := by
  unfold RI.next
  rw [if_neg (by simpa using hf), h1]
  simp only [List.length_drop, show R.held.length - (R.held.length - n) = n by omega]

set_option maxRecDepth 10000 in
set_option maxHeartbeats 2000000 in
theorem next_go {o : Roles} {w : World} {q : List Nat} {p : Nat} {R : RI} (r : List Nat) (h : Rd o w q p R) (hf : R.fault = []) (hrq : ¬ r <+: q) (hqr : ¬ q <+: r ++ [0] ++ [1] ++ [0]) (hqr4 : ¬ q <+: r ++ [4]) :
    Calls Try.prog 25 #[.pointer (some ⟨p, 0, none⟩)] w (NextDid o w q r p R) := by
  have hc := h.blk.cell
  have hfr := h.blk.free
  unfold rdC at hc
  rw [hf] at hc
  have hfew := h.few
  have hplt := h.blk.lt
  have hs : R.held.length ≤ 1099511627776 := by omega
  have hsz : (⟨R.held.toArray⟩ : ByteArray).size = R.held.length := by simp [ByteArray.size]
  have HQ := Lib.hid (fun (W : World) (o1 : Roles) (hW : Below w.heap.size w W) (ho : o1 = o.put W.heap.size (r ++ [0] ++ [0])) =>
    request_ok (o := o1) (w := W.alloc (.cells (scanC R.held 0 R.l) 77)) (r := r) (b := W.heap.size) (by subst ho; exact Blk.new o W (r ++ [0] ++ [0]) _ 77 _ rfl) (Nat.zero_le _) hs h.lim)
  have HR := Lib.hid h
  have hfh := Lib.hid hf
  clear h hf
  go_enter Try.func25, Try.ntmps25
  go_wp2_with fail
  go_still_tail 9, (by kernel_rfl)
  change wpList _ _ _ _ _ (World.drew w)
  have HR2 := Lib.hid (show Rd o (World.drew w) q p R from ⟨HR.out.blk.drew, HR.out.lim, HR.out.few⟩)
  have HB2 := Lib.hid ((Below.refl w.heap.size w).drew)
  have HQ2 := Lib.hid (HQ.out (World.drew w) _ HB2.out rfl)
  have HST := Lib.hid (((Stp.refl r o w).drew).alloc (r' := r ++ [0] ++ [0]) (.cells (scanC R.held 0 R.l) 77) (World.drew w).heap.size rfl)
  have HP := Lib.hid (show Rd (o.put (World.drew w).heap.size (r ++ [0] ++ [0])) ((World.drew w).alloc (.cells (scanC R.held 0 R.l) 77)) q p R from ⟨HR2.out.blk.alloc _ _ _ rfl, HR2.out.lim, HR2.out.few⟩)
  generalize World.drew w = w2 at *
  clear hc hfr HQ HB2 HR
  unfold scanC at HQ2
  go_wp2_with fail
  refine HQ2.out.mono ?_; rintro e w3 (⟨word, n, c, o3, rfl, hstop, hrest, h0n, hn, hC, st3⟩ | ⟨v, ws, n, o3, rfl, hone, hne, h0n, hn, hT, st3⟩)
  · have hP3 := HP.out.keep st3 hrq
    have hcut := cut_run R.held (some (.int .i64 n)) none n R.held.length hn (Nat.le_refl _) (.inl rfl) (.inr ⟨rfl, rfl⟩)
    rw [List.take_of_length_le (by simp)] at hcut
    have hc3 := hP3.blk.cell
    have hf3 := hP3.blk.free
    unfold rdC at hc3
    rw [hfh.out] at hc3
    have hcw := hC.cell 0
    have hcp : ¬ p = c := hP3.blk.ne hC (fun e => hqr4 (by rw [e]; exact List.prefix_refl _))
    have hpc : ¬ c = p := fun e => hcp e.symm
    rw [List.drop_zero] at hstop hrest
    have hS0 := HST.out.trans st3
    have hr3 : o3 p = q := hP3.blk.role
    have hsum1 : 0 ≤ (R.used : Int) + n ∧ (R.used : Int) + n ≤ 1099511627776 := by omega
    obtain ⟨hsum1, hsum2⟩ := hsum1
    by_cases hw : word = []
    · subst hw
      have hb := (hP3.blk.setCell 3 (.string ⟨(R.held.drop n).toArray⟩)).setCell 4 (.int .i64 ((R.used : Int) + n))
      have hst := ((Stp.refl q o3 w3).setCell (a := ⟨p, 3, none⟩) (by rw [hr3]; exact List.prefix_refl _) (.string ⟨(R.held.drop n).toArray⟩)).setCell (a := ⟨p, 4, none⟩) (by rw [hr3]; exact List.prefix_refl _) (.int .i64 ((R.used : Int) + n))
      have hx := RI.next_more hfh.out hn (stop_more hstop) hrest
      have D : NextDid o w q r p R (.returned (.tuple #[.slice none 0 0, .int .i64 0])) _ := ⟨o3, w3, o3, hS0, hst, by rw [hx]; exact ⟨hb, hP3.lim, by simp; omega⟩, by rw [hx]; exact rfl⟩
      have HD := Lib.hid D
      clear D hb hst hx hS0 hP3 hC st3 hstop hrest HST HP HQ2 HR2
      go_wp2_with fail
      go_ret2
      exact HD.out
    · have hwe : word.isEmpty = false := by simpa using hw
      have hb := (((hP3.blk.setCell 3 (.string ⟨(R.held.drop n).toArray⟩)).setCell 4 (.int .i64 ((R.used : Int) + n))).setCell 3 (.string ⟨#[]⟩)).setCell 5 (.string ⟨word.toArray⟩)
      have hst := ((((Stp.refl q o3 w3).setCell (a := ⟨p, 3, none⟩) (by rw [hr3]; exact List.prefix_refl _) (.string ⟨(R.held.drop n).toArray⟩)).setCell (a := ⟨p, 4, none⟩) (by rw [hr3]; exact List.prefix_refl _) (.int .i64 ((R.used : Int) + n))).setCell (a := ⟨p, 3, none⟩) (by rw [hr3]; exact List.prefix_refl _) (.string ⟨#[]⟩)).setCell (a := ⟨p, 5, none⟩) (by rw [hr3]; exact List.prefix_refl _) (.string ⟨word.toArray⟩)
      have hx := RI.next_word hfh.out hn (stop_fault hstop hw) hrest
      have D : NextDid o w q r p R (.returned (.tuple #[.slice none 0 0, .int .i64 2])) _ := ⟨o3, w3, o3, hS0, hst, by rw [hx]; exact ⟨hb, hP3.lim, by simp; omega⟩, by rw [hx]; exact rfl⟩
      have HD := Lib.hid D
      clear D hb hst hx hS0 hP3 hC st3 hstop hrest HST HP HQ2 HR2
      go_wp2_with fail
      go_ret2
      exact HD.out
  · have hP3 := HP.out.keep st3 hrq
    have hcut := cut_run R.held (some (.int .i64 n)) none n R.held.length hn (Nat.le_refl _) (.inl rfl) (.inr ⟨rfl, rfl⟩)
    rw [List.take_of_length_le (by simp)] at hcut
    have hc3 := hP3.blk.cell
    have hf3 := hP3.blk.free
    unfold rdC at hc3
    rw [hfh.out] at hc3
    rw [List.drop_zero] at hone
    have hS0 := HST.out.trans st3
    have hr3 : o3 p = q := hP3.blk.role
    have hsum1 : 0 ≤ (R.used : Int) + n ∧ (R.used : Int) + n ≤ 1099511627776 := by omega
    obtain ⟨hsum1, hsum2⟩ := hsum1
    have hb := (hP3.blk.setCell 3 (.string ⟨(R.held.drop n).toArray⟩)).setCell 4 (.int .i64 ((R.used : Int) + n))
    have hst := ((Stp.refl q o3 w3).setCell (a := ⟨p, 3, none⟩) (by rw [hr3]; exact List.prefix_refl _) (.string ⟨(R.held.drop n).toArray⟩)).setCell (a := ⟨p, 4, none⟩) (by rw [hr3]; exact List.prefix_refl _) (.int .i64 ((R.used : Int) + n))
    have hT3 := hT.keep hst hqr
    have hx := RI.next_one hfh.out hn hone
    have D : NextDid o w q r p R (.returned (.tuple #[v, .int .i64 1])) _ := ⟨o3, w3, o3, hS0, hst, by rw [hx]; exact ⟨hb, hP3.lim, by simp; omega⟩, by rw [hx]; exact ⟨v, rfl, hne, hT3⟩⟩
    have HD := Lib.hid D
    clear D hb hst hx hS0 hP3 st3 hone HST HP HQ2 HR2 hT3 hT
    go_wp2_with fail
    go_ret2
    exact HD.out
/-- Next, whatever was told. -/
theorem next_ok {o : Roles} {w : World} {q : List Nat} {p : Nat} {R : RI} (r : List Nat) (h : Rd o w q p R) (hrq : ¬ r <+: q) (hqr : ¬ q <+: r ++ [0] ++ [1] ++ [0]) (hqr4 : ¬ q <+: r ++ [4]) :
    Calls Try.prog 25 #[.pointer (some ⟨p, 0, none⟩)] w (NextDid o w q r p R) := by
  by_cases hf : R.fault = []
  · exact next_go r h hf hrq hqr hqr4
  · exact next_fault r h hf
end Go.Proofs.Ytgdgnpjgemcjgaa
