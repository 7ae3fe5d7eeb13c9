import Derived.Test.YtgmmeeikjofefaaGreatDoorPs
import Derived.Lib.ConvBytes
namespace Go.Proofs.YtgmmeeikjofefaaGreatDoor
open Go Go.RowKit
/-! table.Lower. -/
def bv (b : UInt8) : Value := .int .u8 b.toNat
def lowB (c : UInt8) : UInt8 := if 65 ≤ c ∧ c ≤ 90 then c + 32 else c
def lowL (s : List UInt8) : List UInt8 := s.map lowB
theorem fold_push (l : List UInt8) : ∀ s : ByteArray, ((l.map fun b : UInt8 => (b.toNat : Int)).foldl (fun r n => r.push (UInt8.ofNat n.toNat)) s) = ⟨s.data ++ l.toArray⟩ := by
  induction l with
  | nil => intro s; simp
  | cons b l ih =>
    intro s
    rw [List.map_cons, List.foldl_cons, ih]
    have e : UInt8.ofNat ((b.toNat : Int)).toNat = b := by simp
    rw [e]
    congr 1
    apply Array.ext'
    simp [ByteArray.push]
theorem run_bytes_text (w : World) (g cap : Nat) (l : List UInt8) (h : ∀ j x, l[j]? = some x → w.cell? ⟨g, j, none⟩ = some (bv x)) (n : Nat) (hn : n = l.length) :
    (convert 87 9 (.slice (some ⟨g, 0, none⟩) n cap)).run Tryz.prog w = .ok (.string ⟨l.toArray⟩) w := by
  subst hn
  rw [run_convert_bytes_string w 87 9 5 _ _ _ Tryz.underlying87 Tryz.underlying5 Tryz.underlying9]
  have hl := run_loadCells_list (P := Tryz.prog) w ⟨g, 0, none⟩ (l.map bv) (fun j v hj => by
    rw [addr_add, Nat.zero_add]
    rw [List.getElem?_map, Option.map_eq_some_iff] at hj
    obtain ⟨x, hx, rfl⟩ := hj
    exact h j x hx)
  rw [List.length_map] at hl
  have e : l.map bv = (l.map fun b : UInt8 => (b.toNat : Int)).map (Value.int .u8) := by rw [List.map_map]; rfl
  rw [run_bytesToString w ⟨g, 0, none⟩ l.length cap (l.map fun b : UInt8 => (b.toNat : Int)) (by rw [← e]; exact hl), fold_push]
  simp
def lowAt (s : List UInt8) (k : Nat) : List UInt8 := lowL (s.take k) ++ s.drop k
theorem lowAt_len (s : List UInt8) (k : Nat) : (lowAt s k).length = s.length := by unfold lowAt lowL; simp; omega
theorem lowAt_get {s : List UInt8} {k : Nat} (hk : k < s.length) : (lowAt s k)[k]? = s[k]? := by
  unfold lowAt lowL
  rw [List.getElem?_append_right (by simp; omega)]
  simp
  congr 1
  omega
theorem lowAt_next {s : List UInt8} {k : Nat} {x : UInt8} (hx : s[k]? = some x) : lowAt s (k + 1) = (lowAt s k).set k (lowB x) := by
  have hk : k < s.length := (List.getElem?_eq_some_iff.1 hx).1
  have hl : (lowL (s.take k)).length = k := by unfold lowL; simp; omega
  have hd : s.drop k = x :: s.drop (k + 1) := by
    rw [List.drop_eq_getElem_cons hk]
    congr 1
    rw [List.getElem?_eq_getElem hk] at hx
    cases hx; rfl
  unfold lowAt
  rw [List.take_add_one, hx, hd]
  unfold lowL
  rw [List.set_append, if_neg (by simp; omega)]
  simp [List.length_take, Nat.min_eq_left (Nat.le_of_lt hk)]
def LowRel (w : World) (g : Nat) (s : List UInt8) (i : Value) (wr : World) : Prop :=
  ∃ k : Nat, k ≤ s.length ∧ i = .int .i64 (k : Int) ∧ Below w.heap.size w wr ∧ g < wr.heap.size ∧ (∀ j x, (lowAt s k)[j]? = some x → wr.cell? ⟨g, j, none⟩ = some (bv x)) ∧ (∀ j, j < s.length → wr.frozen? ⟨g, j, none⟩ = false)
theorem lowRel_next {w wr : World} {g k : Nat} {s : List UInt8} {x : UInt8} {u : Value} (hg : w.heap.size ≤ g) (hx : s[k]? = some x) (hu : u = bv (lowB x)) (hB : Below w.heap.size w wr) (hl : g < wr.heap.size) (hc : ∀ j x, (lowAt s k)[j]? = some x → wr.cell? ⟨g, j, none⟩ = some (bv x)) (hf : ∀ j, j < s.length → wr.frozen? ⟨g, j, none⟩ = false) :
    LowRel w g s (.int .i64 ((k + 1 : Nat) : Int)) (wr.setCell ⟨g, k, none⟩ u) := by
  have hk : k < s.length := (List.getElem?_eq_some_iff.1 hx).1
  refine ⟨k + 1, hk, rfl, hB.setCell hg _, by simpa using hl, fun j y hj => ?_, fun j hj => by rw [World.frozen?_setCell]; exact hf j hj⟩
  rw [lowAt_next hx, List.getElem?_set] at hj
  by_cases hjk : k = j
  · subst hjk
    rw [if_pos rfl, if_pos (by rw [lowAt_len]; exact hk)] at hj
    cases hj
    rw [hu]
    exact World.cell?_setCell_same _ _ _ (hc k x (by rw [lowAt_get hk]; exact hx))
  · rw [if_neg hjk] at hj
    rw [World.cell?_setCell_other _ _ _ _ (by intro e; injection e with _ e2 _; exact hjk e2)]
    exact hc j y hj
theorem lowRel_keep {w wr : World} {g k : Nat} {s : List UInt8} {x : UInt8} (hx : s[k]? = some x) (hu : lowB x = x) (hB : Below w.heap.size w wr) (hl : g < wr.heap.size) (hc : ∀ j x, (lowAt s k)[j]? = some x → wr.cell? ⟨g, j, none⟩ = some (bv x)) (hf : ∀ j, j < s.length → wr.frozen? ⟨g, j, none⟩ = false) :
    LowRel w g s (.int .i64 ((k + 1 : Nat) : Int)) wr := by
  have hk : k < s.length := (List.getElem?_eq_some_iff.1 hx).1
  refine ⟨k + 1, hk, rfl, hB, hl, fun j y hj => ?_, hf⟩
  rw [lowAt_next hx, hu] at hj
  rw [List.getElem?_set] at hj
  by_cases hjk : k = j
  · subst hjk
    rw [if_pos rfl, if_pos (by rw [lowAt_len]; exact hk)] at hj
    cases hj
    exact hc k _ (by rw [lowAt_get hk]; exact hx)
  · rw [if_neg hjk] at hj
    exact hc j y hj
theorem lowAt_zero (s : List UInt8) : lowAt s 0 = s := by unfold lowAt lowL; simp
theorem lowAt_all (s : List UInt8) : lowAt s s.length = lowL s := by unfold lowAt; simp
set_option maxRecDepth 10000 in
set_option maxHeartbeats 1000000 in
theorem lower_ok (s : List UInt8) (w : World) (hs : s.length ≤ 1099511627776) : Calls Tryz.prog 35 #[txt s] w fun e w' => e = .returned (txt (lowL s)) ∧ Below w.heap.size w w' := by
  have hsz : (⟨s.toArray⟩ : ByteArray).size = s.length := by simp [ByteArray.size]
  have hcv := Lib.run_convert_string_bytes (P := Tryz.prog) w 9 87 5 ⟨s.toArray⟩ Tryz.underlying9 Tryz.underlying87 Tryz.underlying5
  rw [hsz] at hcv
  have hat : LowRel w w.heap.size s (.int .i64 0) (Lib.bytesWorld w 5 ⟨s.toArray⟩) := by
    refine ⟨0, Nat.zero_le _, rfl, ⟨rfl, rfl, rfl, by rw [Lib.bytesWorld_size]; omega, fun b hb => Lib.bytesWorld_at_old w _ _ b hb⟩, by rw [Lib.bytesWorld_size]; omega, fun j x hj => ?_, fun j hj => ?_⟩
    · rw [lowAt_zero] at hj
      have hjl : j < s.length := (List.getElem?_eq_some_iff.1 hj).1
      rw [Lib.bytesWorld_cell w _ _ j (by rw [hsz]; exact hjl)]
      simp only [List.getD_eq_getElem?_getD]
      rw [hj]; rfl
    · unfold World.frozen?
      rw [Lib.bytesWorld_at_new]
      have hbs : s.length ≤ (Lib.bytesCells w 5 ⟨s.toArray⟩).size := by simp [Lib.bytesCells]
      simp
      omega
  generalize Lib.bytesWorld w 5 ⟨s.toArray⟩ = w1 at *
  generalize grownCap w s.length 0 5 = cap at *
  unfold txt
  go_enter Tryz.func35, Tryz.ntmps35
  go_wp2_with fail
  go_loopw [10] (fun i wr => LowRel w w.heap.size s i wr) (fun i _ => s.length - (intOf i).toNat)
  case atStart => exact hat
  case round =>
    obtain ⟨k, hk, rfl, hB, hl, hc, hf⟩ := hrel
    clear hat
    by_cases hkl : k < s.length
    · obtain ⟨x, hx⟩ : ∃ x, s[k]? = some x := ⟨_, List.getElem?_eq_getElem hkl⟩
      have hcell : wr.cell? ⟨w.heap.size, k, none⟩ = some (.int .u8 x.toNat) := hc k x (by rw [lowAt_get hkl]; exact hx)
      have hfr := hf k hkl
      have hxb := x.toNat_lt
      by_cases hup : 65 ≤ x ∧ x ≤ 90
      · have h1 : 65 ≤ x.toNat ∧ x.toNat ≤ 90 := by
          obtain ⟨h1, h2⟩ := hup
          rw [UInt8.le_iff_toNat_le] at h1 h2
          exact ⟨h1, h2⟩
        have d1 : decide ((65 : Int) ≤ x.toNat) = true := decide_eq_true (by omega)
        have d2 : decide ((x.toNat : Int) ≤ 90) = true := decide_eq_true (by omega)
        have e1 : IntKind.u8.wrap ((x.toNat : Int) + 97) = (x.toNat : Int) + 97 := by rw [IntKind.wrap_u8]; omega
        have e2 : IntKind.u8.wrap ((x.toNat : Int) + 97 - 65) = (x.toNat : Int) + 32 := by rw [IntKind.wrap_u8]; omega
        have hu : (Value.int .u8 ((x.toNat : Int) + 32)) = bv (lowB x) := by
          unfold bv lowB
          rw [if_pos hup, UInt8.toNat_add]
          congr 1
          have : (32 : UInt8).toNat = 32 := rfl
          rw [this]
          omega
        have D := Lib.hid (lowRel_next (Nat.le_refl _) hx hu hB hl hc hf)
        clear hB hc hf hx hu hup h1
        go_wp2_with fail
        go_roundw
        case rel => exact D.out
        case measure => simp [intOf]; omega
      · have hu : lowB x = x := if_neg hup
        have D := Lib.hid (lowRel_keep hx hu hB hl hc hf)
        have hd : decide ((65 : Int) ≤ x.toNat) = true → decide ((x.toNat : Int) ≤ 90) = false := by
          intro h
          have h3 := of_decide_eq_true h
          apply decide_eq_false
          intro h4
          exact hup ⟨by rw [UInt8.le_iff_toNat_le]; show 65 ≤ x.toNat; omega, by rw [UInt8.le_iff_toNat_le]; show x.toNat ≤ 90; omega⟩
        clear hB hc hf hx hu hup
        rcases hq : decide ((65 : Int) ≤ x.toNat) with _ | _
        · clear hd
          go_wp2_with fail
          go_roundw
          case rel => exact D.out
          case measure => simp [intOf]; omega
        · have hq2 := hd hq
          clear hd
          go_wp2_with fail
          go_roundw
          case rel => exact D.out
          case measure => simp [intOf]; omega
    · obtain rfl : k = s.length := by omega
      rw [lowAt_all] at hc
      have hcv := run_bytes_text wr w.heap.size cap (lowL s) hc s.length (by simp [lowL])
      have HB := Lib.hid hB
      clear hB hc hf
      go_wp2_with fail
      go_ret
      exact ⟨rfl, HB.out⟩
end Go.Proofs.YtgmmeeikjofefaaGreatDoor
