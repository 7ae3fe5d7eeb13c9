import Derived.Test.YtgmmeeikjofefaaGreatDoorKx
namespace Go.Proofs.YtgmmeeikjofefaaGreatDoor
open Go Go.RowKit
/-! The law's own small functions. -/
set_option maxRecDepth 10000 in
theorem lawnumber_ok (w : World) (t : List UInt8) (n : Int) (a : Option Addr) (ln cap : Nat) : Calls Tryz.prog 16 #[.agg #[.int .i64 3, .string ⟨t.toArray⟩, .int .i64 n, .slice a ln cap], .int .i64 n] w fun e w' => e = .returned (.bool true) ∧ Below w.heap.size w w' := by
  go_enter Tryz.func16, Tryz.ntmps16
  go_wp2_with fail
  go_ret
  exact ⟨rfl, (Below.refl _ _).alloc (Nat.le_refl _) _⟩
set_option maxRecDepth 10000 in
theorem lawbulk_ok (w : World) (t : List UInt8) (n : Int) (a : Option Addr) (ln cap : Nat) : Calls Tryz.prog 14 #[.agg #[.int .i64 4, .string ⟨t.toArray⟩, .int .i64 n, .slice a ln cap], txt t] w fun e w' => e = .returned (.bool true) ∧ Below w.heap.size w w' := by
  unfold txt
  go_enter Tryz.func14, Tryz.ntmps14
  go_wp2_with fail
  go_ret
  exact ⟨rfl, (Below.refl _ _).alloc (Nat.le_refl _) _⟩
theorem lawside_ok (w : World) (left : Bool) : Calls Tryz.prog 15 #[.bool left] w fun e w' => e = .returned (txt (if left then leftB else [82, 73, 71, 72, 84])) ∧ w' = w := by
  cases left <;> (
    go_enter Tryz.func15, Tryz.ntmps15
    go_wp2_with fail
    go_ret
    exact ⟨rfl, rfl⟩)
set_option maxRecDepth 10000 in
theorem lawshort_ok {A : Nat → Prop} {w : World} {v : Value} {l : List (List UInt8)} (hv : Vw A w v 1 l.length (l.map txt)) (hs : ∀ x ∈ l, x.length ≤ 1048576) (hn : l.length ≤ 1099511627776) :
    Calls Tryz.prog 12 #[v] w fun e w' => e = .returned (.bool true) ∧ w' = w := by
  obtain ⟨a, cap, rfl, hcap, _⟩ := id hv.slice
  have HV := Lib.hid hv
  have HS := Lib.hid hs
  clear hv hs
  go_enter Tryz.func12, Tryz.ntmps12
  go_wp2_with fail
  go_loopw [3] (fun i wr => ∃ k : Nat, k ≤ l.length ∧ i = .int .i64 (k : Int) ∧ wr = w) (fun i _ => l.length - (intOf i).toNat)
  case atStart => exact ⟨0, Nat.zero_le _, rfl, rfl⟩
  case round =>
    obtain ⟨k, hk, rfl, rfl⟩ := hrel
    by_cases hkl : k < l.length
    · obtain ⟨x, hx⟩ : ∃ x, l[k]? = some x := ⟨_, List.getElem?_eq_getElem hkl⟩
      obtain ⟨b, off, rfl, _, _, hg⟩ := vw_get HV.out (by omega)
      have hcell := hg k x hx
      have hkI : (0 : Int) ≤ k ∧ (k : Int) < l.length := by omega
      have hsx := HS.out x (List.mem_of_getElem? hx)
      clear hg hx
      go_wp2_with fail
      exact ⟨⟨k + 1, hkl, by simp, trivial⟩, by simp [intOf]; omega⟩
    · obtain rfl : k = l.length := by omega
      clear HS
      go_wp2_with fail
      go_ret
      exact ⟨rfl, rfl⟩
/-- A reply's rows. -/
theorem vw_rf {A : Nat → Prop} {w : World} {a : Option Addr} {n cap : Nat} {L : List Rf} (h : Vw A w (.slice a n cap) 4 n (rfsC L)) {k : Nat} {y : Rf} (hy : L[k]? = some y) : ∃ b off, a = some ⟨b, off, none⟩ ∧ n ≤ cap ∧ b < w.heap.size ∧
    w.cell? ⟨b, off + k * 4, none⟩ = some (.int .i64 (y.kind : Int)) ∧ w.cell? ⟨b, off + k * 4 + 1, none⟩ = some (.string ⟨y.text.toArray⟩) ∧ w.cell? ⟨b, off + k * 4 + 2, none⟩ = some (.int .i64 y.n) ∧ w.cell? ⟨b, off + k * 4 + 3, none⟩ = some (.slice none 0 0) := by
  have hlen : L.length = n := by have := h.len; rw [rfsC_len] at this; omega
  have hk : k < L.length := (List.getElem?_eq_some_iff.1 hy).1
  obtain ⟨⟨a', c', e, h1, h2, h3⟩, h4⟩ := h
  injection e with e1 e2 e3
  subst e1 e3
  rcases h3 with h3 | ⟨b, off, rfl, g5, g6, g7⟩
  · omega
  have hd : L = L.take k ++ y :: L.drop (k + 1) := by
    have e1 : L.drop k = y :: L.drop (k + 1) := by
      rw [List.drop_eq_getElem_cons hk]
      congr 1
      rw [List.getElem?_eq_getElem hk] at hy
      cases hy; rfl
    rw [← e1, List.take_append_drop]
  have hc : ∀ j u, (rfC y)[j]? = some u → w.cell? ⟨b, off + k * 4 + j, none⟩ = some u := by
    intro j u hj
    have hj4 : j < 4 := (List.getElem?_eq_some_iff.1 hj).1
    have := g7 (k * 4 + j) u (by
      rw [hd, rfsC_app, List.getElem?_append_right (by rw [rfsC_len, List.length_take]; omega)]
      rw [rfsC_len, List.length_take, Nat.min_eq_left (Nat.le_of_lt hk)]
      show (rfC y ++ rfsC (L.drop (k + 1)))[_]? = _
      rw [show k * 4 + j - k * 4 = j by omega, List.getElem?_append_left (by simpa [rfC] using hj4)]
      exact hj)
    rw [← Nat.add_assoc] at this; exact this
  exact ⟨b, off, rfl, h1, g5, by simpa using hc 0 _ rfl, hc 1 _ rfl, hc 2 _ rfl, hc 3 _ rfl⟩
def BksRel (w : World) (a : Option Addr) (n cap : Nat) (i : Value) (wr : World) : Prop :=
  ∃ k : Nat, k ≤ n ∧ i = .int .i64 (k : Int) ∧ Below w.heap.size w wr ∧ Blk none0 wr [] w.heap.size #[.int .i64 6, .string ⟨#[]⟩, .int .i64 0, .slice a n cap] 29
set_option maxRecDepth 10000 in
set_option maxHeartbeats 4000000 in
theorem lawbulks_ok {A B : Nat → Prop} {w : World} {a : Option Addr} {cap : Nat} {v : Value} {l : List (List UInt8)} (hr : Vw B w (.slice a l.length cap) 4 l.length (rfsC (l.map bulkF))) (hv : Vw A w v 1 l.length (l.map txt)) (hn : l.length ≤ 1099511627776) :
    Calls Tryz.prog 17 #[.agg #[.int .i64 6, .string ⟨#[]⟩, .int .i64 0, .slice a l.length cap], v] w fun e w' => e = .returned (.bool true) ∧ Below w.heap.size w w' := by
  obtain ⟨a1, cap1, rfl, hcap1, _⟩ := id hv.slice
  have HV := Lib.hid hv
  have HR := Lib.hid hr
  clear hv hr
  have hat : BksRel w a l.length cap (.int .i64 0) (w.alloc (.cells #[.int .i64 6, .string ⟨#[]⟩, .int .i64 0, .slice a l.length cap] 29)) :=
    ⟨0, Nat.zero_le _, rfl, (Below.refl _ _).alloc (Nat.le_refl _) _, heap_alloc_new w _, rfl⟩
  go_enter Tryz.func17, Tryz.ntmps17
  go_wp2_with fail
  go_loopw [5] (fun i wr => BksRel w a l.length cap i wr) (fun i _ => l.length - (intOf i).toNat)
  case atStart => exact hat
  case round =>
    obtain ⟨k, hk, rfl, hB, hblk⟩ := hrel
    clear hat
    by_cases hkl : k < l.length
    · obtain ⟨x, hx⟩ : ∃ x, l[k]? = some x := ⟨_, List.getElem?_eq_getElem hkl⟩
      obtain ⟨b, off, rfl, _, hbl, hg⟩ := vw_get HV.out (by omega)
      have hcell0 := hg k x hx
      obtain ⟨b2, off2, rfl, hcap2, hbl2, c0, c1, c2, c3⟩ := vw_rf HR.out (k := k) (y := bulkF x) (by rw [List.getElem?_map, hx]; rfl)
      have hlb : b < w.heap.size := World.block_lt_of_cell? _ _ hcell0
      have hcell : wr.cell? ⟨b, off + k, none⟩ = some (.string ⟨x.toArray⟩) := by rw [(bcell hB).1 _ _ hlb]; exact hcell0
      have d0 : wr.cell? ⟨b2, off2 + k * 4, none⟩ = some (.int .i64 4) := by rw [(bcell hB).1 _ _ hbl2]; exact c0
      have d1 : wr.cell? ⟨b2, off2 + k * 4 + 1, none⟩ = some (.string ⟨x.toArray⟩) := by rw [(bcell hB).1 _ _ hbl2]; exact c1
      have d2 : wr.cell? ⟨b2, off2 + k * 4 + 2, none⟩ = some (.int .i64 0) := by rw [(bcell hB).1 _ _ hbl2]; exact c2
      have d3 : wr.cell? ⟨b2, off2 + k * 4 + 3, none⟩ = some (.slice none 0 0) := by rw [(bcell hB).1 _ _ hbl2]; exact c3
      have hkI : (0 : Int) ≤ k ∧ (k : Int) < l.length := by omega
      have hld := hblk.cell
      have HB := Lib.hid hB
      have HBLK := Lib.hid hblk
      have HBU := Lib.hid (fun W => lawbulk_ok W x 0 none 0 0)
      unfold txt at HBU
      clear hg hx hcell0 c0 c1 c2 c3 hB hblk HV HR
      go_wp2_with fail
      go_region_with (
        go_at_call 14
        (with_reducible refine (HBU.out _).mono ?_)
        rintro e w3 ⟨rfl, hB3⟩
        have hB3' : Below wr.heap.size wr w3 := (Below.refl _ _).drew.trans hB3
        have D := Lib.hid (show BksRel w (some ⟨b2, off2, none⟩) l.length cap (.int .i64 ((k + 1 : Nat) : Int)) w3 from ⟨k + 1, hkl, rfl, HB.out.trans (hB3'.mono HB.out.size), HBLK.out.below hB3'⟩)
        clear hB3 hB3')
      all_goals (
        clear HB HBLK HBU hcell d0 d1 d2 d3 hld
        go_wp2_with fail
        go_roundw
        case rel => exact D.out
        case measure => simp [intOf]; omega)
    · obtain rfl : k = l.length := by omega
      have HB := Lib.hid hB
      clear HV HR hB hblk
      go_wp2_with fail
      go_ret
      exact ⟨rfl, HB.out⟩
end Go.Proofs.YtgmmeeikjofefaaGreatDoor
