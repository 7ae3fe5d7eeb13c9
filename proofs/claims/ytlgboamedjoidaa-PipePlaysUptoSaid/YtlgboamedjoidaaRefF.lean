import Derived.Test.YtlgboamedjoidaaRefE
namespace Go.Proofs.Ytlgboamedjoidaa
open Go Go.RowKit
section
variable {o o' : Roles} {w w' : World} {r s : List Nat} {p win : Nat} {L : List CI}
def AccL (L : List CI) (next : Nat) : Prop := ∀ j c, L[j]? = some c → c.acc = decide (j < next)

set_option maxHeartbeats 1000000 in
theorem RAccept_none (h : Ref o w r p win L) {next : Nat} (ha : AccL L next) (hn : next = L.length) : Calls Try.prog 32 #[ptr p] w fun e w' => e = .returned (.tuple #[.int .i64 0, .bool false]) ∧ w' = w := by
  obtain ⟨lv, h⟩ := h
  have hc := h.blk.cell
  have hfew := h.few
  have hel : ∀ i, i < L.length → ∃ g cap, lv = .slice (some ⟨g, 0, none⟩) L.length cap ∧ w.cell? ⟨g, i * 8 + 4, none⟩ = some (.bool true) := fun i hi => by
    obtain ⟨g, cap, hv, hcell, _⟩ := h.elem (List.getElem?_eq_getElem hi)
    refine ⟨g, cap, hv, ?_⟩
    rw [hcell 4 _ rfl, ha i _ (List.getElem?_eq_getElem hi)]
    simp; omega
  obtain ⟨a, cap, hv, _⟩ := h.row.slice
  have Hel := Lib.hid hel
  clear h ha hn hel
  subst hv
  unfold ptr at *
  go_enter Try.func32, Try.ntmps32
  go_wp2_with fail
  go_loop [4] (fun i => ∃ k : Nat, k ≤ L.length ∧ i = .int .i64 k) (fun i => L.length - (intOf i).toNat)
  case atStart => exact ⟨0, Nat.zero_le _, rfl⟩
  case round =>
    obtain ⟨k, hk, rfl⟩ := hrel
    by_cases hlt : k < L.length
    · obtain ⟨g, cap', hv, hcell⟩ := Hel.out k hlt
      cases hv
      go_wp2_with fail
      go_round
      case rel => exact ⟨k + 1, by omega, by go_num⟩
      case measure => simp [intOf]; omega
    · go_wp2_with fail
      go_ret2
      exact ⟨rfl, rfl⟩

set_option maxHeartbeats 1000000 in
theorem RAccept_some (h : Ref o w r p win L) {next : Nat} {c : CI} (ha : AccL L next) (hi : L[next]? = some c) :
    Calls Try.prog 32 #[ptr p] w (RDid o w r p win (L.set next c.accept_) (.tuple #[.int .i64 next, .bool true])) := by
  obtain ⟨lv, h⟩ := h
  have hc := h.blk.cell
  have hfew := h.few
  have hnl : next < L.length := (List.getElem?_eq_some_iff.1 hi).1
  obtain ⟨g, cap, hv, hcell, hfr, hgp, hpg, hput⟩ := h.elem hi
  have hel : ∀ i, i < next → w.cell? ⟨g, i * 8 + 4, none⟩ = some (.bool true) := fun i hi' => by
    have hil : i < L.length := by omega
    obtain ⟨g', cap', hv', hcell', _⟩ := h.elem (List.getElem?_eq_getElem hil)
    rw [hv] at hv'; cases hv'
    rw [hcell' 4 _ rfl, ha i _ (List.getElem?_eq_getElem hil)]
    simp; omega
  have c4 : w.cell? ⟨g, next * 8 + 4, none⟩ = some (.bool false) := by
    rw [hcell 4 _ rfl, ha next _ hi]; simp
  obtain ⟨hG, hrd, htk⟩ := h.ok c (List.mem_of_getElem? hi)
  obtain ⟨hR, hS⟩ := hput 4 (.bool true) c.accept_ (by decide) rfl ⟨hG, hrd, htk⟩
  have D := RDid.of hR hS (.tuple #[.int .i64 next, .bool true]) 0
  have Hel := Lib.hid hel
  clear h ha hi hel hcell hput hR hS hG hrd htk
  subst hv
  unfold ptr at *
  go_enter Try.func32, Try.ntmps32
  go_wp2_with fail
  go_loop [4] (fun i => ∃ k : Nat, k ≤ next ∧ i = .int .i64 k) (fun i => next - (intOf i).toNat)
  case atStart => exact ⟨0, Nat.zero_le _, rfl⟩
  case round =>
    obtain ⟨k, hk, rfl⟩ := hrel
    have hkL : k < L.length := by omega
    by_cases hlt : k < next
    · have hcell := Hel.out k hlt
      go_wp2_with fail
      go_round
      case rel => exact ⟨k + 1, by omega, by go_num⟩
      case measure => simp [intOf]; omega
    · obtain rfl : k = next := by omega
      go_wp2_with fail
      go_ret2
      exact D
end
end Go.Proofs.Ytlgboamedjoidaa
