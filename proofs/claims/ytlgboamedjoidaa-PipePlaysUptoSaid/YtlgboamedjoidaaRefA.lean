import Derived.Test.YtlgboamedjoidaaRef
namespace Go.Proofs.Ytlgboamedjoidaa
open Go Go.RowKit
section
variable {o o' : Roles} {w w' : World} {r s : List Nat} {p win : Nat} {L : List CI}

def RDid (o : Roles) (w : World) (r : List Nat) (p win : Nat) (L : List CI) (v : Value) (e : Ending) (w' : World) : Prop :=
  e = .returned v ∧ ∃ o', Ref o' w' r p win L ∧ Stp r o w o' w'
theorem RDid.same (h : Ref o w r p win L) (v : Value) (k : Nat) : RDid o w r p win L v (.returned v) (w.drewN k) := ⟨rfl, o, h.drewN k, (Stp.refl r o w).drewN k⟩
theorem RDid.of {L' : List CI} (h : Ref o' w' r p win L') (st : Stp r o w o' w') (v : Value) (k : Nat) : RDid o w r p win L' v (.returned v) (w'.drewN k) := ⟨rfl, o', h.drewN k, st.drewN k⟩
theorem set_self {L : List CI} {i : Nat} {c : CI} (h : L[i]? = some c) : L.set i c = L := by
  obtain ⟨hi, e⟩ := List.getElem?_eq_some_iff.1 h
  rw [← e, List.set_getElem_self]

set_option maxHeartbeats 400000 in
theorem RSend_out (h : Ref o w r p win L) (c : Int) (hb : outL L c) (s : ByteArray) : Calls Try.prog 26 #[ptr p, .int .i64 c, .string s] w (RDid o w r p win L (.int .i64 60)) := by
  have H := client_out h c hb
  have D := RDid.same h (.int .i64 60) 0
  clear h hb
  unfold ptr at *
  try unfold txt at *
  go_enter Try.func26, Try.ntmps26
  go_wp2_with (go_at_call 50; refine H.mono ?_; rintro e w' ⟨rfl, rfl⟩)
  go_ret
  exact D

set_option maxHeartbeats 400000 in
theorem REnd_out (h : Ref o w r p win L) (c : Int) (hb : outL L c) : Calls Try.prog 28 #[ptr p, .int .i64 c] w (RDid o w r p win L (.int .i64 60)) := by
  have H := client_out h c hb
  have D := RDid.same h (.int .i64 60) 0
  clear h hb
  unfold ptr at *
  try unfold txt at *
  go_enter Try.func28, Try.ntmps28
  go_wp2_with (go_at_call 50; refine H.mono ?_; rintro e w' ⟨rfl, rfl⟩)
  go_ret
  exact D

set_option maxHeartbeats 400000 in
theorem RTake_out (h : Ref o w r p win L) (c : Int) (hb : outL L c) (m : Int) : Calls Try.prog 29 #[ptr p, .int .i64 c, .int .i64 m] w (RDid o w r p win L (.tuple #[txt [], .int .i64 60])) := by
  have H := has_out h c hb
  have D := RDid.same h (.tuple #[txt [], .int .i64 60]) 0
  clear h hb
  unfold ptr at *
  try unfold txt at *
  go_enter Try.func29, Try.ntmps29
  go_wp2_with (go_at_call 51; refine H.mono ?_; rintro e w' ⟨rfl, rfl⟩)
  go_ret2
  exact D

set_option maxHeartbeats 400000 in
theorem RCut_out (h : Ref o w r p win L) (c : Int) (hb : outL L c) : Calls Try.prog 31 #[ptr p, .int .i64 c] w (RDid o w r p win L (.int .i64 60)) := by
  have H := has_out h c hb
  have D := RDid.same h (.int .i64 60) 0
  clear h hb
  unfold ptr at *
  try unfold txt at *
  go_enter Try.func31, Try.ntmps31
  go_wp2_with (go_at_call 51; refine H.mono ?_; rintro e w' ⟨rfl, rfl⟩)
  go_ret
  exact D

set_option maxHeartbeats 400000 in
theorem RRead_out (h : Ref o w r p win L) (c : Int) (hb : outL L c) (m : Int) : Calls Try.prog 33 #[ptr p, .int .i64 c, .int .i64 m] w (RDid o w r p win L (.tuple #[txt [], .bool false, .int .i64 60])) := by
  have H := server_out h c hb
  have D := RDid.same h (.tuple #[txt [], .bool false, .int .i64 60]) 0
  clear h hb
  unfold ptr at *
  try unfold txt at *
  go_enter Try.func33, Try.ntmps33
  go_wp2_with (go_at_call 52; refine H.mono ?_; rintro e w' ⟨rfl, rfl⟩)
  go_ret3
  exact D

set_option maxHeartbeats 400000 in
theorem RWrite_out (h : Ref o w r p win L) (c : Int) (hb : outL L c) (s : ByteArray) : Calls Try.prog 34 #[ptr p, .int .i64 c, .string s] w (RDid o w r p win L (.tuple #[.int .i64 0, .int .i64 60])) := by
  have H := server_out h c hb
  have D := RDid.same h (.tuple #[.int .i64 0, .int .i64 60]) 0
  clear h hb
  unfold ptr at *
  try unfold txt at *
  go_enter Try.func34, Try.ntmps34
  go_wp2_with (go_at_call 52; refine H.mono ?_; rintro e w' ⟨rfl, rfl⟩)
  go_ret2
  exact D

set_option maxHeartbeats 400000 in
theorem RClose_out (h : Ref o w r p win L) (c : Int) (hb : outL L c) : Calls Try.prog 36 #[ptr p, .int .i64 c] w (RDid o w r p win L (.int .i64 60)) := by
  have H := server_out h c hb
  have D := RDid.same h (.int .i64 60) 0
  clear h hb
  unfold ptr at *
  try unfold txt at *
  go_enter Try.func36, Try.ntmps36
  go_wp2_with (go_at_call 52; refine H.mono ?_; rintro e w' ⟨rfl, rfl⟩)
  go_ret
  exact D

set_option maxHeartbeats 1000000 in
theorem REnd_in (h : Ref o w r p win L) {i : Nat} {c : CI} (hi : L[i]? = some c) : Calls Try.prog 28 #[ptr p, .int .i64 i] w (RDid o w r p win (L.set i (if sendE c = 0 then c.end_ else c)) (if sendE c = 0 then .int .i64 0 else .int .i64 (sendE c))) := by
  have H := client_in h hi
  have hf : i < 1024 := by obtain ⟨_, h⟩ := h; exact Nat.lt_of_lt_of_le (List.getElem?_eq_some_iff.1 hi).1 h.few
  have hil : i < L.length := (List.getElem?_eq_some_iff.1 hi).1
  by_cases hE : sendE c = 0
  · rw [hE] at H
    simp only [if_pos hE]
    obtain ⟨lv, h⟩ := h
    have hc := h.blk.cell
    obtain ⟨g, cap, hv, hcell, hfr, hgp, hpg, hput⟩ := h.elem hi
    obtain ⟨hG, hrd, htk⟩ := h.ok c (List.mem_of_getElem? hi)
    have hfew := h.few
    have hwin := h.winle
    subst hv
    unfold GoodC at *
    have c0 := hcell 5 _ rfl
    obtain ⟨hR, hS⟩ := hput 5 (.bool true) c.end_ (by decide) rfl ⟨hG, hrd, htk⟩
    have D := RDid.of hR hS (.int .i64 0) 0
    clear h hcell hput hR hS hE hi

    unfold ptr at *
    try unfold txt at *
    go_enter Try.func28, Try.ntmps28
    go_wp2_with (go_at_call 50; refine H.mono ?_; rintro e w' ⟨rfl, rfl⟩)
    go_ret
    exact D

  · simp only [if_neg hE]
    rw [set_self hi]
    have D := RDid.same h (.int .i64 (sendE c)) 0
    have hq : ((sendE c) == 0) = false := by simpa using hE
    generalize sendE c = E at *
    clear h hi hE
    unfold ptr at *
    try unfold txt at *
    go_enter Try.func28, Try.ntmps28
    go_wp2_with (go_at_call 50; refine H.mono ?_; rintro e w' ⟨rfl, rfl⟩)
    go_ret
    exact D

set_option maxHeartbeats 1000000 in
theorem RClose_in (h : Ref o w r p win L) {i : Nat} {c : CI} (hi : L[i]? = some c) : Calls Try.prog 36 #[ptr p, .int .i64 i] w (RDid o w r p win (L.set i (if servedE c = 0 then c.close_ else c)) (if servedE c = 0 then .int .i64 0 else .int .i64 (servedE c))) := by
  have H := server_in h hi
  have hf : i < 1024 := by obtain ⟨_, h⟩ := h; exact Nat.lt_of_lt_of_le (List.getElem?_eq_some_iff.1 hi).1 h.few
  have hil : i < L.length := (List.getElem?_eq_some_iff.1 hi).1
  by_cases hE : servedE c = 0
  · rw [hE] at H
    simp only [if_pos hE]
    obtain ⟨lv, h⟩ := h
    have hc := h.blk.cell
    obtain ⟨g, cap, hv, hcell, hfr, hgp, hpg, hput⟩ := h.elem hi
    obtain ⟨hG, hrd, htk⟩ := h.ok c (List.mem_of_getElem? hi)
    have hfew := h.few
    have hwin := h.winle
    subst hv
    unfold GoodC at *
    have c0 := hcell 6 _ rfl
    obtain ⟨hR, hS⟩ := hput 6 (.bool true) c.close_ (by decide) rfl ⟨hG, hrd, htk⟩
    have D := RDid.of hR hS (.int .i64 0) 0
    clear h hcell hput hR hS hE hi

    unfold ptr at *
    try unfold txt at *
    go_enter Try.func36, Try.ntmps36
    go_wp2_with (go_at_call 52; refine H.mono ?_; rintro e w' ⟨rfl, rfl⟩)
    go_ret
    exact D

  · simp only [if_neg hE]
    rw [set_self hi]
    have D := RDid.same h (.int .i64 (servedE c)) 0
    have hq : ((servedE c) == 0) = false := by simpa using hE
    generalize servedE c = E at *
    clear h hi hE
    unfold ptr at *
    try unfold txt at *
    go_enter Try.func36, Try.ntmps36
    go_wp2_with (go_at_call 52; refine H.mono ?_; rintro e w' ⟨rfl, rfl⟩)
    go_ret
    exact D

set_option maxHeartbeats 1000000 in
theorem RSend_in (h : Ref o w r p win L) {i : Nat} {c : CI} (hi : L[i]? = some c) (s : List UInt8) (hs : c.up.length + s.length ≤ 1048576) : Calls Try.prog 26 #[ptr p, .int .i64 i, .string ⟨s.toArray⟩] w (RDid o w r p win (L.set i (if sendE c = 0 then c.put_ s else c)) (if sendE c = 0 then .int .i64 0 else .int .i64 (sendE c))) := by
  have H := client_in h hi
  have hf : i < 1024 := by obtain ⟨_, h⟩ := h; exact Nat.lt_of_lt_of_le (List.getElem?_eq_some_iff.1 hi).1 h.few
  have hil : i < L.length := (List.getElem?_eq_some_iff.1 hi).1
  by_cases hE : sendE c = 0
  · rw [hE] at H
    simp only [if_pos hE]
    obtain ⟨lv, h⟩ := h
    have hc := h.blk.cell
    obtain ⟨g, cap, hv, hcell, hfr, hgp, hpg, hput⟩ := h.elem hi
    obtain ⟨hG, hrd, htk⟩ := h.ok c (List.mem_of_getElem? hi)
    have hfew := h.few
    have hwin := h.winle
    subst hv
    unfold GoodC at *
    have c0 : w.cell? ⟨g, i * 8, none⟩ = some (txt c.up) := hcell 0 _ rfl
    obtain ⟨hR, hS⟩ := hput 0 (txt (c.up ++ s)) (c.put_ s) (by decide) rfl ⟨by simp only [CI.put_, List.length_append]; exact ⟨hs, hG.2⟩, by simp only [CI.put_, List.length_append]; omega, htk⟩
    have D := fun k => RDid.of hR hS (.int .i64 0) k
    have eA := app_text c.up s
    have hcc : ¬ 9223372036854775807 < c.up.length + s.length := by omega
    simp only [Nat.add_zero] at D
    generalize c.up ++ s = A at *
    clear h hcell hput hR hS hE hi hG hrd htk hs

    unfold ptr at *
    try unfold txt at *
    go_enter Try.func26, Try.ntmps26
    go_wp2_with (go_at_call 50; refine H.mono ?_; rintro e w' ⟨rfl, rfl⟩)
    go_region
    go_wp2
    go_ret
    exact D 1

  · simp only [if_neg hE]
    rw [set_self hi]
    have D := RDid.same h (.int .i64 (sendE c)) 0
    have hq : ((sendE c) == 0) = false := by simpa using hE
    generalize sendE c = E at *
    clear h hi hE
    unfold ptr at *
    try unfold txt at *
    go_enter Try.func26, Try.ntmps26
    go_wp2_with (go_at_call 50; refine H.mono ?_; rintro e w' ⟨rfl, rfl⟩)
    go_ret
    exact D
end
end Go.Proofs.Ytlgboamedjoidaa
