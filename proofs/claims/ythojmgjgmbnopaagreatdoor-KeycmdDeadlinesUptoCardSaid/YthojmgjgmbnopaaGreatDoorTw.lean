import Derived.Test.YthojmgjgmbnopaaGreatDoorRn
import Derived.Test.YthojmgjgmbnopaaGreatDoorTa
import Derived.Test.YthojmgjgmbnopaaGreatDoorTg
namespace Go.Proofs.YthojmgjgmbnopaaGreatDoor
open Go Go.RowKit
/-! What serves: incrby, decrby, incr, get, append. -/
def Rf.rp (r : Rf) : RP := ⟨r.kind, r.text, r.n, []⟩
section
variable {w : World} {q : List Nat} {p : Nat} {c : Cnt} {S : SP} {now : Int} {K : SP → Cnt → Prop}
theorem serves_get (hq : q ≠ []) {nm k : Tx} {V : VV} (hV : ((S.at now k).getD hd0).v = V) {ok : Bool} (hok : (S.at now k).isSome = ok) (hk1 : (ok && V.kind != 1) = false) (hK : K S c) :
    ServesT 103 w q p now S c nm [k] (Rf.rp (if ok then ⟨4, V.text, 0⟩ else ⟨5, [], 0⟩)) K :=
  fun _ _ _ _ _ hj _ _ hcb hv => (tget_ok hj hq hcb (hv.imp (fun _ hb => hb.1)) hV hok hk1).mono fun _ _ h => h.repL hK
theorem serves_incrby (hq : q ≠ []) (hT : Tbl w) (dec : Bool) {k y : Tx} {n : Int} (hy : parseN y = some n) (hyl : y.length ≤ 1099511627776) (hdn : dec = true → n ≠ -9223372036854775808) {V : VV} (hV : ((S.at now k).getD hd0).v = V) (hok : (S.at now k).isSome = true) (hk1 : V.kind = 1) {m : Int} (hm : parseN V.text = some m)
    (hc : c.num ≤ 4611686018427387000) (hf : c.few ≤ 1099511627000) {s : Int} (hs : s = m + (if dec then -n else n)) (hK : K (S.incS c now k s) (c.incS s)) :
    ServesT 102 w q p now S c (if dec then decrbyB else incrbyB) [k, y] (incF s).rp K :=
  fun _ _ _ _ _ hj hm1 hB hcb hv => (tincrby_ok hj hq hm1 (hT.below hB) dec hcb (hv.imp (fun _ hb => hb.1)) hy hyl hdn hV hok hk1 hm hc hf hs).mono fun _ _ h => h.repL hK
theorem serves_incr0 (hq : q ≠ []) (hT : Tbl w) {k : Tx} (hok : S.at now k = none) (hc : c.num ≤ 4611686018427387000) (hf : c.few ≤ 1099511627000) (hK : K (S.keepT now k [49] (c.num + 1)) c.next) :
    ServesT 102 w q p now S c incrB [k] (Rf.rp ⟨3, [], 1⟩) K :=
  fun _ _ _ _ _ hj hm1 hB hcb hv => (tincr0_ok hj hq hm1 (hT.below hB) hcb (hv.imp (fun _ hb => hb.1)) hok hc hf).mono fun _ _ h => h.repL hK
theorem serves_append (hq : q ≠ []) {nm k y : Tx} {V : VV} (hV : ((S.at now k).getD hd0).v = V) {ok : Bool} (hok : (S.at now k).isSome = ok) (hk1 : (ok && V.kind != 1) = false)
    (hl : V.text.length + y.length ≤ 1048576) (hc : c.num ≤ 4611686018427387000) (hf : c.few ≤ 1099511627000) (hK : K (S.keepT now k (V.text ++ y) (c.num + 1)) c.next) :
    ServesT 98 w q p now S c nm [k, y] (Rf.rp ⟨3, [], (V.text.length : Int) + (y.length : Int)⟩) K :=
  fun _ _ _ _ _ hj hm1 _ hcb hv => (tappend_ok hj hq hm1 hcb hv hV hok hk1 hl hc hf).mono fun _ _ h => h.repL hK
end
theorem goes_incr : Goes incrB 102 := by unfold Goes; kernel_rfl
theorem goes_incrby : Goes incrbyB 102 := by unfold Goes; kernel_rfl
theorem goes_decrby : Goes decrbyB 102 := by unfold Goes; kernel_rfl
theorem goes_get : Goes [103, 101, 116] 103 := by unfold Goes; kernel_rfl
theorem goes_append : Goes [97, 112, 112, 101, 110, 100] 98 := by unfold Goes; kernel_rfl
end Go.Proofs.YthojmgjgmbnopaaGreatDoor
