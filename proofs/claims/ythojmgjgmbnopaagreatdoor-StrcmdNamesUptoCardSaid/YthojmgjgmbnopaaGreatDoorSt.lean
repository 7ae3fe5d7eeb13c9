/- Contracts of the library at this program, as the kit's tools have laid them (some of them). -/
import Derived.Shelf.Sort.Plain
import Derived.Shelf.LaysC
import Derived.Shelf.LaysM
import Derived.Test.YthojmgjgmbnopaaGreatDoorProg
namespace Go.Proofs
open Go.Shelf Go.RowKit Go.Sort Go.Lib
def Tryz.lays190_ren : Go.Shelf.Ren := ⟨fun | 190 => 86 | 125 => 171 | 258 => 170 | 128 => 232 | 129 => 233 | 302 => 223 | 303 => 224 | 304 => 225 | 305 => 226 | 306 => 227 | 307 => 228 | 308 => 229 | 309 => 230 | 310 => 231 | 333 => 265 | 329 => 266 | 330 => 267 | 334 => 268 | 335 => 269 | 336 => 270 | 344 => 288 | n => n, fun | 31 => 39 | 9 => 9 | 3 => 3 | 46 => 188 | 0 => 0 | 51 => 261 | 53 => 76 | 4 => 4 | 183 => 255 | 182 => 254 | 131 => 34 | 5 => 5 | 218 => 281 | 222 => 284 | 228 => 301 | 229 => 46 | n => n, fun | n => n⟩
theorem Tryz.lays190 : Go.Proofs.Lays.n190 Tryz.prog Tryz.lays190_ren := {
  mixed := by kernel_rfl
  f125 := Tryz.func171.trans (congrArg some (by kernel_rfl))
  f128 := Tryz.func232.trans (congrArg some (by kernel_rfl))
  f129 := Tryz.func233.trans (congrArg some (by kernel_rfl))
  f190 := Tryz.func86.trans (congrArg some (by kernel_rfl))
  f258 := Tryz.func170.trans (congrArg some (by kernel_rfl))
  f302 := Tryz.func223.trans (congrArg some (by kernel_rfl))
  f303 := Tryz.func224.trans (congrArg some (by kernel_rfl))
  f304 := Tryz.func225.trans (congrArg some (by kernel_rfl))
  f305 := Tryz.func226.trans (congrArg some (by kernel_rfl))
  f306 := Tryz.func227.trans (congrArg some (by kernel_rfl))
  f307 := Tryz.func228.trans (congrArg some (by kernel_rfl))
  f308 := Tryz.func229.trans (congrArg some (by kernel_rfl))
  f309 := Tryz.func230.trans (congrArg some (by kernel_rfl))
  f310 := Tryz.func231.trans (congrArg some (by kernel_rfl))
  f329 := Tryz.func266.trans (congrArg some (by kernel_rfl))
  f330 := Tryz.func267.trans (congrArg some (by kernel_rfl))
  f333 := Tryz.func265.trans (congrArg some (by kernel_rfl))
  f334 := Tryz.func268.trans (congrArg some (by kernel_rfl))
  f335 := Tryz.func269.trans (congrArg some (by kernel_rfl))
  f336 := Tryz.func270.trans (congrArg some (by kernel_rfl))
  f344 := Tryz.func288.trans (congrArg some (by kernel_rfl))
  t0 := Tryz.underlying0
  a0 := Tryz.isAgg0
  z0 := Tryz.sizeOf0
  v0 := Tryz.zeroValue0
  t3 := Tryz.underlying3
  a3 := Tryz.isAgg3
  z3 := Tryz.sizeOf3
  v3 := Tryz.zeroValue3
  t4 := Tryz.underlying4
  a4 := Tryz.isAgg4
  z4 := Tryz.sizeOf4
  v4 := Tryz.zeroValue4
  t5 := Tryz.underlying5
  a5 := Tryz.isAgg5
  z5 := Tryz.sizeOf5
  v5 := Tryz.zeroValue5
  t9 := Tryz.underlying9
  a9 := Tryz.isAgg9
  z9 := Tryz.sizeOf9
  v9 := Tryz.zeroValue9
  t31 := Tryz.underlying39
  a31 := Tryz.isAgg39
  z31 := Tryz.sizeOf39
  v31 := Tryz.zeroValue39
  t46 := Tryz.underlying188
  a46 := Tryz.isAgg188
  z46 := Tryz.sizeOf188
  v46 := Tryz.zeroValue188
  t51 := Tryz.underlying261
  a51 := Tryz.isAgg261
  z51 := Tryz.sizeOf261
  v51 := Tryz.zeroValue261
  t53 := Tryz.underlying76
  a53 := Tryz.isAgg76
  z53 := Tryz.sizeOf76
  v53 := Tryz.zeroValue76
  t131 := Tryz.underlying34
  a131 := Tryz.isAgg34
  z131 := Tryz.sizeOf34
  v131 := Tryz.zeroValue34
  t182 := Tryz.underlying254
  a182 := Tryz.isAgg254
  z182 := Tryz.sizeOf254
  v182 := Tryz.zeroValue254
  t183 := Tryz.underlying255
  a183 := Tryz.isAgg255
  z183 := Tryz.sizeOf255
  v183 := Tryz.zeroValue255
  t218 := Tryz.underlying281
  a218 := Tryz.isAgg281
  z218 := Tryz.sizeOf281
  v218 := Tryz.zeroValue281
  t222 := Tryz.underlying284
  a222 := Tryz.isAgg284
  z222 := Tryz.sizeOf284
  v222 := Tryz.zeroValue284
  t228 := Tryz.underlying301
  a228 := Tryz.isAgg301
  z228 := Tryz.sizeOf301
  v228 := Tryz.zeroValue301
  t229 := Tryz.underlying46
  a229 := Tryz.isAgg46
  z229 := Tryz.sizeOf46
  v229 := Tryz.zeroValue46 }
theorem Tryz.slices_Sort_string (blk off cap : Nat) (ss : List (List UInt8)) (w : World) (hH : Holds encStr w blk off ss.toArray) (hblk : blk < w.heap.size) (hsz : ss.length < 4611686018427387904) :
    Calls Tryz.prog 86 #[.slice (some ⟨blk, off, none⟩) ss.length cap] w fun e w' =>
      e = .returned (.tuple #[]) ∧ ∃ n os, w' = grow (putRow encStr (Sort.ahead w n) blk off (ss.mergeSort fun x y => decide (x ≤ y)).toArray) os := Any.slices_Sort_string Tryz.lays190 blk off cap ss w hH hblk hsz
end Go.Proofs
