import Derived.Test.YthojmgjgmbnopaaGreatDoorXF
import Derived.Lib.LaidTab
import Derived.Lib.ItoaNum
import Derived.Shelf.LaysC
import Derived.Shelf.LaysM
import Derived.Shelf.Strconv.Itoa4
import Derived.Shelf.Strconv.ParseIntPublic10
import Derived.Test.YthojmgjgmbnopaaGreatDoorProg
import Derived.Test.YthojmgjgmbnopaaGreatDoorXP
import Derived.Lib.SmallJoins
namespace Go.Proofs.YthojmgjgmbnopaaGreatDoor
open Go Go.RowKit
/-! The tables of the library. -/
abbrev noEv (ev : Value) : Prop := ev = .nilIface ∨ ∃ te pe, ev = .iface te pe
/-- What the library's variables hold. -/
structure Tbl (w : World) : Prop where
  pow : Lib.TabIs Tryz.prog w "internal/strconv.uint64pow10" .u64 Lib.pow10Tab
  es : ∃ ev, w.cell? ⟨1, 0, none⟩ = some ev ∧ noEv ev
  er : ∃ ev, w.cell? ⟨2, 0, none⟩ = some ev ∧ noEv ev
theorem Tbl.stay {w w' : World} (h : Tbl w) (hb : ∀ b, b < w.heap.size → b < 16 → w'.heap[b]? = w.heap[b]?) : Tbl w' := by
  obtain ⟨h1, ⟨e1, h2, h2'⟩, ⟨e2, h3, h3'⟩⟩ := h
  have hg : Tryz.prog.globalNamed "internal/strconv.uint64pow10" = some 3 := by kernel_rfl
  have l2 : 1 < w.heap.size := World.block_lt_of_cell? _ _ h2
  have l3 : 2 < w.heap.size := World.block_lt_of_cell? _ _ h3
  refine ⟨?_, ⟨e1, ?_, h2'⟩, ⟨e2, ?_, h3'⟩⟩
  · unfold Lib.TabIs World.var? at *
    simp only [hg, Option.bind_some] at *
    have l1 : 3 < w.heap.size := by
      rcases Nat.lt_or_ge 3 w.heap.size with h | h
      · exact h
      · rw [Array.getElem?_eq_none h] at h1; cases h1
    rw [hb _ l1 (by decide)]; exact h1
  · unfold World.cell? at *; simp only [hb _ l2 (by decide)]; exact h2
  · unfold World.cell? at *; simp only [hb _ l3 (by decide)]; exact h3
theorem Tbl.below {w w' : World} (h : Tbl w) (hB : Below w.heap.size w w') : Tbl w' := h.stay (fun b hb _ => hB.block b hb)
/-- The tables lie in blocks that no step of a role touches. -/
structure TR (o : Roles) (w : World) : Prop where
  tbl : Tbl w
  role : ∀ b, b < w.heap.size → b < 16 → o b = []
theorem TR.keep {o o' : Roles} {w w' : World} {r : List Nat} (h : TR o w) (st : Stp r o w o' w') (hr : r ≠ []) (h16 : 16 ≤ w.heap.size) : TR o' w' :=
  ⟨h.tbl.stay (fun b hb h16 => st.block b hb (by rw [h.role b hb h16]; intro hp; exact hr (List.prefix_nil.1 hp))), fun b _ hb => by rw [st.old b (by omega)]; exact h.role b (by omega) hb⟩
end Go.Proofs.YthojmgjgmbnopaaGreatDoor
/- Contracts of the library at this program, as the kit's tools have laid them (some of them). -/
namespace Go.Proofs
open Go.Shelf Go.RowKit Go.Sort Go.Lib
def Tryz.laysM173_ren : Go.Shelf.Ren := ⟨fun | 173 => 200 | 246 => 255 | 283 => 281 | 284 => 282 | 285 => 283 | 286 => 284 | 129 => 233 | 317 => 303 | 318 => 304 | 319 => 305 | 320 => 306 | 337 => 311 | 338 => 312 | n => n, fun | 2 => 2 | 3 => 3 | 9 => 9 | 4 => 4 | 171 => 295 | 0 => 0 | 53 => 76 | 37 => 98 | 5 => 5 | 173 => 297 | 212 => 313 | 51 => 261 | 20 => 20 | 213 => 314 | 46 => 188 | 232 => 323 | 233 => 324 | n => n, fun | 17 => 3 | 18 => 4 | 19 => 5 | n => n⟩
theorem Tryz.laysM173 : Go.Proofs.LaysM.n173 Tryz.prog Tryz.laysM173_ren := {
  mixed := by kernel_rfl
  f129 := Tryz.func233.trans (congrArg some (by kernel_rfl))
  f173 := Tryz.func200.trans (congrArg some (by kernel_rfl))
  f246 := Tryz.func255.trans (congrArg some (by kernel_rfl))
  f283 := Tryz.func281.trans (congrArg some (by kernel_rfl))
  f284 := Tryz.func282.trans (congrArg some (by kernel_rfl))
  f285 := Tryz.func283.trans (congrArg some (by kernel_rfl))
  f286 := Tryz.func284.trans (congrArg some (by kernel_rfl))
  f317 := Tryz.func303.trans (congrArg some (by kernel_rfl))
  f318 := Tryz.func304.trans (congrArg some (by kernel_rfl))
  f319 := Tryz.func305.trans (congrArg some (by kernel_rfl))
  f320 := Tryz.func306.trans (congrArg some (by kernel_rfl))
  f337 := Tryz.func311.trans (congrArg some (by kernel_rfl))
  f338 := Tryz.func312.trans (congrArg some (by kernel_rfl))
  t0 := Tryz.underlying0
  a0 := Tryz.isAgg0
  z0 := Tryz.sizeOf0
  v0 := Tryz.zeroValue0
  t2 := Tryz.underlying2
  a2 := Tryz.isAgg2
  z2 := Tryz.sizeOf2
  v2 := Tryz.zeroValue2
  t3 := Tryz.underlying3
  a3 := Tryz.isAgg3
  z3 := Tryz.sizeOf3
  v3 := Tryz.zeroValue3
  t4 := Tryz.underlying4
  a4 := Tryz.isAgg4
  z4 := Tryz.sizeOf4
  v4 := Tryz.zeroValue4
  t5 := Tryz.underlying5
  a5 := Tryz.isAgg5
  z5 := Tryz.sizeOf5
  v5 := Tryz.zeroValue5
  t9 := Tryz.underlying9
  a9 := Tryz.isAgg9
  z9 := Tryz.sizeOf9
  v9 := Tryz.zeroValue9
  t20 := Tryz.underlying20
  a20 := Tryz.isAgg20
  z20 := Tryz.sizeOf20
  v20 := Tryz.zeroValue20
  t37 := Tryz.underlying98
  a37 := Tryz.isAgg98
  z37 := Tryz.sizeOf98
  v37 := Tryz.zeroValue98
  t46 := Tryz.underlying188
  a46 := Tryz.isAgg188
  z46 := Tryz.sizeOf188
  v46 := Tryz.zeroValue188
  t51 := Tryz.underlying261
  a51 := Tryz.isAgg261
  z51 := Tryz.sizeOf261
  v51 := Tryz.zeroValue261
  t53 := Tryz.underlying76
  a53 := Tryz.isAgg76
  z53 := Tryz.sizeOf76
  v53 := Tryz.zeroValue76
  t171 := Tryz.underlying295
  a171 := Tryz.isAgg295
  z171 := Tryz.sizeOf295
  v171 := Tryz.zeroValue295
  t173 := Tryz.underlying297
  a173 := Tryz.isAgg297
  z173 := Tryz.sizeOf297
  v173 := Tryz.zeroValue297
  t212 := Tryz.underlying313
  a212 := Tryz.isAgg313
  z212 := Tryz.sizeOf313
  v212 := Tryz.zeroValue313
  t213 := Tryz.underlying314
  a213 := Tryz.isAgg314
  z213 := Tryz.sizeOf314
  t232 := Tryz.underlying323
  a232 := Tryz.isAgg323
  z232 := Tryz.sizeOf323
  v232 := Tryz.zeroValue323
  t233 := Tryz.underlying324
  a233 := Tryz.isAgg324
  z233 := Tryz.sizeOf324
  v233 := Tryz.zeroValue324
  g17 := by kernel_rfl
  g18 := by kernel_rfl
  g19 := by kernel_rfl
  i0 := by kernel_rfl
  i2 := by kernel_rfl
  i3 := by kernel_rfl
  i4 := by kernel_rfl
  i5 := by kernel_rfl
  i9 := by kernel_rfl
  i20 := by kernel_rfl
  i37 := by kernel_rfl
  i46 := by kernel_rfl
  i51 := by kernel_rfl
  i53 := by kernel_rfl
  i171 := by kernel_rfl
  i173 := by kernel_rfl
  i212 := by kernel_rfl
  i232 := by kernel_rfl
  i233 := by kernel_rfl
  m17 := by kernel_rfl
  m18 := by kernel_rfl
  m19 := by kernel_rfl }
theorem Tryz.strconv_FormatInt_10 (n : Int) (h0 : -9223372036854775808 ≤ n) (h1 : n ≤ 9223372036854775807) (w : World) (htab : Lib.TabIs Tryz.prog w "internal/strconv.uint64pow10" .u64 Lib.pow10Tab) :
    Calls Tryz.prog 200 #[.int .i64 n, .int .i64 10] w fun e w' => e = .returned (.string ⟨(Lib.itoa n).toArray⟩) ∧ ∃ k os, w' = grow (w.drewN k) os := Any.strconv_FormatInt_10 Tryz.laysM173 n h0 h1 w htab
def Tryz.laysC174_ren : Go.Shelf.Ren := ⟨fun | 174 => 199 | 247 => 253 | 245 => 254 | 287 => 276 | 279 => 277 | 280 => 278 | 281 => 279 | 282 => 280 | 321 => 299 | 322 => 300 | 316 => 301 | 171 => 275 | 205 => 302 | 243 => 298 | 246 => 255 | 283 => 281 | 284 => 282 | 285 => 283 | 286 => 284 | 129 => 233 | 317 => 303 | 318 => 304 | 319 => 305 | 320 => 306 | 337 => 311 | 338 => 312 | n => n, fun | 9 => 9 | 3 => 3 | 2 => 2 | 75 => 215 | 85 => 216 | 4 => 4 | 167 => 289 | 5 => 5 | 53 => 76 | 175 => 290 | 46 => 188 | 168 => 292 | 37 => 98 | 0 => 0 | 210 => 310 | 21 => 21 | 127 => 318 | 145 => 321 | 143 => 319 | 171 => 295 | 173 => 297 | 212 => 313 | 51 => 261 | 20 => 20 | 213 => 314 | 232 => 323 | 233 => 324 | 80 => 224 | n => n, fun | 15 => 1 | 16 => 2 | 17 => 3 | 18 => 4 | 19 => 5 | n => n⟩
theorem Tryz.laysC174 : Go.Proofs.LaysC.n174 Tryz.prog Tryz.laysC174_ren := {
  mixed := by kernel_rfl
  f129 := Tryz.func233.trans (congrArg some (by kernel_rfl))
  f171 := Tryz.func275.trans (congrArg some (by kernel_rfl))
  f174 := Tryz.func199.trans (congrArg some (by kernel_rfl))
  f205 := Tryz.func302.trans (congrArg some (by kernel_rfl))
  f243 := Tryz.func298.trans (congrArg some (by kernel_rfl))
  f245 := Tryz.func254.trans (congrArg some (by kernel_rfl))
  f246 := Tryz.func255.trans (congrArg some (by kernel_rfl))
  f247 := Tryz.func253.trans (congrArg some (by kernel_rfl))
  f279 := Tryz.func277.trans (congrArg some (by kernel_rfl))
  f280 := Tryz.func278.trans (congrArg some (by kernel_rfl))
  f281 := Tryz.func279.trans (congrArg some (by kernel_rfl))
  f282 := Tryz.func280.trans (congrArg some (by kernel_rfl))
  f283 := Tryz.func281.trans (congrArg some (by kernel_rfl))
  f284 := Tryz.func282.trans (congrArg some (by kernel_rfl))
  f285 := Tryz.func283.trans (congrArg some (by kernel_rfl))
  f286 := Tryz.func284.trans (congrArg some (by kernel_rfl))
  f287 := Tryz.func276.trans (congrArg some (by kernel_rfl))
  f316 := Tryz.func301.trans (congrArg some (by kernel_rfl))
  f317 := Tryz.func303.trans (congrArg some (by kernel_rfl))
  f318 := Tryz.func304.trans (congrArg some (by kernel_rfl))
  f319 := Tryz.func305.trans (congrArg some (by kernel_rfl))
  f320 := Tryz.func306.trans (congrArg some (by kernel_rfl))
  f321 := Tryz.func299.trans (congrArg some (by kernel_rfl))
  f322 := Tryz.func300.trans (congrArg some (by kernel_rfl))
  f337 := Tryz.func311.trans (congrArg some (by kernel_rfl))
  f338 := Tryz.func312.trans (congrArg some (by kernel_rfl))
  t0 := Tryz.underlying0
  a0 := Tryz.isAgg0
  z0 := Tryz.sizeOf0
  v0 := Tryz.zeroValue0
  t2 := Tryz.underlying2
  a2 := Tryz.isAgg2
  z2 := Tryz.sizeOf2
  v2 := Tryz.zeroValue2
  t3 := Tryz.underlying3
  a3 := Tryz.isAgg3
  z3 := Tryz.sizeOf3
  v3 := Tryz.zeroValue3
  t4 := Tryz.underlying4
  a4 := Tryz.isAgg4
  z4 := Tryz.sizeOf4
  v4 := Tryz.zeroValue4
  t5 := Tryz.underlying5
  a5 := Tryz.isAgg5
  z5 := Tryz.sizeOf5
  v5 := Tryz.zeroValue5
  t9 := Tryz.underlying9
  a9 := Tryz.isAgg9
  z9 := Tryz.sizeOf9
  v9 := Tryz.zeroValue9
  t20 := Tryz.underlying20
  a20 := Tryz.isAgg20
  z20 := Tryz.sizeOf20
  v20 := Tryz.zeroValue20
  t21 := Tryz.underlying21
  a21 := Tryz.isAgg21
  z21 := Tryz.sizeOf21
  v21 := Tryz.zeroValue21
  t37 := Tryz.underlying98
  a37 := Tryz.isAgg98
  z37 := Tryz.sizeOf98
  v37 := Tryz.zeroValue98
  t46 := Tryz.underlying188
  a46 := Tryz.isAgg188
  z46 := Tryz.sizeOf188
  v46 := Tryz.zeroValue188
  t51 := Tryz.underlying261
  a51 := Tryz.isAgg261
  z51 := Tryz.sizeOf261
  v51 := Tryz.zeroValue261
  t53 := Tryz.underlying76
  a53 := Tryz.isAgg76
  z53 := Tryz.sizeOf76
  v53 := Tryz.zeroValue76
  t75 := Tryz.underlying215
  a75 := Tryz.isAgg215
  z75 := Tryz.sizeOf215
  v75 := Tryz.zeroValue215
  t85 := Tryz.underlying216
  a85 := Tryz.isAgg216
  z85 := Tryz.sizeOf216
  v85 := Tryz.zeroValue216
  t127 := Tryz.underlying318
  a127 := Tryz.isAgg318
  z127 := Tryz.sizeOf318
  v127 := Tryz.zeroValue318
  t143 := Tryz.underlying319
  a143 := Tryz.isAgg319
  z143 := Tryz.sizeOf319
  v143 := Tryz.zeroValue319
  t145 := Tryz.underlying321
  a145 := Tryz.isAgg321
  z145 := Tryz.sizeOf321
  v145 := Tryz.zeroValue321
  t167 := Tryz.underlying289
  a167 := Tryz.isAgg289
  z167 := Tryz.sizeOf289
  v167 := Tryz.zeroValue289
  t168 := Tryz.underlying292
  a168 := Tryz.isAgg292
  z168 := Tryz.sizeOf292
  v168 := Tryz.zeroValue292
  t171 := Tryz.underlying295
  a171 := Tryz.isAgg295
  z171 := Tryz.sizeOf295
  v171 := Tryz.zeroValue295
  t173 := Tryz.underlying297
  a173 := Tryz.isAgg297
  z173 := Tryz.sizeOf297
  v173 := Tryz.zeroValue297
  t175 := Tryz.underlying290
  a175 := Tryz.isAgg290
  z175 := Tryz.sizeOf290
  v175 := Tryz.zeroValue290
  t210 := Tryz.underlying310
  a210 := Tryz.isAgg310
  z210 := Tryz.sizeOf310
  v210 := Tryz.zeroValue310
  t212 := Tryz.underlying313
  a212 := Tryz.isAgg313
  z212 := Tryz.sizeOf313
  v212 := Tryz.zeroValue313
  t213 := Tryz.underlying314
  a213 := Tryz.isAgg314
  z213 := Tryz.sizeOf314
  t232 := Tryz.underlying323
  a232 := Tryz.isAgg323
  z232 := Tryz.sizeOf323
  v232 := Tryz.zeroValue323
  t233 := Tryz.underlying324
  a233 := Tryz.isAgg324
  z233 := Tryz.sizeOf324
  v233 := Tryz.zeroValue324
  g15 := by kernel_rfl
  g16 := by kernel_rfl
  g17 := by kernel_rfl
  g18 := by kernel_rfl
  g19 := by kernel_rfl
  t80 := Tryz.underlying224
  a80 := Tryz.isAgg224
  z80 := Tryz.sizeOf224
  v80 := Tryz.zeroValue224
  i0 := by kernel_rfl
  i2 := by kernel_rfl
  i3 := by kernel_rfl
  i4 := by kernel_rfl
  i5 := by kernel_rfl
  i9 := by kernel_rfl
  i20 := by kernel_rfl
  i21 := by kernel_rfl
  i37 := by kernel_rfl
  i46 := by kernel_rfl
  i51 := by kernel_rfl
  i53 := by kernel_rfl
  i75 := by kernel_rfl
  i80 := by kernel_rfl
  i85 := by kernel_rfl
  i127 := by kernel_rfl
  i143 := by kernel_rfl
  i145 := by kernel_rfl
  i167 := by kernel_rfl
  i168 := by kernel_rfl
  i171 := by kernel_rfl
  i173 := by kernel_rfl
  i175 := by kernel_rfl
  i210 := by kernel_rfl
  i212 := by kernel_rfl
  i232 := by kernel_rfl
  i233 := by kernel_rfl
  m15 := by kernel_rfl
  m16 := by kernel_rfl
  m17 := by kernel_rfl
  m18 := by kernel_rfl
  m19 := by kernel_rfl
  c0 := by kernel_rfl
  c2 := by kernel_rfl
  c3 := by kernel_rfl
  c4 := by kernel_rfl
  c5 := by kernel_rfl
  c9 := by kernel_rfl
  c20 := by kernel_rfl
  c21 := by kernel_rfl
  c37 := by kernel_rfl
  c46 := by kernel_rfl
  c51 := by kernel_rfl
  c53 := by kernel_rfl
  c75 := by kernel_rfl
  c80 := by kernel_rfl
  c85 := by kernel_rfl
  c127 := by kernel_rfl
  c143 := by kernel_rfl
  c145 := by kernel_rfl
  c167 := by kernel_rfl
  c168 := by kernel_rfl
  c171 := by kernel_rfl
  c173 := by kernel_rfl
  c175 := by kernel_rfl
  c210 := by kernel_rfl
  c212 := by kernel_rfl
  c213 := by kernel_rfl
  c232 := by kernel_rfl
  c233 := by kernel_rfl }
theorem Tryz.strconv_ParseInt_10_at64_ok (s : ByteArray) (hmax : s.size ≤ 9223372036854775806) (v : Int) (h : Lib.parseIntB 64 s.data.toList = .ok v) (w : World) :
    Calls Tryz.prog 199 #[.string s, .int .i64 10, .int .i64 64] w fun e w' => e = .returned (.tuple #[.int .i64 v, .nilIface]) ∧ (w' = w ∨ ∃ t, w' = Lib.bytesWorld w 5 t) := Any.strconv_ParseInt_10_at64_ok Tryz.laysC174 s hmax v h w
theorem Tryz.strconv_ParseInt_10_at64_syntax (s : ByteArray) (hlim : s.size ≤ 281474976710656) (h : Lib.parseIntB 64 s.data.toList = Lib.parseIntB 64 []) (ev : Value) (w : World) (hv : w.cell? ⟨1, 0, none⟩ = some ev) (hev : ev = .nilIface ∨ ∃ te pe, ev = .iface te pe) :
    Calls Tryz.prog 199 #[.string s, .int .i64 10, .int .i64 64] w fun e w' => ∃ N, e = .returned (.tuple #[.int .i64 (0), .iface 292 (.pointer (some ⟨N, 0, none⟩))]) ∧ w.heap.size ≤ N ∧ w'.heap[N]? = some (.cells #[.string ⟨#[80, 97, 114, 115, 101, 73, 110, 116]⟩, .string s, ev] 310 (0, 0)) ∧ Below w.heap.size w w' := Any.strconv_ParseInt_10_at64_syntax Tryz.laysC174 s hlim h ev w hv hev
theorem Tryz.strconv_ParseInt_10_at64_range (s : ByteArray) (hlim : s.size ≤ 281474976710656) (h : Lib.parseIntB 64 s.data.toList = .range) (ev : Value) (w : World) (hv : w.cell? ⟨2, 0, none⟩ = some ev) (hev : ev = .nilIface ∨ ∃ te pe, ev = .iface te pe) :
    Calls Tryz.prog 199 #[.string s, .int .i64 10, .int .i64 64] w fun e w' => ∃ N, e = .returned (.tuple #[.int .i64 (Lib.intSat 64 s.data.toList), .iface 292 (.pointer (some ⟨N, 0, none⟩))]) ∧ w.heap.size ≤ N ∧ w'.heap[N]? = some (.cells #[.string ⟨#[80, 97, 114, 115, 101, 73, 110, 116]⟩, .string s, ev] 310 (0, 0)) ∧ Below w.heap.size w w' := Any.strconv_ParseInt_10_at64_range Tryz.laysC174 s hlim h ev w hv hev
end Go.Proofs
namespace Go.Proofs.YthojmgjgmbnopaaGreatDoor
open Go Go.RowKit
/-! num.Parse, two. -/
theorem bytes_below {w w' : World} {t : TypeId} (h : w' = w ∨ ∃ s, w' = Lib.bytesWorld w t s) : Below w.heap.size w w' := by
  rcases h with rfl | ⟨s, rfl⟩
  · exact Below.refl _ _
  · exact ⟨rfl, rfl, rfl, by rw [Lib.bytesWorld_size]; omega, fun b hb => Lib.bytesWorld_at_old w _ _ b hb⟩
theorem grow_below {w w' : World} (h : ∃ k os, w' = Sort.grow (w.drewN k) os) : Below w.heap.size w w' := by
  obtain ⟨k, os, rfl⟩ := h
  exact ⟨rfl, rfl, rfl, by simp [Sort.grow], fun b hb => Sort.heap_grow_old _ _ hb⟩
/-- The number that a text is the one text of. -/
def parseN (s : List UInt8) : Option Int := match Lib.parseIntB 64 s with
  | .ok v => if Lib.itoa v = s then some v else none
  | _ => none
def ParseDid (w : World) (r : Option Int) (e : Ending) (w' : World) : Prop := e = .returned (.tuple #[.int .i64 (r.getD 0), .int .i64 (if r.isSome then 0 else 10)]) ∧ Below w.heap.size w w'
theorem parse64_range {s : List UInt8} {v : Int} (h : Lib.parseIntB 64 s = .ok v) : -9223372036854775808 ≤ v ∧ v ≤ 9223372036854775807 := by
  unfold Lib.parseIntB at h
  split at h
  · cases h
  · dsimp only at h
    split at h
    · cases h
    · cases h
    · split at h
      · cases h
      · split at h
        · cases h
        · cases h
          rename_i u _ h1 h2
          have h3 : (2 : Nat) ^ (64 - 1) = 9223372036854775808 := by decide
          rw [h3] at h1 h2
          split <;> rename_i h4
          · simp only [h4, true_and] at h2; omega
          · simp only [h4, not_false_iff, true_and] at h1; omega
set_option maxRecDepth 10000 in
set_option maxHeartbeats 1000000 in
theorem parse_ok {w : World} (hT : Tbl w) (s : List UInt8) (hs : s.length ≤ 1099511627776) : Calls Tryz.prog 124 #[txt s] w (ParseDid w (parseN s)) := by
  have hsz : (⟨s.toArray⟩ : ByteArray).size = s.length := by simp [ByteArray.size]
  obtain ⟨ev1, hv1, hn1⟩ := hT.es
  obtain ⟨ev2, hv2, hn2⟩ := hT.er
  rcases hp : Lib.parseIntB 64 s with v | _ | _
  · skip
    obtain ⟨hr1, hr2⟩ := parse64_range hp
    have HP := Lib.hid (Tryz.strconv_ParseInt_10_at64_ok ⟨s.toArray⟩ (by rw [hsz]; omega) v hp w)
    have HF := Lib.hid (fun (W : World) (hB : Below w.heap.size w W) => Tryz.strconv_FormatInt_10 v hr1 hr2 W (hT.below hB).pow)
    have hpn : parseN s = if Lib.itoa v = s then some v else none := by unfold parseN; rw [hp]
    by_cases he : Lib.itoa v = s
    · rw [if_pos he] at hpn
      rw [hpn]
      have hne : (Lib.itoa v == s) = true := by simp [he]
      clear hpn hp hT hv1 hv2 hn1 hn2 hsz he
      unfold txt
      go_enter Tryz.func124, Tryz.ntmps124
      go_wp2_with fail
      refine HP.out.mono ?_; rintro e w1 ⟨rfl, hw⟩
      have hB1 := bytes_below hw
      go_wp2_with fail
      refine (HF.out w1 hB1).mono ?_; rintro e w2 ⟨rfl, hw2⟩
      have HB := Lib.hid (hB1.trans ((grow_below hw2).mono hB1.size))
      clear hw hB1 hw2 HP HF
      go_wp2_with fail
      go_ret2
      exact ⟨rfl, HB.out⟩
    · rw [if_neg he] at hpn
      rw [hpn]
      have hne : (Lib.itoa v == s) = false := by simp [he]
      clear hpn hp hT hv1 hv2 hn1 hn2 hsz he
      unfold txt
      go_enter Tryz.func124, Tryz.ntmps124
      go_wp2_with fail
      refine HP.out.mono ?_; rintro e w1 ⟨rfl, hw⟩
      have hB1 := bytes_below hw
      go_wp2_with fail
      refine (HF.out w1 hB1).mono ?_; rintro e w2 ⟨rfl, hw2⟩
      have HB := Lib.hid (hB1.trans ((grow_below hw2).mono hB1.size))
      clear hw hB1 hw2 HP HF
      go_wp2_with fail
      go_ret2
      exact ⟨rfl, HB.out⟩
  · skip
    have HP := Lib.hid (Tryz.strconv_ParseInt_10_at64_syntax ⟨s.toArray⟩ (by rw [hsz]; omega) hp ev1 w hv1 hn1)
    have hpn : parseN s = none := by unfold parseN; rw [hp]
    rw [hpn]
    clear hpn hp hT hv1 hv2 hn1 hn2 hsz
    unfold txt
    go_enter Tryz.func124, Tryz.ntmps124
    go_wp2_with fail
    refine HP.out.mono ?_; rintro e w1 ⟨N, rfl, _, _, hB1⟩
    have HB := Lib.hid hB1
    clear hB1 HP
    go_wp2_with fail
    go_ret2
    exact ⟨rfl, HB.out⟩
  · skip
    have HP := Lib.hid (Tryz.strconv_ParseInt_10_at64_range ⟨s.toArray⟩ (by rw [hsz]; omega) hp ev2 w hv2 hn2)
    have hpn : parseN s = none := by unfold parseN; rw [hp]
    rw [hpn]
    clear hpn hp hT hv1 hv2 hn1 hn2 hsz
    unfold txt
    generalize Lib.intSat 64 _ = iv at HP
    go_enter Tryz.func124, Tryz.ntmps124
    go_wp2_with fail
    refine HP.out.mono ?_; rintro e w1 ⟨N, rfl, _, _, hB1⟩
    have HB := Lib.hid hB1
    clear hB1 HP
    go_wp2_with fail
    go_ret2
    exact ⟨rfl, HB.out⟩
def TwoDid (w : World) (a b : Option Int) (e : Ending) (w' : World) : Prop := e = .returned (.tuple #[.int .i64 (a.getD 0), .int .i64 (b.getD 0), .bool (a.isSome && b.isSome)]) ∧ Below w.heap.size w w'
set_option maxRecDepth 10000 in
set_option maxHeartbeats 1000000 in
theorem two_ok {w : World} (hT : Tbl w) (x y : List UInt8) (hx : x.length ≤ 1099511627776) (hy : y.length ≤ 1099511627776) : Calls Tryz.prog 179 #[txt x, txt y] w (TwoDid w (parseN x) (parseN y)) := by
  have HX := Lib.hid (parse_ok hT x hx)
  have HY := Lib.hid (fun (W : World) (hB : Below w.heap.size w W) => parse_ok (hT.below hB) y hy)
  clear hT
  generalize parseN x = a at *
  generalize parseN y = b at *
  unfold txt at *
  unfold ParseDid at *
  rcases a with _ | a <;> rcases b with _ | b <;> simp only [Option.isSome_none, Option.isSome_some, if_true, Bool.false_eq_true, if_false] at HX HY <;> (
    go_enter Tryz.func179, Tryz.ntmps179
    go_wp2_with fail
    refine HX.out.mono ?_; rintro e w1 ⟨rfl, hB1⟩
    go_wp2_with fail
    refine (HY.out w1 hB1).mono ?_; rintro e w2 ⟨rfl, hB2⟩
    have HB := Lib.hid (hB1.trans (hB2.mono hB1.size))
    clear hB1 hB2 HX HY
    go_wp2_with fail
    go_ret3
    exact ⟨rfl, HB.out⟩)
end Go.Proofs.YthojmgjgmbnopaaGreatDoor
namespace Go.Proofs.YthojmgjgmbnopaaGreatDoor
open Go Go.RowKit
/-! The document's Print; a number's text is read back. -/
theorem parseUintM_app (M : Nat) : ∀ (l1 l2 : List UInt8) (acc a : Nat), Lib.parseUintM M acc l1 = .ok a → Lib.parseUintM M acc (l1 ++ l2) = Lib.parseUintM M a l2
  | [], l2, acc, a, h => by
    unfold Lib.parseUintM at h
    cases h; rfl
  | c :: r, l2, acc, a, h => by
    rw [List.cons_append]
    rw [Lib.parseUintM] at h
    conv => lhs; rw [Lib.parseUintM]
    split at h
    · rename_i hc
      rw [if_pos hc]
      split at h
      · cases h
      · rename_i h1
        rw [if_neg h1]
        split at h
        · cases h
        · rename_i h2
          rw [if_neg h2]
          exact parseUintM_app M r l2 _ a h
    · cases h
theorem dig_toNat {k : Nat} (h : k < 10) : (UInt8.ofNat (48 + k)).toNat = 48 + k := by
  rw [UInt8.toNat_ofNat']
  show (48 + k) % 256 = _
  omega
theorem parse_dec (M : Nat) (hM : M ≤ 18446744073709551615) : ∀ u : Nat, u ≤ M → Lib.parseUintM M 0 (Lib.decDigits u) = .ok u := by
  intro u
  induction u using Nat.strongRecOn with
  | _ u ih =>
    intro hu
    rw [Lib.decDigits]
    split
    · rename_i h
      unfold Lib.parseUintM
      rw [dig_toNat h, if_pos (by omega), if_neg (by omega), if_neg (by omega)]
      unfold Lib.parseUintM
      congr 1; omega
    · rename_i h
      rw [parseUintM_app M _ _ 0 (u / 10) (ih (u / 10) (by omega) (by omega))]
      have hk : u % 10 < 10 := Nat.mod_lt _ (by decide)
      unfold Lib.parseUintM
      rw [dig_toNat hk, if_pos (by omega), if_neg (by omega), if_neg (by omega)]
      unfold Lib.parseUintM
      congr 1; omega
theorem dec_digit (u : Nat) : ∀ c ∈ Lib.decDigits u, 48 ≤ c.toNat ∧ c.toNat ≤ 57 := by
  induction u using Nat.strongRecOn with
  | _ u ih =>
    rw [Lib.decDigits]
    split
    · rename_i h
      intro c hc
      rw [List.mem_singleton.1 hc, dig_toNat h]; omega
    · rename_i h
      intro c hc
      rcases List.mem_append.1 hc with hc | hc
      · exact ih (u / 10) (by omega) c hc
      · rw [List.mem_singleton.1 hc, dig_toNat (Nat.mod_lt _ (by decide))]
        have := Nat.mod_lt u (show 0 < 10 by decide)
        omega
theorem dec_ne (u : Nat) : Lib.decDigits u ≠ [] := by
  rw [Lib.decDigits]; split <;> simp
theorem parseB_itoa {n : Int} (h : -9223372036854775808 ≤ n ∧ n ≤ 9223372036854775807) : Lib.parseIntB 64 (Lib.itoa n) = .ok n := by
  have e64 : (2 : Nat) ^ 64 - 1 = 18446744073709551615 := by decide
  have e63 : (2 : Nat) ^ (64 - 1) = 9223372036854775808 := by decide
  unfold Lib.itoa
  split
  · rename_i hn
    unfold Lib.parseIntB
    simp only [UInt8.reduceToNat, Nat.reduceEqDiff, if_true, or_true]
    unfold Lib.parseUintB
    rw [if_neg (dec_ne _), e64, parse_dec _ (Nat.le_refl _) n.natAbs (by omega)]
    dsimp only
    rw [e63]
    rw [if_neg (by simp), if_neg (by omega)]
    congr 1
    omega
  · rename_i hn
    have hd := dec_digit n.toNat
    have hp := parse_dec 18446744073709551615 (Nat.le_refl _) n.toNat (by omega)
    cases hl : Lib.decDigits n.toNat with
    | nil => exact absurd hl (dec_ne _)
    | cons c r =>
      rw [hl] at hd hp
      have hc := hd c (by simp)
      unfold Lib.parseIntB
      dsimp only
      rw [if_neg (by omega)]
      unfold Lib.parseUintB
      rw [if_neg (by simp), e64, hp]
      dsimp only
      rw [e63]
      rw [if_neg (by omega), if_neg (by omega), if_neg (by omega)]
      congr 1
      omega
theorem parseN_itoa {n : Int} (h : -9223372036854775808 ≤ n ∧ n ≤ 9223372036854775807) : parseN (Lib.itoa n) = some n := by
  unfold parseN
  rw [parseB_itoa h]
  exact if_pos rfl
theorem dec_len : ∀ (k u : Nat), u < 10 ^ k → (Lib.decDigits u).length ≤ k + 1
  | 0, u, h => by
    have : u = 0 := by simpa using h
    subst this
    rw [Lib.decDigits]; simp
  | k + 1, u, h => by
    rw [Lib.decDigits]
    split
    · simp
    · have := dec_len k (u / 10) (by rw [Nat.pow_succ] at h; omega)
      simp; omega
theorem itoa_len {n : Int} (h : -9223372036854775808 ≤ n ∧ n ≤ 9223372036854775807) : (Lib.itoa n).length ≤ 100 := by
  have h1 := dec_len 30 n.natAbs (by have : (10 : Nat) ^ 30 = 1000000000000000000000000000000 := by decide
                                     omega)
  have h2 := dec_len 30 n.toNat (by have : (10 : Nat) ^ 30 = 1000000000000000000000000000000 := by decide
                                    omega)
  unfold Lib.itoa
  split
  · simp; omega
  · omega
theorem itoa_dec {n : Int} (h : -9223372036854775808 ≤ n ∧ n ≤ 9223372036854775807) : (Lib.decDigits n.natAbs).length ≤ 100 := by
  have h1 := dec_len 30 n.natAbs (by have : (10 : Nat) ^ 30 = 1000000000000000000000000000000 := by decide
                                     omega)
  omega
theorem bytes_app2 (a b : List UInt8) : (⟨a.toArray⟩ : ByteArray) ++ ⟨b.toArray⟩ = ⟨(a ++ b).toArray⟩ := rfl
theorem bsz (s : List UInt8) : (⟨s.toArray⟩ : ByteArray).size = s.length := by simp [ByteArray.size]
def PrRel (w : World) (N : Nat) (a b : Value) (wr : World) : Prop :=
  ∃ (u : Nat) (s : List UInt8), a = .int .u64 (u : Int) ∧ b = .string ⟨s.toArray⟩ ∧ u ≤ N ∧ (0 < u → Lib.decDigits N = Lib.decDigits u ++ s) ∧ (u = 0 → s = Lib.decDigits N) ∧ Below w.heap.size w wr
theorem PrRel.next {w wr : World} {N u : Nat} {s : List UInt8} (hu : u ≤ N) (h0 : 0 < u) (h : Lib.decDigits N = Lib.decDigits u ++ s) (hB : Below w.heap.size w wr) : PrRel w N (.int .u64 ((u / 10 : Nat) : Int)) (.string ⟨(UInt8.ofNat (48 + u % 10) :: s).toArray⟩) wr := by
  refine ⟨u / 10, _, rfl, rfl, by omega, fun h1 => ?_, fun h1 => ?_, hB⟩
  · rw [h]
    have e : Lib.decDigits u = Lib.decDigits (u / 10) ++ [UInt8.ofNat (48 + u % 10)] := by
      conv => lhs; rw [Lib.decDigits]
      rw [dif_neg (by omega)]
    rw [e]; simp
  · have hl : u < 10 := by omega
    rw [h]
    have e : Lib.decDigits u = [UInt8.ofNat (48 + u)] := by rw [Lib.decDigits, dif_pos hl]
    rw [e, Nat.mod_eq_of_lt hl]; simp
set_option maxRecDepth 10000 in
set_option maxHeartbeats 4000000 in
theorem print_ok (w : World) {n : Int} (hn : -9223372036854775808 ≤ n ∧ n ≤ 9223372036854775807) : Calls Tryz.prog 21 #[.int .i64 n] w fun e w' => e = .returned (.string ⟨(Lib.itoa n).toArray⟩) ∧ Below w.heap.size w w' := by
  by_cases h0 : n = 0
  · subst h0
    go_enter Tryz.func21, Tryz.ntmps21
    go_wp2_with fail
    go_ret
    exact ⟨by rw [show Lib.itoa 0 = [48] by decide +kernel]; rfl, Below.refl _ _⟩
  · have e0 : (n == 0) = false := beq_eq_false_iff_ne.2 h0
    have hN0 : 0 < n.natAbs := by omega
    by_cases hneg : n < 0
    · have ew : IntKind.u64.wrap (-IntKind.u64.wrap n) = (n.natAbs : Int) := by
        simp only [IntKind.wrap_u64]; omega
      have hat : PrRel w n.natAbs (.int .u64 (n.natAbs : Int)) (.string ⟨#[]⟩) w := ⟨n.natAbs, [], rfl, rfl, Nat.le_refl _, fun _ => by simp, fun e => by omega, Below.refl _ _⟩
      go_enter Tryz.func21, Tryz.ntmps21
      go_wp2_with fail
      go_loopw [3, 4] (fun a b wr => PrRel w n.natAbs a b wr) (fun a _ _ => (intOf a).toNat)
      case atStart => exact hat
      case round =>
        clear hat
        obtain ⟨u, s, rfl, rfl, huN, hpos, hzero, hB⟩ := hrel
        by_cases hu : 0 < u
        · have hm : Int.tmod (u : Int) 10 = ((u % 10 : Nat) : Int) := rfl
          have hq : Int.tdiv (u : Int) 10 = ((u / 10 : Nat) : Int) := rfl
          have huI : (0 : Int) < u := by omega
          have hk : u % 10 < 10 := Nat.mod_lt _ (by decide)
          have hcv := run_bytes_text (wr.alloc (.cells #[bv (UInt8.ofNat (48 + u % 10))] 5)) wr.heap.size 1 [UInt8.ofNat (48 + u % 10)] (fun j x hj => by
            have h0 : j = 0 := by have := (List.getElem?_eq_some_iff.1 hj).1; simp at this; omega
            subst h0
            cases hj
            unfold World.cell?
            rw [heap_alloc_new]
            rfl) 1 rfl
          unfold bv at hcv
          rw [dig_toNat hk] at hcv
          have e48 : ((48 + u % 10 : Nat) : Int) = 48 + (u : Int) % 10 := by omega
          have hB2 : Below w.heap.size w (wr.alloc (.cells #[.int .u8 ((48 + u % 10 : Nat) : Int)] 5)) := hB.alloc hB.size _
          have D := Lib.hid (PrRel.next huN hu (hpos hu) hB2)
          have hui : u ≤ 9223372036854775808 := by omega
          have hdl := itoa_dec (n := n) hn
          have hsl : s.length ≤ 100 := by rw [hpos hu, List.length_append] at hdl; omega
          have hsz := bsz s
          have hba := bytes_app2 [UInt8.ofNat (48 + u % 10)] s
          rw [e48] at hcv D
          clear e48 hdl
          clear hpos hzero hB hB2
          go_wp2_with fail
          refine ⟨?_, by simp [intOf]; omega⟩
          rw [show ((⟨#[48 + UInt8.ofNat (u % 10)]⟩ : ByteArray) ++ ⟨s.toArray⟩) = ⟨(UInt8.ofNat (48 + u % 10) :: s).toArray⟩ from by rw [UInt8.ofNat_add]; rfl]
          exact D.out
        · obtain rfl : u = 0 := by omega
          have hs := hzero rfl
          subst hs
          have hdl := itoa_dec (n := n) hn
          have hsz := bsz (Lib.decDigits n.natAbs)
          have HB := Lib.hid hB
          clear hpos hzero hB
          go_wp2_with fail
          go_ret
          exact ⟨by rw [show Lib.itoa n = 45 :: Lib.decDigits n.natAbs from if_pos hneg]; rfl, HB.out⟩
    · have ew : n = (n.natAbs : Int) := by omega
      have hat : PrRel w n.natAbs (.int .u64 n) (.string ⟨#[]⟩) w := ⟨n.natAbs, [], by rw [← ew], rfl, Nat.le_refl _, fun _ => by simp, fun e => by omega, Below.refl _ _⟩
      clear ew
      go_enter Tryz.func21, Tryz.ntmps21
      go_wp2_with fail
      go_loopw [3, 4] (fun a b wr => PrRel w n.natAbs a b wr) (fun a _ _ => (intOf a).toNat)
      case atStart => exact hat
      case round =>
        clear hat
        obtain ⟨u, s, rfl, rfl, huN, hpos, hzero, hB⟩ := hrel
        by_cases hu : 0 < u
        · have hm : Int.tmod (u : Int) 10 = ((u % 10 : Nat) : Int) := rfl
          have hq : Int.tdiv (u : Int) 10 = ((u / 10 : Nat) : Int) := rfl
          have huI : (0 : Int) < u := by omega
          have hk : u % 10 < 10 := Nat.mod_lt _ (by decide)
          have hcv := run_bytes_text (wr.alloc (.cells #[bv (UInt8.ofNat (48 + u % 10))] 5)) wr.heap.size 1 [UInt8.ofNat (48 + u % 10)] (fun j x hj => by
            have h0 : j = 0 := by have := (List.getElem?_eq_some_iff.1 hj).1; simp at this; omega
            subst h0
            cases hj
            unfold World.cell?
            rw [heap_alloc_new]
            rfl) 1 rfl
          unfold bv at hcv
          rw [dig_toNat hk] at hcv
          have e48 : ((48 + u % 10 : Nat) : Int) = 48 + (u : Int) % 10 := by omega
          have hB2 : Below w.heap.size w (wr.alloc (.cells #[.int .u8 ((48 + u % 10 : Nat) : Int)] 5)) := hB.alloc hB.size _
          have D := Lib.hid (PrRel.next huN hu (hpos hu) hB2)
          have hui : u ≤ 9223372036854775808 := by omega
          have hdl := itoa_dec (n := n) hn
          have hsl : s.length ≤ 100 := by rw [hpos hu, List.length_append] at hdl; omega
          have hsz := bsz s
          have hba := bytes_app2 [UInt8.ofNat (48 + u % 10)] s
          rw [e48] at hcv D
          clear e48 hdl
          clear hpos hzero hB hB2
          go_wp2_with fail
          refine ⟨?_, by simp [intOf]; omega⟩
          rw [show ((⟨#[48 + UInt8.ofNat (u % 10)]⟩ : ByteArray) ++ ⟨s.toArray⟩) = ⟨(UInt8.ofNat (48 + u % 10) :: s).toArray⟩ from by rw [UInt8.ofNat_add]; rfl]
          exact D.out
        · obtain rfl : u = 0 := by omega
          have hs := hzero rfl
          subst hs
          have hdl := itoa_dec (n := n) hn
          have hsz := bsz (Lib.decDigits n.natAbs)
          have HB := Lib.hid hB
          clear hpos hzero hB
          go_wp2_with fail
          go_ret
          exact ⟨by rw [show Lib.itoa n = Lib.decDigits n.natAbs from by unfold Lib.itoa; rw [if_neg (by omega)]; congr 1; omega]; rfl, HB.out⟩
end Go.Proofs.YthojmgjgmbnopaaGreatDoor
