/-
  DERIVED: THE SHELF's CONTRACTS AT THIS DUMP, IN PLAIN WORDS (tools/lay-plain.mjs out of 'TrydMini.lean', which tools/lay-shelf.mjs wrote): THE SAME DECLARATIONS UNDER THE SAME NAMES: 'import', 'namespace', 'open', 'def', 'theorem' AND NOTHING ELSE: no command of the shelf's: FOR A HAND-IN. Each laying: the table of numbers ('.._ren') and one theorem, a field a fact of the dump's own or the kernel's comparison; each contract: ONE APPLICATION.
-/
import Derived.Shelf.Strings.OnBuilder
import Derived.Shelf.Strconv.Itoa2
import Derived.Shelf.Strconv.Itoa3
import Derived.Test.YtligejpfbcdpmaaDoorProg
namespace Go.Proofs
open Go.Shelf
def Tryd.lays156_ren : Go.Shelf.Ren := ⟨fun | 156 => 68 | 165 => 143 | 166 => 138 | 169 => 137 | 240 => 181 | 241 => 183 | 276 => 216 | 277 => 217 | n => n, fun | 31 => 55 | 9 => 9 | 3 => 3 | 4 => 4 | 0 => 0 | 20 => 20 | 72 => 210 | 76 => 214 | 70 => 208 | 37 => 22 | 75 => 65 | 127 => 274 | 164 => 193 | 5 => 5 | 80 => 212 | n => n, fun | n => n⟩
theorem Tryd.lays156 : Go.Proofs.Lays.n156 Tryd.prog Tryd.lays156_ren := {
  mixed := by kernel_rfl
  f156 := Tryd.func68.trans (congrArg some (by kernel_rfl))
  f165 := Tryd.func143.trans (congrArg some (by kernel_rfl))
  f166 := Tryd.func138.trans (congrArg some (by kernel_rfl))
  f169 := Tryd.func137.trans (congrArg some (by kernel_rfl))
  f240 := Tryd.func181.trans (congrArg some (by kernel_rfl))
  f241 := Tryd.func183.trans (congrArg some (by kernel_rfl))
  f276 := Tryd.func216.trans (congrArg some (by kernel_rfl))
  f277 := Tryd.func217.trans (congrArg some (by kernel_rfl))
  t0 := Tryd.underlying0
  a0 := Tryd.isAgg0
  z0 := Tryd.sizeOf0
  v0 := Tryd.zeroValue0
  t3 := Tryd.underlying3
  a3 := Tryd.isAgg3
  z3 := Tryd.sizeOf3
  v3 := Tryd.zeroValue3
  t4 := Tryd.underlying4
  a4 := Tryd.isAgg4
  z4 := Tryd.sizeOf4
  v4 := Tryd.zeroValue4
  t9 := Tryd.underlying9
  a9 := Tryd.isAgg9
  z9 := Tryd.sizeOf9
  v9 := Tryd.zeroValue9
  t20 := Tryd.underlying20
  a20 := Tryd.isAgg20
  z20 := Tryd.sizeOf20
  v20 := Tryd.zeroValue20
  t31 := Tryd.underlying55
  a31 := Tryd.isAgg55
  z31 := Tryd.sizeOf55
  v31 := Tryd.zeroValue55
  t37 := Tryd.underlying22
  a37 := Tryd.isAgg22
  z37 := Tryd.sizeOf22
  v37 := Tryd.zeroValue22
  t70 := Tryd.underlying208
  a70 := Tryd.isAgg208
  z70 := Tryd.sizeOf208
  v70 := Tryd.zeroValue208
  t72 := Tryd.underlying210
  a72 := Tryd.isAgg210
  z72 := Tryd.sizeOf210
  v72 := Tryd.zeroValue210
  t75 := Tryd.underlying65
  a75 := Tryd.isAgg65
  z75 := Tryd.sizeOf65
  v75 := Tryd.zeroValue65
  t76 := Tryd.underlying214
  a76 := Tryd.isAgg214
  z76 := Tryd.sizeOf214
  v76 := Tryd.zeroValue214
  t127 := Tryd.underlying274
  a127 := Tryd.isAgg274
  z127 := Tryd.sizeOf274
  v127 := Tryd.zeroValue274
  t164 := Tryd.underlying193
  a164 := Tryd.isAgg193
  z164 := Tryd.sizeOf193
  v164 := Tryd.zeroValue193 }
theorem Tryd.Builder_Extra_156 : Builder.Extra Tryd.prog Tryd.lays156_ren := {
  sizeBuilder := by kernel_rfl
  liesBuilder := by kernel_rfl
  t5 := Tryd.underlying5
  a5 := Tryd.isAgg5
  z5 := Tryd.sizeOf5
  v5 := Tryd.zeroValue5
  infoByte := by kernel_rfl
  cellsByte := by kernel_rfl
  sizeByte := by kernel_rfl
  neB5 := by decide }
open Go.RowKit in
/-- No element: the empty string; the world is as it was. (Whatever the slice's address and capacity: a nil slice too.) (LAID: no walk: one application.) -/
theorem Tryd.strings_Join_none (a : Option Addr) (c : Nat) (sep : ByteArray) (w : World) :
    Calls Tryd.prog 68 #[.slice a 0 c, .string sep] w fun e w' => e = .returned (.string ⟨#[]⟩) ∧ w' = w := Any.strings_Join_none Tryd.lays156 Tryd.Builder_Extra_156 a c sep w
open Go.RowKit in
/-- strings.Join: "Join concatenates the elements of its first argument to create a single string. The separator string sep is placed between elements in the resulting string.": HOWEVER MANY ELEMENTS. Below the heap's end the world is as it was. (LAID: no walk: one application.) -/
theorem Tryd.strings_Join (bk o c : Nat) (xs : List ByteArray) (sep : ByteArray) (w : World) (hcells : ∀ (j : Nat) x, xs[j]? = some x → w.cell? ⟨bk, o + j, none⟩ = some (.string x)) (hbk : bk < w.heap.size) (hN : xs.length ≤ 140737488355328) (hcap : xs.length ≤ c) (hlen : (Lib.join (xs.map (·.data.toList)) sep.data.toList).length ≤ 140737488355328) :
    Calls Tryd.prog 68 #[.slice (some ⟨bk, o, none⟩) xs.length c, .string sep] w fun e w' => e = .returned (.string ⟨(Lib.join (xs.map (·.data.toList)) sep.data.toList).toArray⟩) ∧ Below w.heap.size w w' := Any.strings_Join Tryd.lays156 Tryd.Builder_Extra_156 bk o c xs sep w hcells hbk hN hcap hlen
def Tryd.lays171_ren : Go.Shelf.Ren := ⟨fun | 171 => 27 | 243 => 102 | 246 => 166 | 283 => 208 | 284 => 209 | 285 => 210 | 286 => 211 | 129 => 201 | 317 => 242 | 318 => 243 | 319 => 244 | 320 => 245 | 337 => 260 | 338 => 98 | n => n, fun | 3 => 3 | 9 => 9 | 2 => 2 | 4 => 4 | 171 => 295 | 0 => 0 | 53 => 28 | 37 => 22 | 5 => 5 | 173 => 297 | 212 => 321 | 51 => 291 | 20 => 20 | 213 => 322 | 46 => 216 | 232 => 340 | 233 => 244 | n => n, fun | 17 => 10 | 18 => 14 | 19 => 7 | n => n⟩
theorem Tryd.lays171 : Go.Proofs.Lays.n171 Tryd.prog Tryd.lays171_ren := {
  mixed := by kernel_rfl
  f129 := Tryd.func201.trans (congrArg some (by kernel_rfl))
  f171 := Tryd.func27.trans (congrArg some (by kernel_rfl))
  f243 := Tryd.func102.trans (congrArg some (by kernel_rfl))
  f246 := Tryd.func166.trans (congrArg some (by kernel_rfl))
  f283 := Tryd.func208.trans (congrArg some (by kernel_rfl))
  f284 := Tryd.func209.trans (congrArg some (by kernel_rfl))
  f285 := Tryd.func210.trans (congrArg some (by kernel_rfl))
  f286 := Tryd.func211.trans (congrArg some (by kernel_rfl))
  f317 := Tryd.func242.trans (congrArg some (by kernel_rfl))
  f318 := Tryd.func243.trans (congrArg some (by kernel_rfl))
  f319 := Tryd.func244.trans (congrArg some (by kernel_rfl))
  f320 := Tryd.func245.trans (congrArg some (by kernel_rfl))
  f337 := Tryd.func260.trans (congrArg some (by kernel_rfl))
  f338 := Tryd.func98.trans (congrArg some (by kernel_rfl))
  t0 := Tryd.underlying0
  a0 := Tryd.isAgg0
  z0 := Tryd.sizeOf0
  v0 := Tryd.zeroValue0
  t2 := Tryd.underlying2
  a2 := Tryd.isAgg2
  z2 := Tryd.sizeOf2
  v2 := Tryd.zeroValue2
  t3 := Tryd.underlying3
  a3 := Tryd.isAgg3
  z3 := Tryd.sizeOf3
  v3 := Tryd.zeroValue3
  t4 := Tryd.underlying4
  a4 := Tryd.isAgg4
  z4 := Tryd.sizeOf4
  v4 := Tryd.zeroValue4
  t5 := Tryd.underlying5
  a5 := Tryd.isAgg5
  z5 := Tryd.sizeOf5
  v5 := Tryd.zeroValue5
  t9 := Tryd.underlying9
  a9 := Tryd.isAgg9
  z9 := Tryd.sizeOf9
  v9 := Tryd.zeroValue9
  t20 := Tryd.underlying20
  a20 := Tryd.isAgg20
  z20 := Tryd.sizeOf20
  v20 := Tryd.zeroValue20
  t37 := Tryd.underlying22
  a37 := Tryd.isAgg22
  z37 := Tryd.sizeOf22
  v37 := Tryd.zeroValue22
  t46 := Tryd.underlying216
  a46 := Tryd.isAgg216
  z46 := Tryd.sizeOf216
  v46 := Tryd.zeroValue216
  t51 := Tryd.underlying291
  a51 := Tryd.isAgg291
  z51 := Tryd.sizeOf291
  v51 := Tryd.zeroValue291
  t53 := Tryd.underlying28
  a53 := Tryd.isAgg28
  z53 := Tryd.sizeOf28
  v53 := Tryd.zeroValue28
  t171 := Tryd.underlying295
  a171 := Tryd.isAgg295
  z171 := Tryd.sizeOf295
  v171 := Tryd.zeroValue295
  t173 := Tryd.underlying297
  a173 := Tryd.isAgg297
  z173 := Tryd.sizeOf297
  v173 := Tryd.zeroValue297
  t212 := Tryd.underlying321
  a212 := Tryd.isAgg321
  z212 := Tryd.sizeOf321
  v212 := Tryd.zeroValue321
  t213 := Tryd.underlying322
  a213 := Tryd.isAgg322
  z213 := Tryd.sizeOf322
  t232 := Tryd.underlying340
  a232 := Tryd.isAgg340
  z232 := Tryd.sizeOf340
  v232 := Tryd.zeroValue340
  t233 := Tryd.underlying244
  a233 := Tryd.isAgg244
  z233 := Tryd.sizeOf244
  v233 := Tryd.zeroValue244
  g17 := by kernel_rfl
  g18 := by kernel_rfl
  g19 := by kernel_rfl }
open Go.RowKit Go.Sort Go.Lib in
/-- THE ROAD WITHOUT THE TABLE: 0 <= i < 100: NO PREMISE ON THE WORLD, AND THE WORLD IS AS IT WAS: a row that keeps its argument in that range need list no table ('laid = []'). (LAID: no walk: one application.) -/
theorem Tryd.strconv_Itoa_small (i : Nat) (hi : i < 100) (w : World) :
    Calls Tryd.prog 27 #[.int .i64 i] w fun e w' => e = .returned (.string ⟨(Lib.decDigits i).toArray⟩) ∧ w' = w := Any.strconv_Itoa_small Tryd.lays171 i hi w
end Go.Proofs
