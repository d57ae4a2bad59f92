/-
  DERIVED: THE SHELF's CONTRACTS AT THIS DUMP, IN PLAIN WORDS (tools/lay-plain.mjs out of 'TryzShelfF.lean', which tools/lay-shelf.mjs wrote): THE SAME DECLARATIONS UNDER THE SAME NAMES: 'import', 'namespace', 'open', 'def', 'theorem' AND NOTHING ELSE: no command of the shelf's: FOR A HAND-IN. Each laying: the table of numbers ('.._ren') and one theorem, a field a fact of the dump's own or the kernel's comparison; each contract: ONE APPLICATION.
-/
import Derived.Shelf.Strings.Fields
import Derived.Shelf.Strings.SplitShaped
import Derived.Test.YtdeboajjhpecbaaGreatDoorProg
namespace Go.Proofs
open Go.Shelf
def Tryz.lays157_ren : Go.Shelf.Ren := ⟨fun | 157 => 50 | 229 => 69 | 199 => 70 | 261 => 82 | 311 => 89 | 312 => 90 | n => n, fun | 9 => 9 | 31 => 64 | 3 => 3 | 5 => 5 | 4 => 4 | 119 => 157 | 0 => 0 | 40 => 131 | 152 => 174 | 21 => 21 | 154 => 176 | 51 => 161 | 141 => 178 | 196 => 187 | 193 => 184 | 198 => 189 | 49 => 95 | 194 => 185 | 201 => 192 | 226 => 200 | 46 => 111 | 227 => 201 | n => n, fun | 0 => 1 | 6 => 2 | n => n⟩
theorem Tryz.lays157 : Go.Proofs.Lays.n157 Tryz.prog Tryz.lays157_ren := {
  mixed := by kernel_rfl
  f157 := Tryz.func50.trans (congrArg some (by kernel_rfl))
  f199 := Tryz.func70.trans (congrArg some (by kernel_rfl))
  f229 := Tryz.func69.trans (congrArg some (by kernel_rfl))
  f261 := Tryz.func82.trans (congrArg some (by kernel_rfl))
  f311 := Tryz.func89.trans (congrArg some (by kernel_rfl))
  f312 := Tryz.func90.trans (congrArg some (by kernel_rfl))
  t0 := Tryz.underlying0
  a0 := Tryz.isAgg0
  z0 := Tryz.sizeOf0
  v0 := Tryz.zeroValue0
  t3 := Tryz.underlying3
  a3 := Tryz.isAgg3
  z3 := Tryz.sizeOf3
  v3 := Tryz.zeroValue3
  t4 := Tryz.underlying4
  a4 := Tryz.isAgg4
  z4 := Tryz.sizeOf4
  v4 := Tryz.zeroValue4
  t5 := Tryz.underlying5
  a5 := Tryz.isAgg5
  z5 := Tryz.sizeOf5
  v5 := Tryz.zeroValue5
  t9 := Tryz.underlying9
  a9 := Tryz.isAgg9
  z9 := Tryz.sizeOf9
  v9 := Tryz.zeroValue9
  t21 := Tryz.underlying21
  a21 := Tryz.isAgg21
  z21 := Tryz.sizeOf21
  v21 := Tryz.zeroValue21
  t31 := Tryz.underlying64
  a31 := Tryz.isAgg64
  z31 := Tryz.sizeOf64
  v31 := Tryz.zeroValue64
  t40 := Tryz.underlying131
  a40 := Tryz.isAgg131
  z40 := Tryz.sizeOf131
  v40 := Tryz.zeroValue131
  t46 := Tryz.underlying111
  a46 := Tryz.isAgg111
  z46 := Tryz.sizeOf111
  v46 := Tryz.zeroValue111
  t49 := Tryz.underlying95
  a49 := Tryz.isAgg95
  z49 := Tryz.sizeOf95
  v49 := Tryz.zeroValue95
  t51 := Tryz.underlying161
  a51 := Tryz.isAgg161
  z51 := Tryz.sizeOf161
  v51 := Tryz.zeroValue161
  t119 := Tryz.underlying157
  a119 := Tryz.isAgg157
  z119 := Tryz.sizeOf157
  t141 := Tryz.underlying178
  a141 := Tryz.isAgg178
  z141 := Tryz.sizeOf178
  v141 := Tryz.zeroValue178
  t152 := Tryz.underlying174
  a152 := Tryz.isAgg174
  z152 := Tryz.sizeOf174
  v152 := Tryz.zeroValue174
  t154 := Tryz.underlying176
  a154 := Tryz.isAgg176
  z154 := Tryz.sizeOf176
  v154 := Tryz.zeroValue176
  t193 := Tryz.underlying184
  a193 := Tryz.isAgg184
  z193 := Tryz.sizeOf184
  v193 := Tryz.zeroValue184
  t194 := Tryz.underlying185
  a194 := Tryz.isAgg185
  z194 := Tryz.sizeOf185
  v194 := Tryz.zeroValue185
  t196 := Tryz.underlying187
  a196 := Tryz.isAgg187
  z196 := Tryz.sizeOf187
  v196 := Tryz.zeroValue187
  t198 := Tryz.underlying189
  a198 := Tryz.isAgg189
  z198 := Tryz.sizeOf189
  v198 := Tryz.zeroValue189
  t201 := Tryz.underlying192
  a201 := Tryz.isAgg192
  z201 := Tryz.sizeOf192
  v201 := Tryz.zeroValue192
  t226 := Tryz.underlying200
  a226 := Tryz.isAgg200
  z226 := Tryz.sizeOf200
  v226 := Tryz.zeroValue200
  t227 := Tryz.underlying201
  a227 := Tryz.isAgg201
  z227 := Tryz.sizeOf201
  v227 := Tryz.zeroValue201
  g0 := by kernel_rfl
  g6 := by kernel_rfl }
open Go.RowKit Go.Lib in
/-- strings.Fields, the table by 'Lib.TabIs' (as strings.TrimSpace's contract). 'hg': the table's number, by its name: at a dump 'by kernel_rfl'. (LAID: no walk: one application.) -/
theorem Tryz.strings_Fields (s : ByteArray) (w : World) (hs : s.size < 4294967281) (hascii : ∀ (j : Nat) b, s.data.toList[j]? = some b → b.toNat < 128) (htab : Lib.TabIs Tryz.prog w "strings.asciiSpace" .u8 Lib.asciiSpaceTab) :
    Calls Tryz.prog 50 #[.string s] w fun e w' =>
      e = .returned (.slice (some ⟨w.heap.size, 0, none⟩) (Lib.fields s.data.toList).length (Lib.fields s.data.toList).length) ∧ w' = w.alloc (.cells ((Lib.fields s.data.toList).map fun l => Value.string ⟨l.toArray⟩).toArray 9) := Any.strings_Fields Tryz.lays157 (by kernel_rfl) (by kernel_rfl) s w hs hascii htab
end Go.Proofs
