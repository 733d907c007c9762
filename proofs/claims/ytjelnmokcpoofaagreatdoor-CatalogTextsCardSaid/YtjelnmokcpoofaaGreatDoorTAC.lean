/-
  DERIVED: THE SHELF's CONTRACTS AT THIS DUMP, IN PLAIN WORDS (tools/lay-plain.mjs out of 'YtjelnmokcpoofaaGreatDoorShelf.lean', which tools/lay-shelf.mjs wrote): THE SAME DECLARATIONS UNDER THE SAME NAMES: 'import', 'namespace', 'open', 'def', 'theorem' AND NOTHING ELSE: no command of the shelf's: FOR A HAND-IN. Each laying: the table of numbers ('.._ren') and one theorem, a field a fact of the dump's own or the kernel's comparison; each contract: ONE APPLICATION. exact: divide, walked. exact: Divide. exact: Divide, walked. exact: Divide by many limbs; Divide.
-/
import Derived.Test.YtjelnmokcpoofaaGreatDoorTAB
import Derived.Shelf.Strings.Builder1
import Derived.Shelf.Strings.Trim
import Derived.Shelf.Small.Utf8
import Derived.Shelf.Small.Bits
import Derived.Shelf.Small.Strs
import Derived.Shelf.Small.Wraps
import Derived.Shelf.Strings.BuilderF
import Derived.Shelf.Strings.BuilderK
import Derived.Shelf.Strconv.Atoi
import Derived.Shelf.Strconv.Itoa0
import Derived.Shelf.Strconv.Itoa1
import Derived.Shelf.LaysM
import Derived.Shelf.Strconv.Itoa2
import Derived.Shelf.Strconv.Itoa3
import Derived.Shelf.Strings.Search1
import Derived.Shelf.Strings.Search2
import Derived.Shelf.Strings.Search3
import Derived.Shelf.Strings.Cut
import Derived.Shelf.Strings.Count
import Derived.Shelf.Strings.Shaped
import Derived.Shelf.Sort.Plain
import Derived.Shelf.Strings.Prefix
import Derived.Shelf.Strings.Split
import Derived.Shelf.Strings.SplitShaped
import Derived.Shelf.Strings.Runes
import Derived.Shelf.Strings.AsciiSet
import Derived.Shelf.Unicode.DecodeSlow
import Derived.Ground.SlgmProg
import Derived.Shelf.SortM.SortNone
import Derived.Test.YtjelnmokcpoofaaGreatDoorProg
import Derived.Deep.DeepCutAuto
import Derived.Deep.CutBlock
import Derived.Lib.ItoaNum
namespace Go.Proofs
open Go.Shelf
def Tryz.lays170_ren : Go.Shelf.Ren := ⟨fun | 170 => 23 | n => n, fun | 70 => 62 | 3 => 3 | 0 => 0 | 72 => 65 | 37 => 63 | 5 => 5 | n => n, fun | n => n⟩
theorem Tryz.lays170 : Go.Proofs.Lays.n170 Tryz.prog Tryz.lays170_ren := {
 mixed := by kernel_rfl
 f170 := Tryz.func23.trans (congrArg some (by kernel_rfl))
 t0 := Tryz.underlying0
 a0 := Tryz.isAgg0
 z0 := Tryz.sizeOf0
 v0 := Tryz.zeroValue0
 t3 := Tryz.underlying3
 a3 := Tryz.isAgg3
 z3 := Tryz.sizeOf3
 v3 := Tryz.zeroValue3
 t37 := Tryz.underlying63
 a37 := Tryz.isAgg63
 z37 := Tryz.sizeOf63
 v37 := Tryz.zeroValue63
 t70 := Tryz.underlying62
 a70 := Tryz.isAgg62
 z70 := Tryz.sizeOf62
 v70 := Tryz.zeroValue62
 t72 := Tryz.underlying65
 a72 := Tryz.isAgg65
 z72 := Tryz.sizeOf65
 v72 := Tryz.zeroValue65 }
open Go.RowKit in
theorem Tryz.Builder_Len (B b : Nat) (bs : List Value) (w : World) (h : Lib.IsBuilder 65 5 B b bs w) :
  Calls Tryz.prog 23 #[.pointer (some ⟨b, 0, none⟩)] w fun e w' => e = .returned (.int .i64 bs.length) ∧ w' = w := Any.Builder_Len Tryz.lays170 B b bs w h
def Tryz.lays169_ren : Go.Shelf.Ren := ⟨fun | 169 => 24 | n => n, fun | 70 => 62 | 9 => 9 | 0 => 0 | 72 => 65 | 37 => 63 | 127 => 104 | 3 => 3 | 5 => 5 | n => n, fun | n => n⟩
theorem Tryz.lays169 : Go.Proofs.Lays.n169 Tryz.prog Tryz.lays169_ren := {
 mixed := by kernel_rfl
 f169 := Tryz.func24.trans (congrArg some (by kernel_rfl))
 t0 := Tryz.underlying0
 a0 := Tryz.isAgg0
 z0 := Tryz.sizeOf0
 v0 := Tryz.zeroValue0
 t3 := Tryz.underlying3
 a3 := Tryz.isAgg3
 z3 := Tryz.sizeOf3
 v3 := Tryz.zeroValue3
 t9 := Tryz.underlying9
 a9 := Tryz.isAgg9
 z9 := Tryz.sizeOf9
 v9 := Tryz.zeroValue9
 t37 := Tryz.underlying63
 a37 := Tryz.isAgg63
 z37 := Tryz.sizeOf63
 v37 := Tryz.zeroValue63
 t70 := Tryz.underlying62
 a70 := Tryz.isAgg62
 z70 := Tryz.sizeOf62
 v70 := Tryz.zeroValue62
 t72 := Tryz.underlying65
 a72 := Tryz.isAgg65
 z72 := Tryz.sizeOf65
 v72 := Tryz.zeroValue65
 t127 := Tryz.underlying104
 a127 := Tryz.isAgg104
 z127 := Tryz.sizeOf104
 v127 := Tryz.zeroValue104 }
theorem Tryz.Builder_Extra_169 : Builder.Extra Tryz.prog Tryz.lays169_ren := {
 sizeBuilder := by kernel_rfl
 liesBuilder := by kernel_rfl
 t5 := Tryz.underlying5
 a5 := Tryz.isAgg5
 z5 := Tryz.sizeOf5
 v5 := Tryz.zeroValue5
 infoByte := by kernel_rfl
 cellsByte := by kernel_rfl
 sizeByte := by kernel_rfl
 neB5 := by decide }
open Go.RowKit in
theorem Tryz.Builder_String (B b : Nat) (l : List UInt8) (w : World) (h : Lib.IsBuilder 65 5 B b (Lib.byteCells l) w) (h0 : l ≠ []) :
  Calls Tryz.prog 24 #[.pointer (some ⟨b, 0, none⟩)] w fun e w' => e = .returned (.string ⟨l.toArray⟩) ∧ Below B w w' := Any.Builder_String Tryz.lays169 Tryz.Builder_Extra_169 B b l w h h0
open Go.RowKit in
theorem Tryz.Builder_String_any (B b : Nat) (l : List UInt8) (w : World) (h : Lib.IsBuilder 65 5 B b (Lib.byteCells l) w) (hBw : B ≤ w.heap.size) :
  Calls Tryz.prog 24 #[.pointer (some ⟨b, 0, none⟩)] w fun e w' => e = .returned (.string ⟨l.toArray⟩) ∧ Below B w w' := Any.Builder_String_any Tryz.lays169 Tryz.Builder_Extra_169 B b l w h hBw
def Tryz.lays160_ren : Go.Shelf.Ren := ⟨fun | 160 => 75 | 232 => 119 | 231 => 118 | 227 => 120 | 234 => 122 | 233 => 121 | 236 => 124 | 235 => 123 | 228 => 178 | 271 => 180 | 151 => 179 | 197 => 171 | 120 => 212 | 152 => 211 | 260 => 207 | 137 => 229 | 119 => 230 | 224 => 111 | 225 => 110 | 217 => 109 | 266 => 168 | n => n, fun | 9 => 9 | 4 => 4 | 3 => 3 | 5 => 5 | 117 => 163 | 116 => 162 | 0 => 0 | 124 => 166 | 21 => 21 | 105 => 195 | 46 => 141 | 119 => 234 | 139 => 237 | 138 => 236 | n => n, fun | 3 => 5 | 4 => 6 | n => n⟩
theorem Tryz.lays160 : Go.Proofs.Lays.n160 Tryz.prog Tryz.lays160_ren := {
 mixed := by kernel_rfl
 f119 := Tryz.func230.trans (congrArg some (by kernel_rfl))
 f120 := Tryz.func212.trans (congrArg some (by kernel_rfl))
 f137 := Tryz.func229.trans (congrArg some (by kernel_rfl))
 f151 := Tryz.func179.trans (congrArg some (by kernel_rfl))
 f152 := Tryz.func211.trans (congrArg some (by kernel_rfl))
 f160 := Tryz.func75.trans (congrArg some (by kernel_rfl))
 f197 := Tryz.func171.trans (congrArg some (by kernel_rfl))
 f217 := Tryz.func109.trans (congrArg some (by kernel_rfl))
 f224 := Tryz.func111.trans (congrArg some (by kernel_rfl))
 f225 := Tryz.func110.trans (congrArg some (by kernel_rfl))
 f227 := Tryz.func120.trans (congrArg some (by kernel_rfl))
 f228 := Tryz.func178.trans (congrArg some (by kernel_rfl))
 f231 := Tryz.func118.trans (congrArg some (by kernel_rfl))
 f232 := Tryz.func119.trans (congrArg some (by kernel_rfl))
 f233 := Tryz.func121.trans (congrArg some (by kernel_rfl))
 f234 := Tryz.func122.trans (congrArg some (by kernel_rfl))
 f235 := Tryz.func123.trans (congrArg some (by kernel_rfl))
 f236 := Tryz.func124.trans (congrArg some (by kernel_rfl))
 f260 := Tryz.func207.trans (congrArg some (by kernel_rfl))
 f266 := Tryz.func168.trans (congrArg some (by kernel_rfl))
 f271 := Tryz.func180.trans (congrArg some (by kernel_rfl))
 t0 := Tryz.underlying0
 a0 := Tryz.isAgg0
 z0 := Tryz.sizeOf0
 v0 := Tryz.zeroValue0
 t3 := Tryz.underlying3
 a3 := Tryz.isAgg3
 z3 := Tryz.sizeOf3
 v3 := Tryz.zeroValue3
 t4 := Tryz.underlying4
 a4 := Tryz.isAgg4
 z4 := Tryz.sizeOf4
 v4 := Tryz.zeroValue4
 t5 := Tryz.underlying5
 a5 := Tryz.isAgg5
 z5 := Tryz.sizeOf5
 v5 := Tryz.zeroValue5
 t9 := Tryz.underlying9
 a9 := Tryz.isAgg9
 z9 := Tryz.sizeOf9
 v9 := Tryz.zeroValue9
 t21 := Tryz.underlying21
 a21 := Tryz.isAgg21
 z21 := Tryz.sizeOf21
 v21 := Tryz.zeroValue21
 t46 := Tryz.underlying141
 a46 := Tryz.isAgg141
 z46 := Tryz.sizeOf141
 v46 := Tryz.zeroValue141
 t105 := Tryz.underlying195
 a105 := Tryz.isAgg195
 z105 := Tryz.sizeOf195
 v105 := Tryz.zeroValue195
 t116 := Tryz.underlying162
 a116 := Tryz.isAgg162
 z116 := Tryz.sizeOf162
 t117 := Tryz.underlying163
 a117 := Tryz.isAgg163
 z117 := Tryz.sizeOf163
 v117 := Tryz.zeroValue163
 t119 := Tryz.underlying234
 a119 := Tryz.isAgg234
 z119 := Tryz.sizeOf234
 t124 := Tryz.underlying166
 a124 := Tryz.isAgg166
 z124 := Tryz.sizeOf166
 v124 := Tryz.zeroValue166
 t138 := Tryz.underlying236
 a138 := Tryz.isAgg236
 z138 := Tryz.sizeOf236
 v138 := Tryz.zeroValue236
 t139 := Tryz.underlying237
 a139 := Tryz.isAgg237
 z139 := Tryz.sizeOf237
 v139 := Tryz.zeroValue237
 g3 := by kernel_rfl
 g4 := by kernel_rfl }
def Tryz.lays128_ren : Go.Shelf.Ren := ⟨fun | 128 => 158 | n => n, fun | 51 => 140 | 3 => 3 | 4 => 4 | 46 => 141 | 5 => 5 | 9 => 9 | n => n, fun | n => n⟩
def Tryz.lays133_ren : Go.Shelf.Ren := ⟨fun | 133 => 224 | 128 => 158 | n => n, fun | 51 => 140 | 3 => 3 | 4 => 4 | 46 => 141 | 5 => 5 | 9 => 9 | n => n, fun | n => n⟩
theorem Tryz.lays133 : Go.Proofs.Lays.n133 Tryz.prog Tryz.lays133_ren := {
 mixed := by kernel_rfl
 f128 := Tryz.func158.trans (congrArg some (by kernel_rfl))
 f133 := Tryz.func224.trans (congrArg some (by kernel_rfl))
 t3 := Tryz.underlying3
 a3 := Tryz.isAgg3
 z3 := Tryz.sizeOf3
 v3 := Tryz.zeroValue3
 t4 := Tryz.underlying4
 a4 := Tryz.isAgg4
 z4 := Tryz.sizeOf4
 v4 := Tryz.zeroValue4
 t5 := Tryz.underlying5
 a5 := Tryz.isAgg5
 z5 := Tryz.sizeOf5
 v5 := Tryz.zeroValue5
 t9 := Tryz.underlying9
 a9 := Tryz.isAgg9
 z9 := Tryz.sizeOf9
 v9 := Tryz.zeroValue9
 t46 := Tryz.underlying141
 a46 := Tryz.isAgg141
 z46 := Tryz.sizeOf141
 v46 := Tryz.zeroValue141
 t51 := Tryz.underlying140
 a51 := Tryz.isAgg140
 z51 := Tryz.sizeOf140
 v51 := Tryz.zeroValue140 }
theorem Tryz.bits_LeadingZeros32 (x : Int) (w : World) (h0 : 0 ≤ x) (h1 : x ≤ 4294967295) :
  Calls Tryz.prog 224 #[.int .u32 x] w fun e w' => e = .returned (.int .i64 (32 - (Lib.bitLen x.toNat : Int))) ∧ w' = w := Any.bits_LeadingZeros32 Tryz.lays133 x w h0 h1
def Tryz.lays103_ren : Go.Shelf.Ren := ⟨fun | 103 => 181 | 210 => 213 | 206 => 231 | n => n, fun | 9 => 9 | 4 => 4 | 24 => 205 | 3 => 3 | n => n, fun | n => n⟩
theorem Tryz.lays103 : Go.Proofs.Lays.n103 Tryz.prog Tryz.lays103_ren := {
 mixed := by kernel_rfl
 f103 := Tryz.func181.trans (congrArg some (by kernel_rfl))
 f206 := Tryz.func231.trans (congrArg some (by kernel_rfl))
 f210 := Tryz.func213.trans (congrArg some (by kernel_rfl))
 t3 := Tryz.underlying3
 a3 := Tryz.isAgg3
 z3 := Tryz.sizeOf3
 v3 := Tryz.zeroValue3
 t4 := Tryz.underlying4
 a4 := Tryz.isAgg4
 z4 := Tryz.sizeOf4
 v4 := Tryz.zeroValue4
 t9 := Tryz.underlying9
 a9 := Tryz.isAgg9
 z9 := Tryz.sizeOf9
 v9 := Tryz.zeroValue9
 t24 := Tryz.underlying205
 a24 := Tryz.isAgg205
 z24 := Tryz.sizeOf205
 v24 := Tryz.zeroValue205 }
open Go.RowKit in
theorem Tryz.strings_CutPrefix (s p : ByteArray) (w : World) :
  Calls Tryz.prog 181 #[.string s, .string p] w fun e w' => e = .returned (.tuple #[.string ⟨(Lib.trimPrefix s.data.toList p.data.toList).toArray⟩, .bool (Lib.hasPrefix s.data.toList p.data.toList)]) ∧ w' = w := Any.strings_CutPrefix Tryz.lays103 s p w
def Tryz.lays172_ren : Go.Shelf.Ren := ⟨fun | 172 => 74 | 244 => 116 | 245 => 117 | 247 => 173 | 279 => 174 | 280 => 175 | 281 => 176 | 282 => 177 | 287 => 208 | 316 => 209 | 171 => 21 | 205 => 210 | 321 => 227 | 322 => 228 | 243 => 50 | 246 => 86 | 283 => 143 | 284 => 144 | 285 => 145 | 286 => 146 | 129 => 159 | 317 => 193 | 318 => 194 | 319 => 195 | 320 => 196 | 337 => 221 | 338 => 222 | n => n, fun | 9 => 9 | 3 => 3 | 75 => 69 | 76 => 70 | 4 => 4 | 5 => 5 | 167 => 197 | 37 => 63 | 0 => 0 | 85 => 198 | 2 => 2 | 168 => 200 | 53 => 138 | 175 => 219 | 46 => 141 | 210 => 223 | 127 => 104 | 145 => 241 | 143 => 239 | 21 => 21 | 171 => 173 | 173 => 176 | 212 => 209 | 51 => 140 | 20 => 20 | 213 => 210 | 232 => 248 | 233 => 249 | 80 => 76 | n => n, fun | 15 => 3 | 16 => 4 | 17 => 1 | 18 => 7 | 19 => 8 | n => n⟩
theorem Tryz.lays172 : Go.Proofs.Lays.n172 Tryz.prog Tryz.lays172_ren := {
 mixed := by kernel_rfl
 f129 := Tryz.func159.trans (congrArg some (by kernel_rfl))
 f171 := Tryz.func21.trans (congrArg some (by kernel_rfl))
 f172 := Tryz.func74.trans (congrArg some (by kernel_rfl))
 f205 := Tryz.func210.trans (congrArg some (by kernel_rfl))
 f243 := Tryz.func50.trans (congrArg some (by kernel_rfl))
 f244 := Tryz.func116.trans (congrArg some (by kernel_rfl))
 f245 := Tryz.func117.trans (congrArg some (by kernel_rfl))
 f246 := Tryz.func86.trans (congrArg some (by kernel_rfl))
 f247 := Tryz.func173.trans (congrArg some (by kernel_rfl))
 f279 := Tryz.func174.trans (congrArg some (by kernel_rfl))
 f280 := Tryz.func175.trans (congrArg some (by kernel_rfl))
 f281 := Tryz.func176.trans (congrArg some (by kernel_rfl))
 f282 := Tryz.func177.trans (congrArg some (by kernel_rfl))
 f283 := Tryz.func143.trans (congrArg some (by kernel_rfl))
 f284 := Tryz.func144.trans (congrArg some (by kernel_rfl))
 f285 := Tryz.func145.trans (congrArg some (by kernel_rfl))
 f286 := Tryz.func146.trans (congrArg some (by kernel_rfl))
 f287 := Tryz.func208.trans (congrArg some (by kernel_rfl))
 f316 := Tryz.func209.trans (congrArg some (by kernel_rfl))
 f317 := Tryz.func193.trans (congrArg some (by kernel_rfl))
 f318 := Tryz.func194.trans (congrArg some (by kernel_rfl))
 f319 := Tryz.func195.trans (congrArg some (by kernel_rfl))
 f320 := Tryz.func196.trans (congrArg some (by kernel_rfl))
 f321 := Tryz.func227.trans (congrArg some (by kernel_rfl))
 f322 := Tryz.func228.trans (congrArg some (by kernel_rfl))
 f337 := Tryz.func221.trans (congrArg some (by kernel_rfl))
 f338 := Tryz.func222.trans (congrArg some (by kernel_rfl))
 t0 := Tryz.underlying0
 a0 := Tryz.isAgg0
 z0 := Tryz.sizeOf0
 v0 := Tryz.zeroValue0
 t2 := Tryz.underlying2
 a2 := Tryz.isAgg2
 z2 := Tryz.sizeOf2
 v2 := Tryz.zeroValue2
 t3 := Tryz.underlying3
 a3 := Tryz.isAgg3
 z3 := Tryz.sizeOf3
 v3 := Tryz.zeroValue3
 t4 := Tryz.underlying4
 a4 := Tryz.isAgg4
 z4 := Tryz.sizeOf4
 v4 := Tryz.zeroValue4
 t5 := Tryz.underlying5
 a5 := Tryz.isAgg5
 z5 := Tryz.sizeOf5
 v5 := Tryz.zeroValue5
 t9 := Tryz.underlying9
 a9 := Tryz.isAgg9
 z9 := Tryz.sizeOf9
 v9 := Tryz.zeroValue9
 t20 := Tryz.underlying20
 a20 := Tryz.isAgg20
 z20 := Tryz.sizeOf20
 v20 := Tryz.zeroValue20
 t21 := Tryz.underlying21
 a21 := Tryz.isAgg21
 z21 := Tryz.sizeOf21
 v21 := Tryz.zeroValue21
 t37 := Tryz.underlying63
 a37 := Tryz.isAgg63
 z37 := Tryz.sizeOf63
 v37 := Tryz.zeroValue63
 t46 := Tryz.underlying141
 a46 := Tryz.isAgg141
 z46 := Tryz.sizeOf141
 v46 := Tryz.zeroValue141
 t51 := Tryz.underlying140
 a51 := Tryz.isAgg140
 z51 := Tryz.sizeOf140
 v51 := Tryz.zeroValue140
 t53 := Tryz.underlying138
 a53 := Tryz.isAgg138
 z53 := Tryz.sizeOf138
 v53 := Tryz.zeroValue138
 t75 := Tryz.underlying69
 a75 := Tryz.isAgg69
 z75 := Tryz.sizeOf69
 v75 := Tryz.zeroValue69
 t76 := Tryz.underlying70
 a76 := Tryz.isAgg70
 z76 := Tryz.sizeOf70
 v76 := Tryz.zeroValue70
 t85 := Tryz.underlying198
 a85 := Tryz.isAgg198
 z85 := Tryz.sizeOf198
 v85 := Tryz.zeroValue198
 t127 := Tryz.underlying104
 a127 := Tryz.isAgg104
 z127 := Tryz.sizeOf104
 v127 := Tryz.zeroValue104
 t143 := Tryz.underlying239
 a143 := Tryz.isAgg239
 z143 := Tryz.sizeOf239
 v143 := Tryz.zeroValue239
 t145 := Tryz.underlying241
 a145 := Tryz.isAgg241
 z145 := Tryz.sizeOf241
 v145 := Tryz.zeroValue241
 t167 := Tryz.underlying197
 a167 := Tryz.isAgg197
 z167 := Tryz.sizeOf197
 v167 := Tryz.zeroValue197
 t168 := Tryz.underlying200
 a168 := Tryz.isAgg200
 z168 := Tryz.sizeOf200
 v168 := Tryz.zeroValue200
 t171 := Tryz.underlying173
 a171 := Tryz.isAgg173
 z171 := Tryz.sizeOf173
 v171 := Tryz.zeroValue173
 t173 := Tryz.underlying176
 a173 := Tryz.isAgg176
 z173 := Tryz.sizeOf176
 v173 := Tryz.zeroValue176
 t175 := Tryz.underlying219
 a175 := Tryz.isAgg219
 z175 := Tryz.sizeOf219
 v175 := Tryz.zeroValue219
 t210 := Tryz.underlying223
 a210 := Tryz.isAgg223
 z210 := Tryz.sizeOf223
 v210 := Tryz.zeroValue223
 t212 := Tryz.underlying209
 a212 := Tryz.isAgg209
 z212 := Tryz.sizeOf209
 v212 := Tryz.zeroValue209
 t213 := Tryz.underlying210
 a213 := Tryz.isAgg210
 z213 := Tryz.sizeOf210
 t232 := Tryz.underlying248
 a232 := Tryz.isAgg248
 z232 := Tryz.sizeOf248
 v232 := Tryz.zeroValue248
 t233 := Tryz.underlying249
 a233 := Tryz.isAgg249
 z233 := Tryz.sizeOf249
 v233 := Tryz.zeroValue249
 g15 := by kernel_rfl
 g16 := by kernel_rfl
 g17 := by kernel_rfl
 g18 := by kernel_rfl
 g19 := by kernel_rfl }
open Go.RowKit in
theorem Tryz.strconv_Atoi (s : ByteArray) (n : Int) (hl : s.size ≤ 18) (h : Lib.atoi s.data.toList = some n) (w : World) :
  Calls Tryz.prog 74 #[.string s] w fun e w' => e = .returned (.tuple #[.int .i64 n, .nilIface]) ∧ ∃ t, w' = Lib.bytesWorld w 5 t := Any.strconv_Atoi Tryz.lays172 s n hl h w
def Tryz.laysM246_ren : Go.Shelf.Ren := ⟨fun | 246 => 86 | 283 => 143 | 284 => 144 | 285 => 145 | 286 => 146 | 129 => 159 | 317 => 193 | 318 => 194 | 319 => 195 | 320 => 196 | 337 => 221 | 338 => 222 | n => n, fun | 2 => 2 | 3 => 3 | 9 => 9 | 4 => 4 | 171 => 173 | 0 => 0 | 53 => 138 | 37 => 63 | 5 => 5 | 173 => 176 | 212 => 209 | 51 => 140 | 20 => 20 | 213 => 210 | 46 => 141 | 232 => 248 | 233 => 249 | n => n, fun | 17 => 1 | 18 => 7 | 19 => 8 | n => n⟩
def Tryz.laysM243_ren : Go.Shelf.Ren := ⟨fun | 243 => 50 | 246 => 86 | 283 => 143 | 284 => 144 | 285 => 145 | 286 => 146 | 129 => 159 | 317 => 193 | 318 => 194 | 319 => 195 | 320 => 196 | 337 => 221 | 338 => 222 | n => n, fun | 3 => 3 | 9 => 9 | 2 => 2 | 4 => 4 | 171 => 173 | 0 => 0 | 53 => 138 | 37 => 63 | 5 => 5 | 173 => 176 | 212 => 209 | 51 => 140 | 20 => 20 | 213 => 210 | 46 => 141 | 232 => 248 | 233 => 249 | n => n, fun | 17 => 1 | 18 => 7 | 19 => 8 | n => n⟩
def Tryz.laysM171_ren : Go.Shelf.Ren := ⟨fun | 171 => 21 | 243 => 50 | 246 => 86 | 283 => 143 | 284 => 144 | 285 => 145 | 286 => 146 | 129 => 159 | 317 => 193 | 318 => 194 | 319 => 195 | 320 => 196 | 337 => 221 | 338 => 222 | n => n, fun | 3 => 3 | 9 => 9 | 2 => 2 | 4 => 4 | 171 => 173 | 0 => 0 | 53 => 138 | 37 => 63 | 5 => 5 | 173 => 176 | 212 => 209 | 51 => 140 | 20 => 20 | 213 => 210 | 46 => 141 | 232 => 248 | 233 => 249 | n => n, fun | 17 => 1 | 18 => 7 | 19 => 8 | n => n⟩
theorem Tryz.laysM171 : Go.Proofs.LaysM.n171 Tryz.prog Tryz.laysM171_ren := {
 mixed := by kernel_rfl
 f129 := Tryz.func159.trans (congrArg some (by kernel_rfl))
 f171 := Tryz.func21.trans (congrArg some (by kernel_rfl))
 f243 := Tryz.func50.trans (congrArg some (by kernel_rfl))
 f246 := Tryz.func86.trans (congrArg some (by kernel_rfl))
 f283 := Tryz.func143.trans (congrArg some (by kernel_rfl))
 f284 := Tryz.func144.trans (congrArg some (by kernel_rfl))
 f285 := Tryz.func145.trans (congrArg some (by kernel_rfl))
 f286 := Tryz.func146.trans (congrArg some (by kernel_rfl))
 f317 := Tryz.func193.trans (congrArg some (by kernel_rfl))
 f318 := Tryz.func194.trans (congrArg some (by kernel_rfl))
 f319 := Tryz.func195.trans (congrArg some (by kernel_rfl))
 f320 := Tryz.func196.trans (congrArg some (by kernel_rfl))
 f337 := Tryz.func221.trans (congrArg some (by kernel_rfl))
 f338 := Tryz.func222.trans (congrArg some (by kernel_rfl))
 t0 := Tryz.underlying0
 a0 := Tryz.isAgg0
 z0 := Tryz.sizeOf0
 v0 := Tryz.zeroValue0
 t2 := Tryz.underlying2
 a2 := Tryz.isAgg2
 z2 := Tryz.sizeOf2
 v2 := Tryz.zeroValue2
 t3 := Tryz.underlying3
 a3 := Tryz.isAgg3
 z3 := Tryz.sizeOf3
 v3 := Tryz.zeroValue3
 t4 := Tryz.underlying4
 a4 := Tryz.isAgg4
 z4 := Tryz.sizeOf4
 v4 := Tryz.zeroValue4
 t5 := Tryz.underlying5
 a5 := Tryz.isAgg5
 z5 := Tryz.sizeOf5
 v5 := Tryz.zeroValue5
 t9 := Tryz.underlying9
 a9 := Tryz.isAgg9
 z9 := Tryz.sizeOf9
 v9 := Tryz.zeroValue9
 t20 := Tryz.underlying20
 a20 := Tryz.isAgg20
 z20 := Tryz.sizeOf20
 v20 := Tryz.zeroValue20
 t37 := Tryz.underlying63
 a37 := Tryz.isAgg63
 z37 := Tryz.sizeOf63
 v37 := Tryz.zeroValue63
 t46 := Tryz.underlying141
 a46 := Tryz.isAgg141
 z46 := Tryz.sizeOf141
 v46 := Tryz.zeroValue141
 t51 := Tryz.underlying140
 a51 := Tryz.isAgg140
 z51 := Tryz.sizeOf140
 v51 := Tryz.zeroValue140
 t53 := Tryz.underlying138
 a53 := Tryz.isAgg138
 z53 := Tryz.sizeOf138
 v53 := Tryz.zeroValue138
 t171 := Tryz.underlying173
 a171 := Tryz.isAgg173
 z171 := Tryz.sizeOf173
 v171 := Tryz.zeroValue173
 t173 := Tryz.underlying176
 a173 := Tryz.isAgg176
 z173 := Tryz.sizeOf176
 v173 := Tryz.zeroValue176
 t212 := Tryz.underlying209
 a212 := Tryz.isAgg209
 z212 := Tryz.sizeOf209
 v212 := Tryz.zeroValue209
 t213 := Tryz.underlying210
 a213 := Tryz.isAgg210
 z213 := Tryz.sizeOf210
 t232 := Tryz.underlying248
 a232 := Tryz.isAgg248
 z232 := Tryz.sizeOf248
 v232 := Tryz.zeroValue248
 t233 := Tryz.underlying249
 a233 := Tryz.isAgg249
 z233 := Tryz.sizeOf249
 v233 := Tryz.zeroValue249
 g17 := by kernel_rfl
 g18 := by kernel_rfl
 g19 := by kernel_rfl
 i0 := by kernel_rfl
 i2 := by kernel_rfl
 i3 := by kernel_rfl
 i4 := by kernel_rfl
 i5 := by kernel_rfl
 i9 := by kernel_rfl
 i20 := by kernel_rfl
 i37 := by kernel_rfl
 i46 := by kernel_rfl
 i51 := by kernel_rfl
 i53 := by kernel_rfl
 i171 := by kernel_rfl
 i173 := by kernel_rfl
 i212 := by kernel_rfl
 i232 := by kernel_rfl
 i233 := by kernel_rfl
 m17 := by kernel_rfl
 m18 := by kernel_rfl
 m19 := by kernel_rfl }
open Go.RowKit Go.Sort Go.Lib in
theorem Tryz.strconv_Itoa (n : Int) (h0 : -9223372036854775808 ≤ n) (h1 : n ≤ 9223372036854775807) (w : World) (htab : Lib.TabIs Tryz.prog w "internal/strconv.uint64pow10" .u64 Lib.pow10Tab) :
  Calls Tryz.prog 21 #[.int .i64 n] w fun e w' => e = .returned (.string ⟨(Lib.itoa n).toArray⟩) ∧ ∃ k os, w' = grow (w.drewN k) os := Any.strconv_Itoa Tryz.laysM171 n h0 h1 w htab
def Tryz.lays219_ren : Go.Shelf.Ren := ⟨fun | 219 => 72 | 217 => 109 | 225 => 110 | 224 => 111 | 267 => 112 | 266 => 168 | 314 => 169 | n => n, fun | 9 => 9 | 3 => 3 | 4 => 4 | 5 => 5 | 46 => 141 | 146 => 178 | 51 => 140 | n => n, fun | 1 => 0 | n => n⟩
def Tryz.lays145_ren : Go.Shelf.Ren := ⟨fun | 145 => 15 | 220 => 34 | 219 => 72 | 217 => 109 | 225 => 110 | 224 => 111 | 267 => 112 | 266 => 168 | 314 => 169 | n => n, fun | 9 => 9 | 4 => 4 | 59 => 45 | 3 => 3 | 5 => 5 | 46 => 141 | 146 => 178 | 51 => 140 | n => n, fun | 1 => 0 | n => n⟩
theorem Tryz.lays145 : Go.Proofs.Lays.n145 Tryz.prog Tryz.lays145_ren := {
 mixed := by kernel_rfl
 f145 := Tryz.func15.trans (congrArg some (by kernel_rfl))
 f217 := Tryz.func109.trans (congrArg some (by kernel_rfl))
 f219 := Tryz.func72.trans (congrArg some (by kernel_rfl))
 f220 := Tryz.func34.trans (congrArg some (by kernel_rfl))
 f224 := Tryz.func111.trans (congrArg some (by kernel_rfl))
 f225 := Tryz.func110.trans (congrArg some (by kernel_rfl))
 f266 := Tryz.func168.trans (congrArg some (by kernel_rfl))
 f267 := Tryz.func112.trans (congrArg some (by kernel_rfl))
 f314 := Tryz.func169.trans (congrArg some (by kernel_rfl))
 t3 := Tryz.underlying3
 a3 := Tryz.isAgg3
 z3 := Tryz.sizeOf3
 v3 := Tryz.zeroValue3
 t4 := Tryz.underlying4
 a4 := Tryz.isAgg4
 z4 := Tryz.sizeOf4
 v4 := Tryz.zeroValue4
 t5 := Tryz.underlying5
 a5 := Tryz.isAgg5
 z5 := Tryz.sizeOf5
 v5 := Tryz.zeroValue5
 t9 := Tryz.underlying9
 a9 := Tryz.isAgg9
 z9 := Tryz.sizeOf9
 v9 := Tryz.zeroValue9
 t46 := Tryz.underlying141
 a46 := Tryz.isAgg141
 z46 := Tryz.sizeOf141
 v46 := Tryz.zeroValue141
 t51 := Tryz.underlying140
 a51 := Tryz.isAgg140
 z51 := Tryz.sizeOf140
 v51 := Tryz.zeroValue140
 t59 := Tryz.underlying45
 a59 := Tryz.isAgg45
 z59 := Tryz.sizeOf45
 v59 := Tryz.zeroValue45
 t146 := Tryz.underlying178
 a146 := Tryz.isAgg178
 z146 := Tryz.sizeOf178
 v146 := Tryz.zeroValue178
 g1 := by kernel_rfl }
open Go.RowKit Go.Lib in
theorem Tryz.strings_Cut (s sep : ByteArray) (m : Int) (w : World) (hs : s.size < 4294967281) (hm : w.cell? ⟨0, 0, none⟩ = some (.int .i64 m)) :
  Calls Tryz.prog 15 #[.string s, .string sep] w fun e w' => e = .returned (.tuple #[.string ⟨(Lib.cut s.data.toList sep.data.toList).1.toArray⟩, .string ⟨(Lib.cut s.data.toList sep.data.toList).2.1.toArray⟩, .bool (Lib.cut s.data.toList sep.data.toList).2.2]) ∧ ∃ n, w' = w.drewN n := Any.strings_Cut Tryz.lays145 s sep m w hs hm
def Tryz.lays221_ren : Go.Shelf.Ren := ⟨fun | 221 => 73 | 268 => 113 | 138 => 114 | 143 => 115 | 195 => 170 | 197 => 171 | 218 => 172 | 219 => 72 | 260 => 207 | 217 => 109 | 225 => 110 | 224 => 111 | 267 => 112 | 266 => 168 | 314 => 169 | n => n, fun | 9 => 9 | 3 => 3 | 31 => 78 | 4 => 4 | 0 => 0 | 105 => 195 | 21 => 21 | 5 => 5 | 46 => 141 | 119 => 234 | 139 => 237 | 138 => 236 | 146 => 178 | 51 => 140 | n => n, fun | 1 => 0 | 3 => 5 | 4 => 6 | n => n⟩
def Tryz.lays146_ren : Go.Shelf.Ren := ⟨fun | 146 => 35 | 221 => 73 | 268 => 113 | 138 => 114 | 143 => 115 | 195 => 170 | 197 => 171 | 218 => 172 | 219 => 72 | 260 => 207 | 217 => 109 | 225 => 110 | 224 => 111 | 267 => 112 | 266 => 168 | 314 => 169 | n => n, fun | 9 => 9 | 31 => 78 | 3 => 3 | 4 => 4 | 0 => 0 | 105 => 195 | 21 => 21 | 5 => 5 | 46 => 141 | 119 => 234 | 139 => 237 | 138 => 236 | 146 => 178 | 51 => 140 | n => n, fun | 1 => 0 | 3 => 5 | 4 => 6 | n => n⟩
theorem Tryz.lays146 : Go.Proofs.Lays.n146 Tryz.prog Tryz.lays146_ren := {
 mixed := by kernel_rfl
 f138 := Tryz.func114.trans (congrArg some (by kernel_rfl))
 f143 := Tryz.func115.trans (congrArg some (by kernel_rfl))
 f146 := Tryz.func35.trans (congrArg some (by kernel_rfl))
 f195 := Tryz.func170.trans (congrArg some (by kernel_rfl))
 f197 := Tryz.func171.trans (congrArg some (by kernel_rfl))
 f217 := Tryz.func109.trans (congrArg some (by kernel_rfl))
 f218 := Tryz.func172.trans (congrArg some (by kernel_rfl))
 f219 := Tryz.func72.trans (congrArg some (by kernel_rfl))
 f221 := Tryz.func73.trans (congrArg some (by kernel_rfl))
 f224 := Tryz.func111.trans (congrArg some (by kernel_rfl))
 f225 := Tryz.func110.trans (congrArg some (by kernel_rfl))
 f260 := Tryz.func207.trans (congrArg some (by kernel_rfl))
 f266 := Tryz.func168.trans (congrArg some (by kernel_rfl))
 f267 := Tryz.func112.trans (congrArg some (by kernel_rfl))
 f268 := Tryz.func113.trans (congrArg some (by kernel_rfl))
 f314 := Tryz.func169.trans (congrArg some (by kernel_rfl))
 t0 := Tryz.underlying0
 a0 := Tryz.isAgg0
 z0 := Tryz.sizeOf0
 v0 := Tryz.zeroValue0
 t3 := Tryz.underlying3
 a3 := Tryz.isAgg3
 z3 := Tryz.sizeOf3
 v3 := Tryz.zeroValue3
 t4 := Tryz.underlying4
 a4 := Tryz.isAgg4
 z4 := Tryz.sizeOf4
 v4 := Tryz.zeroValue4
 t5 := Tryz.underlying5
 a5 := Tryz.isAgg5
 z5 := Tryz.sizeOf5
 v5 := Tryz.zeroValue5
 t9 := Tryz.underlying9
 a9 := Tryz.isAgg9
 z9 := Tryz.sizeOf9
 v9 := Tryz.zeroValue9
 t21 := Tryz.underlying21
 a21 := Tryz.isAgg21
 z21 := Tryz.sizeOf21
 v21 := Tryz.zeroValue21
 t31 := Tryz.underlying78
 a31 := Tryz.isAgg78
 z31 := Tryz.sizeOf78
 v31 := Tryz.zeroValue78
 t46 := Tryz.underlying141
 a46 := Tryz.isAgg141
 z46 := Tryz.sizeOf141
 v46 := Tryz.zeroValue141
 t51 := Tryz.underlying140
 a51 := Tryz.isAgg140
 z51 := Tryz.sizeOf140
 v51 := Tryz.zeroValue140
 t105 := Tryz.underlying195
 a105 := Tryz.isAgg195
 z105 := Tryz.sizeOf195
 v105 := Tryz.zeroValue195
 t119 := Tryz.underlying234
 a119 := Tryz.isAgg234
 z119 := Tryz.sizeOf234
 t138 := Tryz.underlying236
 a138 := Tryz.isAgg236
 z138 := Tryz.sizeOf236
 v138 := Tryz.zeroValue236
 t139 := Tryz.underlying237
 a139 := Tryz.isAgg237
 z139 := Tryz.sizeOf237
 v139 := Tryz.zeroValue237
 t146 := Tryz.underlying178
 a146 := Tryz.isAgg178
 z146 := Tryz.sizeOf178
 v146 := Tryz.zeroValue178
 g1 := by kernel_rfl
 g3 := by kernel_rfl
 g4 := by kernel_rfl }
open Go.RowKit Go.Lib in
theorem Tryz.strings_Split (s sep : ByteArray) (m : Int) (w : World) (hs : s.size < 4294967281) (hm : w.cell? ⟨0, 0, none⟩ = some (.int .i64 m)) (h1 : 1 ≤ sep.size) :
  Calls Tryz.prog 35 #[.string s, .string sep] w fun e w' =>
   e = .returned (.slice (some ⟨w.heap.size, 0, none⟩) (Lib.countB s sep + 1) (Lib.countB s sep + 1)) ∧ w' = w.alloc (.cells ((Lib.splitB sep 0 (Lib.countB s sep) s).map Value.string).toArray 9) := Any.strings_Split Tryz.lays146 (by kernel_rfl) s sep m w hs hm h1
end Go.Proofs
namespace Go.Proofs.YtjelnmokcpoofaaGreatDoor
set_option maxRecDepth 100000
open Go Go.RowKit Go.Proofs
theorem ownsRow_grown {w w' : World} {base E n cap g g' : Nat} {xs : List Value} (h : w.ownsRow base E 1 (.slice (some ⟨g, 0, none⟩) n cap) n xs) (hg : w.grownBy w' (some g')) (hne : g ≠ g') : w'.ownsRow base E 1 (.slice (some ⟨g, 0, none⟩) n cap) n xs := by
 obtain ⟨h1, h2⟩ := h
 refine ⟨h1, ?_⟩
 rcases h2 with h2 | ⟨k, cap', cur, a1, a2, a3, a4⟩
 ·exact .inl h2
 ·simp only [Value.slice.injEq, Option.some.injEq, Addr.mk.injEq, and_true, true_and] at a1
  obtain ⟨rfl, rfl⟩ := a1
  refine .inr ⟨g, cap, cur, rfl, a2, ?_, a4⟩
  rw [hg.block g (Array.getElem?_eq_some_iff.1 a3).1 (fun e => hne (by simpa using e))]
  exact a3
theorem bitLen_bound (x : Nat) (h : 0 < x) (hx : x < 4294967296) : Lib.bitLen x ≤ 32 ∧ 1 ≤ Lib.bitLen x ∧ x * 2 ^ (32 - Lib.bitLen x) < 4294967296 := by
 have h1 : Lib.bitLen x ≤ 32 := Lib.bitLen_le x 32 (by omega) (by omega)
 have h2 := Lib.bitLenAux_bounds 64 x (by omega) (by omega)
 have e : Lib.bitLenAux 64 x = Lib.bitLen x := rfl
 rw [e] at h2
 refine ⟨h1, h2.1, ?_⟩
 have : x * 2 ^ (32 - Lib.bitLen x) < 2 ^ Lib.bitLen x * 2 ^ (32 - Lib.bitLen x) := Nat.mul_lt_mul_of_pos_right h2.2.2 (Nat.two_pow_pos _)
 rw [← Nat.pow_add, show Lib.bitLen x + (32 - Lib.bitLen x) = 32 by omega] at this
 exact this
set_option maxHeartbeats 6400000 in
theorem divide_c (a ad : Option Addr) (c cd la m : Nat) (A d : List Nat) (w : World) (hla : A.length = la) (hdm : d.length = m) (hm2 : 2 ≤ m) (hml : m ≤ la) (hl : la ≤ 1073741824) (okA : OkL A) (okd : OkL d) (htop : 0 < d.getD (m - 1) 0)
  (h : Row w a (limV A)) (h' : Row w ad (limV d)) :
  Calls Tryz.prog 205 #[.slice a la c, .slice ad m cd] w fun e w' => ∃ v1 v2, e = .returned (.tuple #[v1, v2]) ∧ RawO w' w.heap.size v1 (val A / val d) ∧ RawO w' w.heap.size v2 (val A % val d) ∧ Ext w w' := by
 have hda := h'
 obtain ⟨bd, offd, had, hcd⟩ := h'
 have hAd := had (limV_ne (k := 0) (by omega))
 have htop2 := okL_get okd (m - 1)
 obtain ⟨hbl1, hbl2, hbl3⟩ := bitLen_bound _ htop htop2
 have hct := row_at hcd (k := m - 1) (by omega)
 obtain ⟨tp, htp⟩ : ∃ tp, tp = d.getD (m - 1) 0 := ⟨_, rfl⟩
 rw [← htp] at htop htop2 hbl1 hbl2 hbl3 hct
 have hlz := fun w => Tryz.bits_LeadingZeros32 (tp : Int) w (by omega) (by omega)
 rw [Int.toNat_natCast] at hlz
 obtain ⟨n, hn⟩ : ∃ n, n = 32 - Lib.bitLen tp := ⟨_, rfl⟩
 rw [← hn] at hbl3
 have hn31 : n < 32 := by omega
 have hni : (32 : Int) - (Lib.bitLen tp : Nat) = (n : Int) := by omega
 subst hAd
 have hupA := fun w (h : Row w a (limV A)) => up_c a c n A w (by omega) hn31 okA h
 have hupD := fun w (h : Row w (some ⟨bd, offd, none⟩) (limV d)) => up_c (some ⟨bd, offd, none⟩) cd n d w (by omega) hn31 okd h
 rw [hla] at hupA
 rw [hdm] at hupD
 replace hupA := mK hupA
 replace hupD := mK hupD
 replace hlz := mK hlz
 replace hn := mK hn
 replace hni := mK hni
 replace htp := mK htp
 replace h := mK h
 replace hda := mK hda
 replace hla := mK hla
 replace hdm := mK hdm
 replace hbl3 := mK hbl3
 clear hcd had hbl1 hbl2
 go_enter Tryz.func205, Tryz.ntmps205
 go_wp2_with fail
 go_step3
 go_wp2_with (go_at_call 224; refine (hlz.out _).mono ?_; rintro e w' ⟨rfl, hw'⟩; obtain rfl : w = w' := hw'.symm; rw [hni.out])
 go_region_with
  (first
   | (go_at_call_of 225 (Value.slice a la c); refine (hupA.out _ ?_).mono ?_; (exact h.out.ext (xR w).dr); rintro e w1 ⟨rl, rfl, ho1, okr1, hrl1, hrv1, hE1⟩; replace ho1 := mK ho1; replace hE1 := mK hE1; replace okr1 := mK okr1; replace hrl1 := mK hrl1; replace hrv1 := mK hrv1)
   | (go_at_call_of 225 (Value.slice (some ⟨bd, offd, none⟩) m cd); refine (hupD.out _ ?_).mono ?_; (exact hda.out.ext (((xR w).dr).trans hE1.out)); rintro e w2 ⟨rd, rfl, ho2, okr2, hrl2, hrv2, hE2⟩; replace ho2 := mK ho2; replace hE2 := mK hE2; replace okr2 := mK okr2; replace hrl2 := mK hrl2; replace hrv2 := mK hrv2))
 rename_i hmm1
 clear hmm1 hw'
 obtain ⟨hDm, hD2, hdv, hdtop, hdok, hdlen⟩ := norm_facts okd hdm.out hm2 hn31 (by rw [← htp.out]; exact htop) (by rw [← htp.out]; exact hbl3.out) okr2.out hrl2.out hrv2.out
 have hst := divI_start okA hla.out hml (by omega) okr1.out hrl1.out hrv1.out hDm hD2
 have hD0 : 0 < val d * 2 ^ n := Nat.lt_of_lt_of_le (Nat.mul_pos (Nat.pow_pos (by omega)) (Nat.two_pow_pos n)) hD2
 have ho1w : w2.ownsRow w.heap.size 140 1 (.slice (some ⟨w.heap.size, 0, none⟩) (la + 1) (la + 1)) (la + 1) (limV rl) := by
  have := ownsRow_ext ho1.out hE2.out
  rw [hrl1.out] at this
  exact this
 have hds : ∀ j, j < m → w2.cell? ⟨w1.heap.size, j, none⟩ = some (.int .u32 ((rd.take m).getD j 0 : Nat)) := by
  intro j hj
  have := ho2.out
  unfold MagO at this
  rw [hrl2.out] at this
  rw [this.cellAt j (by omega), limV_at (by rw [hrl2.out]; omega)]
  simp [List.getD_eq_getElem?_getD, hj]
 have hgg : w.heap.size < w1.heap.size := by
  have := (ho1.out.lt _ rfl).2
  exact this
 have hEw : Ext w w2 := (((xR w).dr).trans hE1.out).trans hE2.out
 obtain ⟨dl, hdl⟩ : ∃ dl, dl = rd.take m := ⟨_, rfl⟩
 rw [← hdl] at hdv hdtop hdok hdlen hds
 obtain ⟨D, hD⟩ : ∃ D, D = val d * 2 ^ n := ⟨_, rfl⟩
 rw [← hD] at hDm hst hD0 hdv
 obtain ⟨g2, hg2⟩ : ∃ g2, g2 = w1.heap.size := ⟨_, rfl⟩
 rw [← hg2] at hds hgg ⊢
 have hgs2 : g2 < w2.heap.size := by
  have := (ho2.out.lt _ rfl).2
  rw [← hg2] at this
  exact this
 replace hdl := mK hdl
 replace hD := mK hD
 replace hg2 := mK hg2
 replace hst := mK hst
 replace ho1w := mK ho1w
 replace hds := mK hds
 replace hEw := mK hEw
 replace hdv := mK hdv
 replace hdlen := mK hdlen
 clear ho1 ho2 okr1 okr2 hrl1 hrl2 hrv1 hrv2 hE1 hE2 hupA hupD hlz hni hct htop2 hD2 hbl3
 have hmk := fun w => make32 (la + 1 - m) w (by omega)
 rw [show (((la + 1 - m : Nat)) : Int) = (la : Int) + 1 - m by omega] at hmk
 have hmax : max (0 : Int) ((la : Int) + 1 - m) = (la : Int) + 1 - m := by omega
 have htc := fun o => ((xR w2).al o).cell (hds.out (m - 1) (by omega))
 have hv1l := okL_get hdok (m - 1)
 obtain ⟨v1, hv1⟩ : ∃ v1, v1 = dl.getD (m - 1) 0 := ⟨_, rfl⟩
 rw [← hv1] at htc hdtop hv1l
 replace hv1 := mK hv1
 go_wp2_with fail
 clear hmax htc hmk
 go_step3
 go_wp2_with fail
 obtain ⟨g1, hg1⟩ : ∃ g1, g1 = w.heap.size := ⟨_, rfl⟩
 obtain ⟨gq, hgq⟩ : ∃ gq, gq = w2.heap.size := ⟨_, rfl⟩
 have hoq : (w2.alloc (.cells (limV (List.replicate (la + 1 - m) 0)).toArray 140)).ownsRow g1 140 1 (.slice (some ⟨gq, 0, none⟩) (la + 1 - m) (la + 1 - m)) (la + 1 - m) (limV (List.replicate (la + 1 - m) 0)) := by
  have h1 := magO_block (w := w2) (q := List.replicate (la + 1 - m) 0) (by simp; omega)
  unfold MagO at h1
  rw [List.length_replicate, ← hgq] at h1
  exact ownsRow_mono h1 (by omega)
 have hol := ownsRow_ext ho1w.out ((xR w2).al (.cells (limV (List.replicate (la + 1 - m) 0)).toArray 140))
 have hdsl := fun j hj => ((xR w2).al (.cells (limV (List.replicate (la + 1 - m) 0)).toArray 140)).cell (hds.out j hj)
 have hEl := hEw.out.al (.cells (limV (List.replicate (la + 1 - m) 0)).toArray 140)
 rw [← hg1] at hol hgg ⊢
 rw [← hgq] at hgs2 ⊢
 replace hoq := mK hoq
 replace hol := mK hol
 replace hdsl := mK hdsl
 replace hEl := mK hEl
 replace hg1 := mK hg1
 replace hgq := mK hgq
 clear ho1w hds hEw
 go_loopw [10] (fun s wr => ∃ i l q, i ≤ la + 1 - m ∧ s = .int .i64 ((i : Int) - 1) ∧ DivI m D (val A * 2 ^ n) (la + 1) (la + 1 - m) i l q ∧ wr.ownsRow g1 140 1 (.slice (some ⟨g1, 0, none⟩) (la + 1) (la + 1)) (la + 1) (limV l) ∧
  wr.ownsRow g1 140 1 (.slice (some ⟨gq, 0, none⟩) (la + 1 - m) (la + 1 - m)) (la + 1 - m) (limV q) ∧ (∀ j, j < m → wr.cell? ⟨g2, j, none⟩ = some (.int .u32 (dl.getD j 0 : Nat))) ∧ Ext w wr) (fun s _ => (intOf s + 1).toNat)
 case atStart => exact ⟨la + 1 - m, _, _, nR _, by go_num, hst.out, hol.out, hoq.out, hdsl.out, hEl.out⟩
 case round =>
  clear hst hol hoq hdsl hEl
  obtain ⟨i, l, q, hi, rfl, hdi, hol, hoq, hds, hE⟩ := hrel
  cases i with
  | zero =>
   have hll : l.length = la + 1 := hdi.1
   have hql : q.length = la + 1 - m := hdi.2.1
   have okq := hdi.2.2.2.1
   rw [hD.out] at hdi
   obtain ⟨f1, f2, f3, f4⟩ := div_fin hdi rfl (by omega)
   have hsp : l = l.take m ++ l.drop m := (List.take_append_drop m l).symm
   obtain ⟨lt, hlt⟩ : ∃ lt, lt = l.take m := ⟨_, rfl⟩
   obtain ⟨lp, hlp⟩ : ∃ lp, lp = l.drop m := ⟨_, rfl⟩
   have hlpl : lp.length = la + 1 - m := by rw [hlp, List.length_drop, hll]
   rw [hsp, ← hlt, ← hlp] at hol
   rw [← hlt] at f2 f3 f4
   clear hdi hsp
   replace hlt := mK hlt
   replace hlp := mK hlp
   replace hll := mK hll
   replace hol := mK hol
   replace hoq := mK hoq
   replace hE := mK hE
   replace hql := mK hql
   replace f1 := mK f1
   replace f2 := mK f2
   replace f3 := mK f3
   replace hlpl := mK hlpl
   clear hds
   go_wp2_with fail
   obtain ⟨wo, rfl⟩ : ∃ wo : World, wo = wr := ⟨_, rfl⟩
   go_loopw [169] (fun k' wr => ∃ k r', k ≤ m ∧ k' = .int .i64 (k : Nat) ∧ ShiftI lt n k r' ∧ wr.ownsRow g1 140 1 (.slice (some ⟨g1, 0, none⟩) (la + 1) (la + 1)) (la + 1) (limV (r' ++ lp)) ∧ wo.grownBy wr (some g1)) (fun k' _ => m - (intOf k').toNat)
   case atStart => exact ⟨0, lt, Nat.zero_le _, rfl, shiftI_start lt n f4, hol.out, World.grownBy.refl _ _⟩
   case round =>
    obtain ⟨k, r', hk, rfl, hsh, hol2, hg⟩ := hrel
    have hr'l : r'.length = m := by rw [hsh.1, f3.out]
    by_cases hltk : k < m
    ·have hx := getD_of_drop hsh.2.2.1
     have hcell : wr.cell? ⟨g1, k, none⟩ = some (.int .u32 (lt.getD k 0 : Nat)) := by
      rw [hol2.cellAt k (by omega), ← hx]
      have h2 : (r' ++ lp).getD k 0 = r'.getD k 0 := by simp [List.getD_eq_getElem?_getD, List.getElem?_append_left (show k < r'.length by omega)]
      rw [← h2]
      exact limV_at (by simp; omega)
     have hfz := hol2.frozenAt k
     have hnext := shiftI_step hsh (by rw [f3.out]; exact hltk) f4 hn31
     have hxl := okL_get f4 k
     have hyl := okL_get f4 (k + 1)
     have hx1 : r'.getD (k + 1) 0 = lt.getD (k + 1) 0 := by
      have := congrArg (fun l => l.getD 1 0) hsh.2.2.1
      simpa [List.getD_eq_getElem?_getD] using this
     have hj := join64 (lt.getD (k + 1) 0) (lt.getD k 0) hyl hxl
     have hw : IntKind.u64.wrap (((lt.getD (k + 1) 0 : Nat) : Int) * 4294967296) = ((lt.getD (k + 1) 0 : Nat) : Int) * 4294967296 := by rw [IntKind.wrap_u64]; omega
     obtain ⟨V, hV⟩ : ∃ V, V = (lt.getD (k + 1) 0 * 4294967296 + lt.getD k 0) / 2 ^ n % 4294967296 := ⟨_, rfl⟩
     rw [← hV] at hnext
     obtain ⟨ht1, ht2⟩ := hol2.stored k (.int .u32 (V : Nat))
     rw [limV_set, List.set_append_left _ _ (by omega)] at ht1
     replace ht2 := hg.trans ht2
     by_cases hlast : k + 1 < m
     ·have hc1 : wr.cell? ⟨g1, k + 1, none⟩ = some (.int .u32 (lt.getD (k + 1) 0 : Nat)) := by
       rw [hol2.cellAt (k + 1) (by omega), ← hx1]
       have h2 : (r' ++ lp).getD (k + 1) 0 = r'.getD (k + 1) 0 := by simp [List.getD_eq_getElem?_getD, List.getElem?_append_left (show k + 1 < r'.length by omega)]
       rw [← h2]
       exact limV_at (by simp; omega)
      generalize lt.getD (k + 1) 0 = y at *
      generalize lt.getD k 0 = x at *
      clear hx hx1
      replace hV := mK hV
      replace hsh := mK hsh
      replace hol2 := mK hol2
      replace hg := mK hg
      replace ht1 := mK ht1
      replace ht2 := mK ht2
      replace hnext := mK hnext
      replace hr'l := mK hr'l
      have hVi : ((y : Int) * 4294967296 + x) / 2 ^ n % 4294967296 = (V : Int) := by rw [hV.out]; simp
      replace hVi := mK hVi
      go_wp2_with fail
      go_roundw
      case rel =>
       rw [hVi.out]
       exact ⟨k + 1, _, by omega, by go_num, hnext.out, ht1.out, ht2.out⟩
      case measure => simp [intOf] <;> omega
     ·have hy0 : lt.getD (k + 1) 0 = 0 := by simp [List.getD_eq_getElem?_getD, List.getElem?_eq_none (show lt.length ≤ k + 1 by rw [f3.out]; omega)]
      rw [hy0] at hV
      have hj0 : bits .or .u64 0 ((lt.getD k 0 : Nat) : Int) = ((lt.getD k 0 : Nat) : Int) := by
       have := (bits_nat .u64 64 (by decide) wraps_u64 0 (lt.getD k 0) (by omega) (by omega)).2
       rw [Nat.zero_or] at this
       exact this
      generalize lt.getD k 0 = x at *
      have hVi : (x : Int) / 2 ^ n % 4294967296 = (V : Int) := by rw [hV]; simp
      clear hx hx1 hj hw hyl hy0
      replace hVi := mK hVi
      replace hV := mK hV
      replace hsh := mK hsh
      replace hol2 := mK hol2
      replace hg := mK hg
      replace ht1 := mK ht1
      replace ht2 := mK ht2
      replace hnext := mK hnext
      replace hr'l := mK hr'l
      go_wp2_with fail
      go_roundw
      case rel =>
       rw [hVi.out]
       exact ⟨k + 1, _, by omega, by go_num, hnext.out, ht1.out, ht2.out⟩
      case measure => simp [intOf] <;> omega
    ·obtain rfl : m = k := by omega
     clear hltk hk
     have hs2 : ShiftI lt n lt.length r' := by rw [f3.out]; exact hsh
     obtain ⟨s1, s2, s3⟩ := shiftI_end hs2 f4
     rw [f2.out] at s3
     have hq2 := ownsRow_grown hoq.out hg (by omega)
     have hE2 := hE.out.gr hg (fun k e => by cases e; rw [hg1.out]; exact nR _)
     have ho3 := ownsRow_take hol2 (m := m) (by omega)
     rw [← limV_take, List.take_append_of_le_length (by omega), List.take_of_length_le (by omega)] at ho3
     have hR1 : RawO wr g1 (.slice (some ⟨gq, 0, none⟩) (la + 1 - m) (la + 1 - m)) (val A / val d) := ⟨q, by unfold MagO; rw [hql.out]; exact hq2, okq, by rw [hql.out]; omega, f1.out⟩
     have hR2 : RawO wr g1 (.slice (some ⟨g1, 0, none⟩) m (la + 1)) (val A % val d) := ⟨r', by unfold MagO; rw [hr'l]; exact ho3, s2, by omega, s3⟩
     rw [hg1.out] at hR1 hR2
     replace hR1 := mK hR1
     replace hR2 := mK hR2
     replace hE2 := mK hE2
     clear hs2 s1 s2 s3 hq2 ho3 hsh hol2 hg hr'l
     rw [hg1.out]
     go_wp2_with fail
     rw [Exit.noGoto_ret]
     go_ret2
     exact ⟨_, _, rfl, hR1.out, hR2.out, hE2.out⟩
  | succ i =>
   rw [show (((i + 1 : Nat)) : Int) - 1 = (i : Int) by omega]
   have hil : i + (m + 1) ≤ la + 1 := by omega
   have hll : l.length = la + 1 := hdi.1
   have c0 : wr.cell? ⟨g1, i + m, none⟩ = some (.int .u32 (l.getD (i + m) 0 : Nat)) := by rw [hol.cellAt (i + m) (by omega)]; exact limV_at (by omega)
   have c1 : wr.cell? ⟨g1, i + (m - 1), none⟩ = some (.int .u32 (l.getD (i + (m - 1)) 0 : Nat)) := by rw [hol.cellAt (i + (m - 1)) (by omega)]; exact limV_at (by omega)
   have c2 : wr.cell? ⟨g1, i + (m - 2), none⟩ = some (.int .u32 (l.getD (i + (m - 2)) 0 : Nat)) := by rw [hol.cellAt (i + (m - 2)) (by omega)]; exact limV_at (by omega)
   have c3 := hds (m - 2) (by omega)
   have b0 := okL_get hdi.2.2.1 (i + m)
   have b1 := okL_get hdi.2.2.1 (i + (m - 1))
   have b2 := okL_get hdi.2.2.1 (i + (m - 2))
   have b3 := okL_get hdok (m - 2)
   obtain ⟨u0, hu0⟩ : ∃ u, u = l.getD (i + m) 0 := ⟨_, rfl⟩
   obtain ⟨u1, hu1⟩ : ∃ u, u = l.getD (i + (m - 1)) 0 := ⟨_, rfl⟩
   obtain ⟨u2, hu2⟩ : ∃ u, u = l.getD (i + (m - 2)) 0 := ⟨_, rfl⟩
   obtain ⟨v2, hv2⟩ : ∃ u, u = dl.getD (m - 2) 0 := ⟨_, rfl⟩
   rw [← hu0] at c0 b0
   rw [← hu1] at c1 b1
   rw [← hu2] at c2 b2
   rw [← hv2] at c3 b3
   have j1 := join64 u0 u1 b0 b1
   have hi1 : 0 ≤ (i : Int) := by omega
   have w1' : IntKind.i64.wrap ((m : Int) - 1) = (m : Int) - 1 := by rw [IntKind.wrap_i64]; omega
   have w2' : IntKind.i64.wrap ((m : Int) - 2) = (m : Int) - 2 := by rw [IntKind.wrap_i64]; omega
   have w3' : IntKind.u64.wrap ((u0 : Int) * 4294967296) = (u0 : Int) * 4294967296 := by rw [IntKind.wrap_u64]; omega
   have w4' : ((m : Int) - 1).toNat = m - 1 := by omega
   have w5' : ((m : Int) - 2).toNat = m - 2 := by omega
   have k1 : 0 ≤ (m : Int) - 1 := by omega
   have k2 : 0 ≤ (m : Int) - 2 := by omega
   obtain ⟨hz, hPlt, hlv⟩ := part_val hdi (by omega)
   have hgf := guessF_mk hdi.2.2.1 hdok hm2 (by omega) hdlen.out hdv.out (by rw [← hv1.out]; exact hdtop) hD0 hPlt
   rw [← hv1.out, ← hu0, ← hu1, ← hu2, ← hv2] at hgf
   obtain ⟨P, hP⟩ : ∃ P, P = val (partL l i m) := ⟨_, rfl⟩
   rw [← hP] at hgf
   have hgst := guessI_start hgf
   have hgi := guessI_small hgf
   replace hgf := mK hgf
   replace hgst := mK hgst
   replace hgi := mK hgi
   replace hP := mK hP
   clear hz hPlt hlv
   replace hu0 := mK hu0
   replace hu1 := mK hu1
   replace hu2 := mK hu2
   replace hv2 := mK hv2
   replace hdi := mK hdi
   replace hol := mK hol
   replace hoq := mK hoq
   replace hds := mK hds
   replace hE := mK hE
   replace hll := mK hll
   go_wp2_with fail
   rw [show i + m + 1 - i = m + 1 by omega]
   go_quiet (fail)
   go_wp2_with fail
   go_quiet (fail)
   clear j1 w3'
   go_upto_block 2 with fail
   go_cut [13] (fun s wx => ∃ g, s = .int .u64 (g : Nat) ∧ GuessR P D g ∧ Drw wr wx)
   case first =>
    obtain ⟨hd, hhd⟩ : ∃ hd, hd = u0 * 4294967296 + u1 := ⟨_, rfl⟩
    rw [← hhd] at hgf hgst hgi
    replace hhd := mK hhd
    go_wp2_with fail
    go_loopw [13, 14] (fun s13 s14 wx => ∃ g r, s13 = .int .u64 (g : Nat) ∧ s14 = .int .u64 (r : Nat) ∧ r < 4294967296 ∧ GuessI P D v1 hd g r ∧ Drw wr wx) (fun s13 _ _ => (intOf s13).toNat)
    case atStart => exact ⟨hd / v1, hd % v1, by rw [hhd.out]; simp, by rw [hhd.out]; simp, by have := Nat.mod_lt hd hdtop; omega, hgst.out, ⟨_, World.drewN_drewN ..⟩⟩
    case round =>
     clear hgst
     obtain ⟨g, r, rfl, rfl, hr, hgI, hDr⟩ := hrel
     have c2x := (hDr.cell ⟨g1, i + (m - 2), none⟩).trans c2
     have c3x := (hDr.cell ⟨g2, m - 2, none⟩).trans c3
     have hgl : g < 8589934592 := by
      have h1 := hgI.2
      have h2 := hgi.out
      have h3 : g * v1 < 8589934592 * v1 := by rw [Nat.add_mul, Nat.mul_comm v1] at h2; omega
      exact Nat.lt_of_mul_lt_mul_right h3
     by_cases hA : 4294967296 ≤ g
     ·have hAd : decide ((4294967296 : Int) ≤ (g : Int)) = true := by simp; omega
      replace hA := mK hA
      obtain ⟨h1g, hnext⟩ := guessI_dec hgf.out hgI (.inl hA.out)
      replace hgI := mK hgI
      replace hDr := mK hDr
      replace hnext := mK hnext
      by_cases hB : 4294967296 ≤ r + v1
      ·have hbr := guessI_break hgf.out hnext.out hB
       replace hbr := mK hbr
       have hBd : decide ((4294967296 : Int) ≤ (r : Int) + v1) = true := by simp; omega
       replace hB := mK hB
       go_wp2_with fail
       go_quiet (fail)
       go_wp2_with fail
       go_meet
       exact ⟨g - 1, by rw [show ((g - 1 : Nat) : Int) = (g : Int) - 1 by omega], hbr.out, Drw.trans hDr.out ⟨_, rfl⟩⟩
      ·have hBd : decide ((4294967296 : Int) ≤ (r : Int) + v1) = false := by simp; omega
       have hBl : r + v1 < 4294967296 := by omega
       replace hB := mK hB
       replace hBl := mK hBl
       go_wp2_with fail
       go_quiet (fail)
       go_wp2_with fail
       go_roundw
       case rel => exact ⟨g - 1, r + v1, by rw [show ((g - 1 : Nat) : Int) = (g : Int) - 1 by omega], by rw [show ((r + v1 : Nat) : Int) = (r : Int) + v1 by omega], hBl.out, hnext.out, Drw.trans hDr.out ⟨_, rfl⟩⟩
       case measure => simp [intOf] <;> omega
     ·have hAd : decide ((4294967296 : Int) ≤ (g : Int)) = false := by simp; omega
      obtain ⟨S, hS⟩ : ∃ S, S = g * v2 := ⟨_, rfl⟩
      have hSl : S ≤ 4294967295 * 4294967295 := by rw [hS]; exact Nat.mul_le_mul (by omega) (by omega)
      have e1 : IntKind.u64.wrap ((g : Int) * v2) = (S : Int) := by
       rw [show (g : Int) * v2 = ((g * v2 : Nat) : Int) by simp, ← hS, IntKind.wrap_u64]
       omega
      have e2 : IntKind.u64.wrap ((r : Int) * 4294967296) = (r : Int) * 4294967296 := by rw [IntKind.wrap_u64]; omega
      have e3 := join64 r u2 hr b2
      replace hS := mK hS
      by_cases hC : r * 4294967296 + u2 < S
      ·have hCd : decide ((r : Int) * 4294967296 + u2 < (S : Int)) = true := by simp; omega
       obtain ⟨h1g, hnext⟩ := guessI_dec hgf.out hgI (.inr (by rw [← hS.out]; exact hC))
       replace hgI := mK hgI
       replace hDr := mK hDr
       replace hnext := mK hnext
       by_cases hB : 4294967296 ≤ r + v1
       ·have hbr := guessI_break hgf.out hnext.out hB
        replace hbr := mK hbr
        have hBd : decide ((4294967296 : Int) ≤ (r : Int) + v1) = true := by simp; omega
        replace hB := mK hB
        go_wp2_with fail
        go_quiet (fail)
        go_wp2_with fail
        go_meet
        exact ⟨g - 1, by rw [show ((g - 1 : Nat) : Int) = (g : Int) - 1 by omega], hbr.out, Drw.trans hDr.out ⟨_, rfl⟩⟩
       ·have hBd : decide ((4294967296 : Int) ≤ (r : Int) + v1) = false := by simp; omega
        have hBl : r + v1 < 4294967296 := by omega
        replace hB := mK hB
        replace hBl := mK hBl
        go_wp2_with fail
        go_quiet (fail)
        go_wp2_with fail
        go_roundw
        case rel => exact ⟨g - 1, r + v1, by rw [show ((g - 1 : Nat) : Int) = (g : Int) - 1 by omega], by rw [show ((r + v1 : Nat) : Int) = (r : Int) + v1 by omega], hBl.out, hnext.out, Drw.trans hDr.out ⟨_, rfl⟩⟩
        case measure => simp [intOf] <;> omega
      ·have hCd : decide ((r : Int) * 4294967296 + u2 < (S : Int)) = false := by simp; omega
       have hend := guessI_end hgf.out hgI (by omega) (by rw [← hS.out]; omega)
       replace hend := mK hend
       replace hgI := mK hgI
       replace hDr := mK hDr
       go_wp2_with fail
       go_quiet (fail)
       go_wp2_with fail
       go_meet
       exact ⟨g, rfl, hend.out, Drw.trans hDr.out ⟨_, rfl⟩⟩
   case rest =>
    obtain ⟨g, rfl, hgR, hDr⟩ := hcut
    have hgl : g < 4294967296 := hgR.2.2
    have hol1 := ownsRow_heap hDr.heap hol.out
    have hoq1 := ownsRow_heap hDr.heap hoq.out
    have hds1 : ∀ j, j < m → wc.cell? ⟨g2, j, none⟩ = some (.int .u32 (dl.getD j 0 : Nat)) := fun j hj => (hDr.cell _).trans (hds.out j hj)
    have hE1 := hE.out.trans hDr.ext
    have hpl := partL_length (l := l) (i := i) (m := m) (by rw [hll.out]; omega)
    have hsplit := part_split l i m
    rw [hsplit] at hol1
    have hless := less_c g1 g1 g2 i (la + 1) (la + 1) (la + 1 - i) m (m + 1) 0 g (l.take i) (partL l i m) (l.drop (i + (m + 1))) dl wc (by rw [List.length_take, hll.out]; omega) hpl hdlen.out (by omega) (by rw [List.length_drop, hll.out]; omega) (by omega) hdok (partL_ok hdi.out.2.2.1 i m) hgl (by omega) hol1 hds1
    replace hless := mK hless
    replace hol1 := mK hol1
    replace hoq1 := mK hoq1
    replace hds1 := mK hds1
    replace hE1 := mK hE1
    replace hpl := mK hpl
    replace hsplit := mK hsplit
    replace hgR := mK hgR
    clear hDr hol hoq hds hE hgf hgst hgi c0 c1 c2 c3 b0 b1 b2 b3 hu0 hu1 hu2 hv2 w1' w2' w4' w5' k1 k2
    go_wp2_with fail
    refine hless.out.mono ?_
    rintro e wd ⟨r, neg, rfl, hLR, hol2, hgr⟩
    clear hless
    have hoq2 := ownsRow_grown hoq1.out hgr (by omega)
    have hds2 : ∀ j, j < m → wd.cell? ⟨g2, j, none⟩ = some (.int .u32 (dl.getD j 0 : Nat)) := fun j hj => by
     have h1 := hds1.out j hj
     rw [hgr.cell_far _ (lt_of_cell h1) (fun e => by simp at e; omega)]
     exact h1
    have hE2 : Ext w wd := hE1.out.gr hgr (fun k e => by cases e; rw [hg1.out]; exact nR _)
    clear hoq1 hds1 hE1 hgr hol1
    have hLv := hLR.2.2.2
    have hLn := hLR.2.2.1
    rw [hdv.out, ← hP.out] at hLv hLn
    obtain ⟨oldq, hcq⟩ := owns_cell hoq2 (j := i) (by omega)
    have hfq := hoq2.frozenAt i
    have hgm : (g : Int) % 4294967296 = g := by omega
    cases neg with
    | false =>
     rw [if_neg (by simp), Nat.add_zero] at hLv
     obtain ⟨hgd, hrv⟩ := less_val hLv hgR.out.1 hD0
     have hnx := divI_step hdi.out hil (by omega) hLR.2.1 (by rw [hLR.1]; exact hpl.out) (by rw [← hP.out]; exact hrv) hD0
     rw [← hP.out, ← hgd] at hnx
     obtain ⟨hs1, hs2⟩ := hoq2.stored i (.int .u32 (g : Nat))
     rw [limV_set] at hs1
     have hol3 := ownsRow_grown hol2 hs2 (by omega)
     have hE3 := hE2.gr hs2 (fun k e => by cases e; have := hg1.out; omega)
     have hds3 : ∀ j, j < m → (wd.setCell ⟨gq, i, none⟩ (.int .u32 (g : Nat))).cell? ⟨g2, j, none⟩ = some (.int .u32 (dl.getD j 0 : Nat)) := fun j hj => by
      have h1 := hds2 j hj
      rw [hs2.cell_far _ (lt_of_cell h1) (fun e => by simp at e; omega)]
      exact h1
     replace hnx := mK hnx
     replace hs1 := mK hs1
     replace hol3 := mK hol3
     replace hE3 := mK hE3
     replace hds3 := mK hds3
     replace hgd := mK hgd
     replace hgm := mK hgm
     clear hs2 hds2 hol2 hoq2 hE2 hLv hLn hLR hrv
     go_wp2_with fail
     go_roundw
     case rel => exact ⟨i, _, _, by omega, rfl, hnx.out, hol3.out, hs1.out, hds3.out, hE3.out⟩
     case measure => simp [intOf] <;> omega
    | true =>
     rw [if_pos rfl, hpl.out] at hLv
     have hlt : P < g * D := by simpa using hLn.symm
     have hg0 : 1 ≤ g := by
      rcases Nat.eq_zero_or_pos g with h0 | h0
      ·rw [h0, Nat.zero_mul] at hlt; omega
      ·exact h0
     obtain ⟨hs1, hs2⟩ := hoq2.stored i (.int .u32 ((g - 1 : Nat) : Int))
     rw [limV_set] at hs1
     obtain ⟨wd1, hwd1⟩ : ∃ wd1, wd1 = wd.setCell ⟨gq, i, none⟩ (.int .u32 ((g - 1 : Nat) : Int)) := ⟨_, rfl⟩
     rw [← hwd1] at hs1 hs2
     have hol3 := ownsRow_grown hol2 hs2 (by omega)
     have hE3 : Ext w wd1 := hE2.gr hs2 (fun k e => by cases e; have := hg1.out; omega)
     have hds3 : ∀ j, j < m → wd1.cell? ⟨g2, j, none⟩ = some (.int .u32 (dl.getD j 0 : Nat)) := fun j hj => by
      have h1 := hds2 j hj
      rw [hs2.cell_far _ (lt_of_cell h1) (fun e => by simp at e; omega)]
      exact h1
     have okr := hLR.2.1
     have hrl : r.length = m + 1 := by rw [hLR.1]; exact hpl.out
     replace hs1 := mK hs1
     replace hol3 := mK hol3
     replace hE3 := mK hE3
     replace hds3 := mK hds3
     replace hLv := mK hLv
     replace hlt := mK hlt
     replace hrl := mK hrl
     replace hwd1 := mK hwd1
     clear hs2 hds2 hol2 hoq2 hE2 hLn hLR hgm
     go_wp2_with fail
     rw [show (g : Int) - 1 = ((g - 1 : Nat) : Int) by omega, ← hwd1.out]
     clear hcq hfq
     go_loopw [136, 15] (fun k' c' wr => ∃ k cr r', k ≤ m ∧ k' = .int .i64 (k : Nat) ∧ c' = .int .u32 (cr : Nat) ∧ AddB r dl k cr r' ∧ wr.ownsRow g1 140 1 (.slice (some ⟨g1, 0, none⟩) (la + 1) (la + 1)) (la + 1) (limV (l.take i ++ r' ++ l.drop (i + (m + 1)))) ∧ wd1.grownBy wr (some g1)) (fun k' _ _ => m - (intOf k').toNat)
     case atStart => exact ⟨0, 0, r, Nat.zero_le _, rfl, rfl, addB_start r dl okr, hol3.out, World.grownBy.refl _ _⟩
     case round =>
      obtain ⟨k, cr, r', hk, rfl, rfl, hab, hol4, hg4⟩ := hrel
      have hti : (l.take i).length = i := by rw [List.length_take, hll.out]; omega
      have hr'l : r'.length = m + 1 := by rw [hab.1, hrl.out]
      have hx := getD_of_drop hab.2.2.1
      have hcr := hab.2.2.2.1
      by_cases hltk : k < m
      ·have hcell : wr.cell? ⟨g1, i + k, none⟩ = some (.int .u32 (r.getD k 0 : Nat)) := by
        rw [hol4.cellAt (i + k) (by omega), ← hx, ← getD_mid (l.take i) r' (l.drop (i + (m + 1))) k (by omega), hti]
        exact limV_at (by have := hll.out; simp; omega)
       have hdc : wr.cell? ⟨g2, k, none⟩ = some (.int .u32 (dl.getD k 0 : Nat)) := by
        have h1 := hds3.out k hltk
        rw [hg4.cell_far _ (lt_of_cell h1) (fun e => by simp at e; omega)]
        exact h1
       have hfz := hol4.frozenAt (i + k)
       have hnext := addB_step hab (by rw [hrl.out]; omega) (by rw [hdlen.out]; exact hltk) okr hdok
       have hxl := okL_get okr k
       have hyl := okL_get hdok k
       generalize r.getD k 0 = x at *
       generalize dl.getD k 0 = y at *
       have had := fun w => add32_c x y cr w hxl hyl hcr
       obtain ⟨S, hS⟩ : ∃ S, S = (x + y + cr) % 4294967296 := ⟨_, rfl⟩
       obtain ⟨C, hC⟩ : ∃ C, C = (x + y + cr) / 4294967296 := ⟨_, rfl⟩
       rw [← hS, ← hC] at had hnext
       obtain ⟨ht1, ht2⟩ := hol4.stored (i + k) (.int .u32 (S : Nat))
       have hst := set_mid (l.take i) r' (l.drop (i + (m + 1))) k S (by omega)
       rw [hti] at hst
       rw [limV_set, hst] at ht1
       replace ht2 := hg4.trans ht2
       replace had := mK had
       replace hnext := mK hnext
       replace ht1 := mK ht1
       replace ht2 := mK ht2
       clear hS hC hst hx hab hol4 hg4
       replace hti := mK hti
       replace hr'l := mK hr'l
       go_wp2_with (go_at_call 203; refine (had.out _).mono ?_; rintro e w' ⟨rfl, rfl⟩)
       go_roundw
       case rel => exact ⟨k + 1, C, _, by omega, by go_num, rfl, hnext.out, ht1.out, ht2.out⟩
       case measure => simp [intOf] <;> omega
      ·obtain rfl : m = k := by omega
       have hcell : wr.cell? ⟨g1, i + m, none⟩ = some (.int .u32 (r.getD m 0 : Nat)) := by
        rw [hol4.cellAt (i + m) (by omega), ← hx, ← getD_mid (l.take i) r' (l.drop (i + (m + 1))) m (by omega), hti]
        exact limV_at (by have := hll.out; simp; omega)
       have hfz := hol4.frozenAt (i + m)
       have hxl := okL_get okr m
       obtain ⟨Y, hY⟩ : ∃ Y, Y = (r.getD m 0 + cr) % 4294967296 := ⟨_, rfl⟩
       obtain ⟨a1, a2, a3⟩ := addB_end hab hdlen.out hrl.out Y hY
       have a4 := val_lt a2
       rw [a1] at a4
       rw [hdv.out] at a3
       obtain ⟨hgd, hrv⟩ := back_val hLv.out hlt.out hgR.out.2.1 hD0 a4 a3
       have hnx := divI_step hdi.out hil (by omega) a2 a1 (by rw [← hP.out]; exact hrv) hD0
       rw [← hP.out, ← hgd] at hnx
       obtain ⟨ht1, ht2⟩ := hol4.stored (i + m) (.int .u32 (Y : Nat))
       have hst := set_mid (l.take i) r' (l.drop (i + (m + 1))) m Y (by omega)
       rw [hti] at hst
       rw [limV_set, hst] at ht1
       replace ht2 := hg4.trans ht2
       have hq5 := ownsRow_grown hs1.out ht2 (by omega)
       have hE5 := hE3.out.gr ht2 (fun k e => by cases e; rw [hg1.out]; exact nR _)
       have hds5 : ∀ j, j < m → (wr.setCell ⟨g1, i + m, none⟩ (.int .u32 (Y : Nat))).cell? ⟨g2, j, none⟩ = some (.int .u32 (dl.getD j 0 : Nat)) := fun j hj => by
        have h1 := hds3.out j hj
        rw [ht2.cell_far _ (lt_of_cell h1) (fun e => by simp at e; omega)]
        exact h1
       generalize r.getD m 0 = x at *
       have hYi : ((x : Int) + cr) % 4294967296 = (Y : Int) := by omega
       replace hYi := mK hYi
       replace hnx := mK hnx
       replace ht1 := mK ht1
       replace hq5 := mK hq5
       replace hE5 := mK hE5
       replace hds5 := mK hds5
       clear hY a1 a2 a3 a4 hgd hrv hst ht2 hx hab hol4 hg4
       replace hti := mK hti
       replace hr'l := mK hr'l
       go_wp2_with fail
       go_roundw
       case rel =>
        rw [hYi.out]
        exact ⟨i, _, _, by omega, rfl, hnx.out, ht1.out, hq5.out, hds5.out, hE5.out⟩
       case measure => simp [intOf] <;> omega
theorem int_cases (X : Int) : ∃ b : Bool, b = decide (X < 0) ∧ X = sg b X.natAbs := by
 refine ⟨_, rfl, ?_⟩
 unfold sg
 by_cases h : X < 0
 ·rw [if_pos (by simpa using h)]; omega
 ·rw [if_neg (by simpa using h)]; omega
theorem sg_tdiv (X Y : Int) : sg (decide (X < 0) != decide (Y < 0)) (X.natAbs / Y.natAbs) = X.tdiv Y := by
 obtain ⟨bx, h1, hx⟩ := int_cases X
 obtain ⟨bY, h2, hy⟩ := int_cases Y
 rw [← h1, ← h2]
 conv => rhs; rw [hx, hy]
 generalize X.natAbs = a
 generalize Y.natAbs = b
 unfold sg
 cases bx <;> cases bY <;> simp [Int.neg_tdiv, Int.tdiv_neg]
theorem sg_tmod (X Y : Int) : sg (decide (X < 0)) (X.natAbs % Y.natAbs) = X.tmod Y := by
 obtain ⟨bx, h1, hx⟩ := int_cases X
 obtain ⟨bY, h2, hy⟩ := int_cases Y
 rw [← h1]
 conv => rhs; rw [hx, hy]
 generalize X.natAbs = a
 generalize Y.natAbs = b
 unfold sg
 cases bx <;> cases bY <;> simp [Int.neg_tmod, Int.tmod_neg, ← Int.ofNat_tmod]
theorem results_two {P : Program} {fn : Func} {p q : Tmp} {ty : TypeId} (h : fn.results = #[.cell p ty, .cell q ty]) (tmps : Array Value) (w : World) (g g' : Nat) (t : TypeId) (cs cs' : Array Value) (d : TypeDesc)
  (hp : tmps.getD p undef = .pointer (some ⟨g, 0, none⟩)) (hq : tmps.getD q undef = .pointer (some ⟨g', 0, none⟩)) (hg : w.heap[g]? = some (.cells cs t (0, 0))) (hg' : w.heap[g']? = some (.cells cs' t (0, 0)))
  (hu : P.underlying ty = some d) (hd : (match d with | .struct _ | .array _ _ => true | _ => false) = true) (hi : (P.info? ty).map (·.size) = some cs.size) (hi' : (P.info? ty).map (·.size) = some cs'.size) :
  (results fn tmps).run P w = .ok (.tuple #[.agg cs, .agg cs']) w := by
 have hp' : tmps[p]?.getD undef = .pointer (some ⟨g, 0, none⟩) := by simpa using hp
 have hq' : tmps[q]?.getD undef = .pointer (some ⟨g', 0, none⟩) := by simpa using hq
 simp [results, h, hp', hq', asAddr, run_loadVar_row w g t ty cs (0, 0) d hg hu hd hi, run_loadVar_row w g' t ty cs' (0, 0) d hg' hu hd hi']
theorem two_rows (w : World) (g g' : Nat) (cs cs' o o' : Array Value) (t : TypeId) (hne : g ≠ g') (h : w.heap[g]? = some (.cells o t (0, 0))) (h' : w.heap[g']? = some (.cells o' t (0, 0))) :
  ((w.setRow g cs).setRow g' cs').heap[g]? = some (.cells cs t (0, 0)) ∧ ((w.setRow g cs).setRow g' cs').heap[g']? = some (.cells cs' t (0, 0)) ∧ (w.setRow g cs).heap[g']? = some (.cells o' t (0, 0)) := by
 have h1 : (w.setRow g cs).heap[g']? = some (.cells o' t (0, 0)) := by rw [setRow_other _ _ _ _ (Ne.symm hne)]; exact h'
 exact ⟨by rw [setRow_other _ _ _ _ hne]; exact setRow_heap _ _ _ _ _ _ h, setRow_heap _ _ _ _ _ _ h1, h1⟩
set_option maxHeartbeats 3200000 in
theorem divide_less (bx bY : Bool) (a1 a2 : Option Addr) (c1 c2 : Nat) (X Y : Int) (w : World) (hX : nl X ≤ 1073741824) (hY : nl Y ≤ 1073741824) (hlt : X.natAbs < Y.natAbs) (hbx : bx = decide (X < 0))
  (r1 : Row w a1 (limV (lim X.natAbs))) (r2 : Row w a2 (limV (lim Y.natAbs))) :
  Calls Tryz.prog 163 #[.agg #[.bool bx, .slice a1 (lim X.natAbs).length c1], .agg #[.bool bY, .slice a2 (lim Y.natAbs).length c2]] w fun e w' => ∃ q r, e = .returned (.tuple #[q, r]) ∧ Ext w w' ∧ IntO w' w.heap.size q (X.tdiv Y) ∧ IntO w' w.heap.size r (X.tmod Y) := by
 have hq0 : X.tdiv Y = 0 := by rw [← sg_tdiv, Nat.div_eq_of_lt hlt]; unfold sg; split <;> rfl
 have hr0 : sg bx (val (lim X.natAbs)) = X.tmod Y := by rw [val_lim, ← sg_tmod, Nat.mod_eq_of_lt hlt, hbx]
 rw [hq0]
 replace hr0 := mK hr0
 replace hbx := mK hbx
 clear hq0
 go_enter Tryz.func163, Tryz.ntmps163
 go_wp2_with fail
 obtain ⟨wb, hw3⟩ : ∃ wb, wb = (((w.alloc (.cells #[.bool bx, .slice a1 (lim X.natAbs).length c1] 50)).alloc (.cells #[.bool bY, .slice a2 (lim Y.natAbs).length c2] 50)).alloc (.cells #[.bool false, .slice none 0 0] 50)).alloc (.cells #[.bool false, .slice none 0 0] 50) := ⟨_, rfl⟩
 have hE : Ext w wb := by rw [hw3]; exact ((((xR w).al _).al _).al _).al _
 have h00 : ∀ W, Ext wb W → W.cell? ⟨w.heap.size, 0, none⟩ = some (.bool bx) := fun W e => e.cell (by rw [hw3]; go_simp)
 have h01 : ∀ W, Ext wb W → W.cell? ⟨w.heap.size, 1, none⟩ = some (.slice a1 (lim X.natAbs).length c1) := fun W e => e.cell (by rw [hw3]; go_simp)
 have h10 : ∀ W, Ext wb W → W.cell? ⟨w.heap.size + 1, 0, none⟩ = some (.bool bY) := fun W e => e.cell (by rw [hw3]; go_simp)
 have h11 : ∀ W, Ext wb W → W.cell? ⟨w.heap.size + 1, 1, none⟩ = some (.slice a2 (lim Y.natAbs).length c2) := fun W e => e.cell (by rw [hw3]; go_simp)
 have hsz : w.heap.size + 4 ≤ wb.heap.size := by rw [hw3]; simp
 have hB2 : ∀ W, Ext wb W → W.heap[w.heap.size + 2]? = some (.cells #[.bool false, .slice none 0 0] 50) := fun W e => e.blk (by rw [hw3]; exact (heap_alloc_old _ _ (by simp)).trans (heap_at _ _ _ (by simp)))
 have hB3 : ∀ W, Ext wb W → W.heap[w.heap.size + 3]? = some (.cells #[.bool false, .slice none 0 0] 50) := fun W e => e.blk (by rw [hw3]; exact heap_at _ _ _ (by simp))
 rw [← hw3]
 refine (size_c _ _ _ _ _ _ _ (by unfold nl at *; omega) (by unfold nl at *; omega) (r1.ext hE) (r2.ext hE)).mono ?_
 rintro e w3 ⟨r, rfl, hr, he4⟩
 replace r1 := mK (r1.ext (hE.trans he4))
 replace r2 := mK (r2.ext (hE.trans he4))
 replace h00 := fun W (e : Ext w3 W) => h00 W (he4.trans e)
 replace h01 := fun W (e : Ext w3 W) => h01 W (he4.trans e)
 replace h10 := fun W (e : Ext w3 W) => h10 W (he4.trans e)
 replace h11 := fun W (e : Ext w3 W) => h11 W (he4.trans e)
 replace hB2 := mK (fun W (e : Ext w3 W) => hB2 W (he4.trans e))
 replace hB3 := mK (fun W (e : Ext w3 W) => hB3 W (he4.trans e))
 replace hsz : w.heap.size + 4 ≤ w3.heap.size := by have := he4.size; omega
 replace hE := hE.trans he4
 clear hw3 he4
 have k00 := h00 w3 (xR _)
 have k01 := h01 w3 (xR _)
 have k10 := h10 w3 (xR _)
 have k11 := h11 w3 (xR _)
 have hr1 : r < 0 := hr.1.2 hlt
 replace hr := mK hr
 replace hlt := mK hlt
 go_wp2_with fail
 refine (own_c _ _ _ _ _ (lim_ok _) (by unfold nl at *; omega) r1.out).mono ?_
 rintro e w4 ⟨v, rfl, hv, hE4⟩
 rw [hr0.out] at hv
 have hz : IntO w4 (w.heap.size + 4) (.agg #[.bool false, .slice none 0 0]) 0 := ⟨.slice none 0 0, by simp, by simp [lim_zero]; exact magO_nil _ _⟩
 have hv2 := hv.mono hsz
 clear hv k00 k01 k10 k11
 obtain ⟨br, ar, nr', cr, rfl⟩ := (hv2).r.shape
 have hb2 := hB2.out w4 hE4
 have hb3 := hB3.out w4 hE4
 have hrows := two_rows w4 (w.heap.size + 2) (w.heap.size + 3) #[.bool false, .slice none 0 0] #[.bool br, .slice ar nr' cr] _ _ _ (by omega) hb2 hb3
 have hQ := (((hz).row (g := w.heap.size + 2) (by omega) #[.bool false, .slice none 0 0]).row (g := w.heap.size + 3) (by omega) #[.bool br, .slice ar nr' cr]).mono (show w.heap.size ≤ w.heap.size + 4 by omega)
 have hR := (((hv2).row (g := w.heap.size + 2) (by omega) #[.bool false, .slice none 0 0]).row (g := w.heap.size + 3) (by omega) #[.bool br, .slice ar nr' cr]).mono (show w.heap.size ≤ w.heap.size + 4 by omega)
 have hEW := (((hE.trans hE4).row (show w.heap.size ≤ w.heap.size + 2 by omega) #[.bool false, .slice none 0 0])).row (show w.heap.size ≤ w.heap.size + 3 by omega) #[.bool br, .slice ar nr' cr]
 replace hQ := mK hQ
 replace hR := mK hR
 replace hEW := mK hEW
 replace hrows := mK hrows
 replace hb2 := mK hb2
 clear h00 h01 h10 h11 hb3
 skip
 go_wp2_with (first
  | (refine wpList_store_row rfl 50 (.tmp 4) (.tmp 17) rfl (w.heap.size + 2) #[.bool false, .slice none 0 0] rfl rfl 50 _ hb2.out (by kernel_rfl) rfl (by kernel_rfl) ?_)
  | (refine wpList_store_row rfl 50 (.tmp 5) (.tmp 22) rfl (w.heap.size + 3) #[.bool br, .slice ar nr' cr] rfl rfl 50 _ hrows.out.2.2 (by kernel_rfl) rfl (by kernel_rfl) ?_))
 exact bodyPost_ret (results_two rfl _ _ (w.heap.size + 2) (w.heap.size + 3) 50 #[.bool false, .slice none 0 0] #[.bool br, .slice ar nr' cr] _ rfl rfl hrows.out.1 hrows.out.2.1 Tryz.underlying50 rfl (by kernel_rfl) (by kernel_rfl)) rfl ⟨_, _, rfl, hEW.out, hQ.out, hR.out⟩
theorem raw_one (w : World) (r : Nat) (hr : r < 4294967296) : RawO (w.alloc (.cells #[.int .u32 (r : Int)] 140)) w.heap.size (.slice (some ⟨w.heap.size, 0, none⟩) 1 1) r := by
 have := magO_block (w := w) (q := [r]) (by simp)
 refine ⟨[r], this, ?_, by simp, by simp [val]⟩
 intro x hx
 simp only [List.mem_cons, List.not_mem_nil, or_false] at hx
 omega
theorem lim_one {n : Nat} (h0 : n ≠ 0) (h : n < 4294967296) : lim n = [n] := by
 rw [lim_pos h0, Nat.mod_eq_of_lt h, Nat.div_eq_of_lt h, lim_zero]
theorem magO_form {w : World} {base : Nat} {v : Value} {l : List Nat} (h : MagO w base v l) (hl : l ≠ []) : ∃ g cap, v = .slice (some ⟨g, 0, none⟩) l.length cap := by
 obtain ⟨h1, h2⟩ := h
 rcases h2 with ⟨rfl, h2⟩ | ⟨g, cap, cur, rfl, _⟩
 ·exact absurd (List.eq_nil_of_length_eq_zero (by omega)) hl
 ·exact ⟨g, cap, rfl⟩
set_option maxHeartbeats 3200000 in
theorem divide_one (bx bY : Bool) (a1 a2 : Option Addr) (c1 c2 : Nat) (X Y : Int) (w : World) (hX : nl X ≤ 1073741824) (hge : ¬ X.natAbs < Y.natAbs) (hY0 : Y ≠ 0) (hY1 : Y.natAbs < 4294967296) (hbx : bx = decide (X < 0)) (hbY : bY = decide (Y < 0))
  (r1 : Row w a1 (limV (lim X.natAbs))) (r2 : Row w a2 (limV (lim Y.natAbs))) :
  Calls Tryz.prog 163 #[.agg #[.bool bx, .slice a1 (lim X.natAbs).length c1], .agg #[.bool bY, .slice a2 (lim Y.natAbs).length c2]] w fun e w' => ∃ q r, e = .returned (.tuple #[q, r]) ∧ Ext w w' ∧ IntO w' w.heap.size q (X.tdiv Y) ∧ IntO w' w.heap.size r (X.tmod Y) := by
 have hY : nl Y ≤ 1073741824 := by unfold nl; rw [lim_one (by omega) hY1]; simp
 have hq0 := mK (sg_tdiv X Y)
 have hr0 := mK (sg_tmod X Y)
 rw [← hbx, ← hbY] at hq0
 rw [← hbx] at hr0
 replace hbx := mK hbx
 replace hbY := mK hbY
 have hlY := mK (lim_one (show Y.natAbs ≠ 0 by omega) hY1)
 go_enter Tryz.func163, Tryz.ntmps163
 go_wp2_with fail
 obtain ⟨wb, hw3⟩ : ∃ wb, wb = (((w.alloc (.cells #[.bool bx, .slice a1 (lim X.natAbs).length c1] 50)).alloc (.cells #[.bool bY, .slice a2 (lim Y.natAbs).length c2] 50)).alloc (.cells #[.bool false, .slice none 0 0] 50)).alloc (.cells #[.bool false, .slice none 0 0] 50) := ⟨_, rfl⟩
 have hE : Ext w wb := by rw [hw3]; exact ((((xR w).al _).al _).al _).al _
 have h00 : ∀ W, Ext wb W → W.cell? ⟨w.heap.size, 0, none⟩ = some (.bool bx) := fun W e => e.cell (by rw [hw3]; go_simp)
 have h01 : ∀ W, Ext wb W → W.cell? ⟨w.heap.size, 1, none⟩ = some (.slice a1 (lim X.natAbs).length c1) := fun W e => e.cell (by rw [hw3]; go_simp)
 have h10 : ∀ W, Ext wb W → W.cell? ⟨w.heap.size + 1, 0, none⟩ = some (.bool bY) := fun W e => e.cell (by rw [hw3]; go_simp)
 have h11 : ∀ W, Ext wb W → W.cell? ⟨w.heap.size + 1, 1, none⟩ = some (.slice a2 (lim Y.natAbs).length c2) := fun W e => e.cell (by rw [hw3]; go_simp)
 have hsz : w.heap.size + 4 ≤ wb.heap.size := by rw [hw3]; simp
 have hB2 : ∀ W, Ext wb W → W.heap[w.heap.size + 2]? = some (.cells #[.bool false, .slice none 0 0] 50) := fun W e => e.blk (by rw [hw3]; exact (heap_alloc_old _ _ (by simp)).trans (heap_at _ _ _ (by simp)))
 have hB3 : ∀ W, Ext wb W → W.heap[w.heap.size + 3]? = some (.cells #[.bool false, .slice none 0 0] 50) := fun W e => e.blk (by rw [hw3]; exact heap_at _ _ _ (by simp))
 rw [← hw3]
 refine (size_c _ _ _ _ _ _ _ (by unfold nl at *; omega) (by unfold nl at *; omega) (r1.ext hE) (r2.ext hE)).mono ?_
 rintro e w3 ⟨r, rfl, hr, he4⟩
 replace r1 := mK (r1.ext (hE.trans he4))
 replace r2 := mK (r2.ext (hE.trans he4))
 replace h00 := fun W (e : Ext w3 W) => h00 W (he4.trans e)
 replace h01 := fun W (e : Ext w3 W) => h01 W (he4.trans e)
 replace h10 := fun W (e : Ext w3 W) => h10 W (he4.trans e)
 replace h11 := fun W (e : Ext w3 W) => h11 W (he4.trans e)
 replace hB2 := mK (fun W (e : Ext w3 W) => hB2 W (he4.trans e))
 replace hB3 := mK (fun W (e : Ext w3 W) => hB3 W (he4.trans e))
 replace hsz : w.heap.size + 4 ≤ w3.heap.size := by have := he4.size; omega
 replace hE := hE.trans he4
 clear hw3 he4
 have k00 := h00 w3 (xR _)
 have k01 := h01 w3 (xR _)
 have k10 := h10 w3 (xR _)
 have k11 := h11 w3 (xR _)
 have hr1 : ¬ r < 0 := fun h => hge (hr.1.1 h)
 have hr2 := hr.2.2
 replace hr := mK hr
 have hll : (((lim Y.natAbs).length : Int) == 1) = true := by rw [hlY.out]; rfl
 have hxn : lim X.natAbs ≠ [] := by rw [lim_pos (by omega)]; simp
 go_wp2_with fail
 refine (clone_c _ _ _ _ (by unfold nl at *; omega) r1.out).mono ?_
 rintro e w4 ⟨v, rfl, hv, hE4⟩
 obtain ⟨g, cap, rfl⟩ := magO_form hv hxn
 have hg := (hv.lt _ rfl)
 have hyc : w4.cell? ⟨w.heap.size + 1, 1, none⟩ = some (.slice a2 (lim Y.natAbs).length c2) := h11 w4 hE4
 obtain ⟨b2, off2, had2, hcd2⟩ := r2.out
 have hA2 := had2 (by rw [hlY.out]; simp [limV])
 have hy0 : w4.cell? ⟨b2, off2, none⟩ = some (.int .u32 (Y.natAbs : Nat)) := by
  have := hE4.cell (hcd2 0 (by rw [hlY.out]; simp [limV]))
  rw [hlY.out] at this
  exact this
 subst hA2
 have hsh := short_c w3.heap.size g (lim X.natAbs).length cap Y.natAbs (lim X.natAbs) w4 rfl (by unfold nl at *; omega) (lim_ok _) (by omega) hY1 hv
 have hlen1 : (lim Y.natAbs).length = 1 := by rw [hlY.out]; rfl
 replace hsh := mK hsh
 clear k00 k01 k10 k11 hv hcd2 had2 hll hxn
 replace hge := mK hge
 rw [hlen1] at hyc
 go_wp2_with fail
 refine hsh.out.mono ?_
 rintro e w5 ⟨p, rr, rfl, hSh, ho5, hg5⟩
 have hE5 : Ext w3 w5 := hE4.gr hg5 (fun k e => by cases e; exact hg.1)
 obtain ⟨p1, p2, p3, p4, p5⟩ := hSh
 rw [List.drop_zero, List.drop_zero, val_lim] at p5
 have hqv : val p = X.natAbs / Y.natAbs := by
  rw [p5, Nat.mul_comm, Nat.mul_add_div (by omega), Nat.div_eq_of_lt p3, Nat.add_zero]
 have hrv : rr = X.natAbs % Y.natAbs := by
  rw [p5, Nat.mul_comm, Nat.mul_add_mod, Nat.mod_eq_of_lt p3]
 have hraw : RawO w5 w3.heap.size (.slice (some ⟨g, 0, none⟩) (lim X.natAbs).length cap) (X.natAbs / Y.natAbs) := ⟨p, by unfold MagO; rw [p1]; exact ho5, p2, by rw [p1]; unfold nl at *; omega, hqv⟩
 have hrl : rr < 4294967296 := by omega
 rw [← hrv] at hr0
 replace hraw := mK hraw
 clear hsh p1 p2 p3 p4 p5 hqv hrv ho5 hg5 hyc hy0
 go_wp2_with fail
 apply region_ext [.val _, .val _, .val _, .val _, .val _, .val _, .pred (fun W v => IntO W (w.heap.size + 4) v (X.tdiv Y)), .val _, .val _, .val _, .pred (fun W v => RawO W (w.heap.size + 4) v rr), .pred (fun W v => IntO W (w.heap.size + 4) v (X.tmod Y))] (by kernel_rfl)
  (stable_vals _ (stable_vals _ (stable_vals _ (stable_vals _ (stable_vals _ (stable_vals _ (st_intO _ _ (stable_vals _ (stable_vals _ (stable_vals _ (st_rawO _ _ (st_intO _ _ trivial))))))))))))
 ·have h00' : ∀ W, Ext w5 W → W.cell? ⟨w.heap.size, 0, none⟩ = some (.bool bx) := fun W e => h00 W (hE5.trans e)
  have h10' : ∀ W, Ext w5 W → W.cell? ⟨w.heap.size + 1, 0, none⟩ = some (.bool bY) := fun W e => h10 W (hE5.trans e)
  iterate 6 (refine ⟨fun W hW _ => by go_simp; exact ⟨xR _, rfl⟩, ?_⟩)
  refine ⟨fun W hW hF => ?g6, fun v6 => ?_⟩
  case g6 =>
   go_simp
   refine (signed_raw (bx != bY) _ _ _ W (hraw.out.ext hW)).mono ?_
   rintro e w' ⟨v, rfl, h1, h2⟩
   rw [hq0.out] at h2
   exact ⟨v, rfl, h1, h2.mono hsz⟩
  iterate 3 (refine ⟨fun W hW _ => by go_simp; exact ⟨xR _, rfl⟩, ?_⟩)
  refine ⟨fun W hW hF => ?g10, fun v10 => ⟨fun W hW hF => ?g11, fun v11 => fun W hW hF => ?fin⟩⟩
  case g10 =>
   have hsW : w.heap.size + 4 ≤ W.heap.size := by have := (hE5.trans hW).size; omega
   have hro := (raw_one W rr hrl).mono hsW
   replace hro := mK hro
   go_simp
   exact ⟨(xR _).al _, hro.out⟩
  case g11 =>
   have h10 : RawO W (w.heap.size + 4) v10 rr := hF.1 (by kernel_rfl)
   replace h10 := mK h10
   clear hF
   go_simp
   refine (signed_raw bx _ _ _ W h10.out).mono ?_
   rintro e w' ⟨v, rfl, h1, h2⟩
   rw [hr0.out] at h2
   exact ⟨v, rfl, h1, h2⟩
  case fin =>
   have hR11 : IntO W (w.heap.size + 4) v11 (X.tmod Y) := hF.1 rfl
   have hQ6 : IntO W (w.heap.size + 4) v6 (X.tdiv Y) := hF.2.2.1 rfl
   clear hF
   have hEx := hE5.trans hW
   clear h00' h10'
   obtain ⟨bq, aq, nq', cq, rfl⟩ := hQ6.r.shape
   obtain ⟨br, ar, nr', cr, rfl⟩ := (hR11).r.shape
   have hb2 := hB2.out W hEx
   have hb3 := hB3.out W hEx
   have hrows := two_rows W (w.heap.size + 2) (w.heap.size + 3) #[.bool bq, .slice aq nq' cq] #[.bool br, .slice ar nr' cr] _ _ _ (by omega) hb2 hb3
   have hQ := (((hQ6).row (g := w.heap.size + 2) (by omega) #[.bool bq, .slice aq nq' cq]).row (g := w.heap.size + 3) (by omega) #[.bool br, .slice ar nr' cr]).mono (show w.heap.size ≤ w.heap.size + 4 by omega)
   have hR := (((hR11).row (g := w.heap.size + 2) (by omega) #[.bool bq, .slice aq nq' cq]).row (g := w.heap.size + 3) (by omega) #[.bool br, .slice ar nr' cr]).mono (show w.heap.size ≤ w.heap.size + 4 by omega)
   have hEW := (((hE.trans hEx).row (show w.heap.size ≤ w.heap.size + 2 by omega) #[.bool bq, .slice aq nq' cq])).row (show w.heap.size ≤ w.heap.size + 3 by omega) #[.bool br, .slice ar nr' cr]
   replace hQ := mK hQ
   replace hR := mK hR
   replace hEW := mK hEW
   replace hrows := mK hrows
   replace hb2 := mK hb2
   clear h00 h01 h10 h11 hb3
   go_simp
   go_wp2_with (first
    | (refine wpList_store_row rfl 50 (.tmp 4) (.tmp 43) rfl (w.heap.size + 2) #[.bool bq, .slice aq nq' cq] rfl rfl 50 _ hb2.out (by kernel_rfl) rfl (by kernel_rfl) ?_)
    | (refine wpList_store_row rfl 50 (.tmp 5) (.tmp 48) rfl (w.heap.size + 3) #[.bool br, .slice ar nr' cr] rfl rfl 50 _ hrows.out.2.2 (by kernel_rfl) rfl (by kernel_rfl) ?_))
   exact bodyPost_ret (results_two rfl _ _ (w.heap.size + 2) (w.heap.size + 3) 50 #[.bool bq, .slice aq nq' cq] #[.bool br, .slice ar nr' cr] _ rfl rfl hrows.out.1 hrows.out.2.1 Tryz.underlying50 rfl (by kernel_rfl) (by kernel_rfl)) rfl ⟨_, _, rfl, hEW.out, hQ.out, hR.out⟩
theorem lim_top {n : Nat} (h : n ≠ 0) : 0 < (lim n).getD ((lim n).length - 1) 0 := by
 refine lim_ind (P := fun n => n ≠ 0 → 0 < (lim n).getD ((lim n).length - 1) 0) (fun h => absurd rfl h) ?_ n h
 intro n h ih _
 rw [lim_pos h]
 by_cases h0 : n / 4294967296 = 0
 ·rw [h0, lim_zero]
  simp
  omega
 ·have := ih h0
  have hl : (lim (n / 4294967296)).length ≠ 0 := by rw [lim_pos h0]; simp
  obtain ⟨k, hk⟩ : ∃ k, (lim (n / 4294967296)).length = k + 1 := ⟨_, (Nat.succ_pred_eq_of_ne_zero hl).symm⟩
  rw [hk] at this
  simpa [hk] using this
set_option maxHeartbeats 3200000 in
theorem divide_many (bx bY : Bool) (a1 a2 : Option Addr) (c1 c2 : Nat) (X Y : Int) (w : World) (hX : nl X ≤ 1073741824) (hY : nl Y ≤ 1073741824) (hge : ¬ X.natAbs < Y.natAbs) (hY1 : 4294967296 ≤ Y.natAbs) (hbx : bx = decide (X < 0)) (hbY : bY = decide (Y < 0))
  (r1 : Row w a1 (limV (lim X.natAbs))) (r2 : Row w a2 (limV (lim Y.natAbs))) :
  Calls Tryz.prog 163 #[.agg #[.bool bx, .slice a1 (lim X.natAbs).length c1], .agg #[.bool bY, .slice a2 (lim Y.natAbs).length c2]] w fun e w' => ∃ q r, e = .returned (.tuple #[q, r]) ∧ Ext w w' ∧ IntO w' w.heap.size q (X.tdiv Y) ∧ IntO w' w.heap.size r (X.tmod Y) := by
 have hq0 := mK (sg_tdiv X Y)
 have hr0 := mK (sg_tmod X Y)
 rw [← hbx, ← hbY] at hq0
 rw [← hbx] at hr0
 replace hbx := mK hbx
 replace hbY := mK hbY
 have hm2 : 2 ≤ (lim Y.natAbs).length := by
  rw [lim_pos (by omega), lim_pos (by omega)]
  simp
 have hml := lim_mono (show Y.natAbs ≤ X.natAbs by omega)
 go_enter Tryz.func163, Tryz.ntmps163
 go_wp2_with fail
 obtain ⟨wb, hw3⟩ : ∃ wb, wb = (((w.alloc (.cells #[.bool bx, .slice a1 (lim X.natAbs).length c1] 50)).alloc (.cells #[.bool bY, .slice a2 (lim Y.natAbs).length c2] 50)).alloc (.cells #[.bool false, .slice none 0 0] 50)).alloc (.cells #[.bool false, .slice none 0 0] 50) := ⟨_, rfl⟩
 have hE : Ext w wb := by rw [hw3]; exact ((((xR w).al _).al _).al _).al _
 have h00 : ∀ W, Ext wb W → W.cell? ⟨w.heap.size, 0, none⟩ = some (.bool bx) := fun W e => e.cell (by rw [hw3]; go_simp)
 have h01 : ∀ W, Ext wb W → W.cell? ⟨w.heap.size, 1, none⟩ = some (.slice a1 (lim X.natAbs).length c1) := fun W e => e.cell (by rw [hw3]; go_simp)
 have h10 : ∀ W, Ext wb W → W.cell? ⟨w.heap.size + 1, 0, none⟩ = some (.bool bY) := fun W e => e.cell (by rw [hw3]; go_simp)
 have h11 : ∀ W, Ext wb W → W.cell? ⟨w.heap.size + 1, 1, none⟩ = some (.slice a2 (lim Y.natAbs).length c2) := fun W e => e.cell (by rw [hw3]; go_simp)
 have hsz : w.heap.size + 4 ≤ wb.heap.size := by rw [hw3]; simp
 have hB2 : ∀ W, Ext wb W → W.heap[w.heap.size + 2]? = some (.cells #[.bool false, .slice none 0 0] 50) := fun W e => e.blk (by rw [hw3]; exact (heap_alloc_old _ _ (by simp)).trans (heap_at _ _ _ (by simp)))
 have hB3 : ∀ W, Ext wb W → W.heap[w.heap.size + 3]? = some (.cells #[.bool false, .slice none 0 0] 50) := fun W e => e.blk (by rw [hw3]; exact heap_at _ _ _ (by simp))
 rw [← hw3]
 refine (size_c _ _ _ _ _ _ _ (by unfold nl at *; omega) (by unfold nl at *; omega) (r1.ext hE) (r2.ext hE)).mono ?_
 rintro e w3 ⟨r, rfl, hr, he4⟩
 replace r1 := mK (r1.ext (hE.trans he4))
 replace r2 := mK (r2.ext (hE.trans he4))
 replace h00 := fun W (e : Ext w3 W) => h00 W (he4.trans e)
 replace h01 := fun W (e : Ext w3 W) => h01 W (he4.trans e)
 replace h10 := fun W (e : Ext w3 W) => h10 W (he4.trans e)
 replace h11 := fun W (e : Ext w3 W) => h11 W (he4.trans e)
 replace hB2 := mK (fun W (e : Ext w3 W) => hB2 W (he4.trans e))
 replace hB3 := mK (fun W (e : Ext w3 W) => hB3 W (he4.trans e))
 replace hsz : w.heap.size + 4 ≤ w3.heap.size := by have := he4.size; omega
 replace hE := hE.trans he4
 clear hw3 he4
 have k00 := h00 w3 (xR _)
 have k01 := h01 w3 (xR _)
 have k10 := h10 w3 (xR _)
 have k11 := h11 w3 (xR _)
 have hr1 : ¬ r < 0 := fun h => hge (hr.1.1 h)
 have hr2 := hr.2.2
 replace hr := mK hr
 have hll : (((lim Y.natAbs).length : Int) == 1) = false := by rw [beq_eq_false_iff_ne]; omega
 have hdv := divide_c a1 a2 c1 c2 (lim X.natAbs).length (lim Y.natAbs).length (lim X.natAbs) (lim Y.natAbs) w3 rfl rfl hm2 hml (by unfold nl at *; omega) (lim_ok _) (lim_ok _) (lim_top (by omega)) r1.out r2.out
 rw [val_lim, val_lim] at hdv
 replace hdv := mK hdv
 replace hge := mK hge
 replace hml := mK hml
 go_wp2_with fail
 refine hdv.out.mono ?_
 rintro e w5 ⟨vq, vr, rfl, hq5, hr5, hE5⟩
 replace hq5 := mK hq5
 replace hr5 := mK hr5
 clear hdv k00 k01 k10 k11 hll
 go_wp2_with fail
 apply region_ext [.val _, .val _, .val _, .val _, .val _, .val _, .pred (fun W v => IntO W (w.heap.size + 4) v (X.tdiv Y)), .val _, .val _, .val _, .pred (fun W v => IntO W (w.heap.size + 4) v (X.tmod Y))] (by kernel_rfl)
  (stable_vals _ (stable_vals _ (stable_vals _ (stable_vals _ (stable_vals _ (stable_vals _ (st_intO _ _ (stable_vals _ (stable_vals _ (stable_vals _ (st_intO _ _ trivial)))))))))))
 ·have h00' : ∀ W, Ext w5 W → W.cell? ⟨w.heap.size, 0, none⟩ = some (.bool bx) := fun W e => h00 W (hE5.trans e)
  have h10' : ∀ W, Ext w5 W → W.cell? ⟨w.heap.size + 1, 0, none⟩ = some (.bool bY) := fun W e => h10 W (hE5.trans e)
  iterate 6 (refine ⟨fun W hW _ => by go_simp; exact ⟨xR _, rfl⟩, ?_⟩)
  refine ⟨fun W hW hF => ?g6, fun v6 => ?_⟩
  case g6 =>
   go_simp
   refine (signed_raw (bx != bY) _ _ _ W (hq5.out.ext hW)).mono ?_
   rintro e w' ⟨v, rfl, h1, h2⟩
   rw [hq0.out] at h2
   exact ⟨v, rfl, h1, h2.mono hsz⟩
  iterate 3 (refine ⟨fun W hW _ => by go_simp; exact ⟨xR _, rfl⟩, ?_⟩)
  refine ⟨fun W hW hF => ?g11, fun v11 => fun W hW hF => ?fin⟩
  case g11 =>
   clear hF
   go_simp
   refine (signed_raw bx _ _ _ W (hr5.out.ext hW)).mono ?_
   rintro e w' ⟨v, rfl, h1, h2⟩
   rw [hr0.out] at h2
   exact ⟨v, rfl, h1, h2.mono hsz⟩
  case fin =>
   have hR11 : IntO W (w.heap.size + 4) v11 (X.tmod Y) := hF.1 rfl
   have hQ6 : IntO W (w.heap.size + 4) v6 (X.tdiv Y) := hF.2.1 rfl
   clear hF
   have hEx := hE5.trans hW
   clear h00' h10'
   obtain ⟨bq, aq, nq', cq, rfl⟩ := hQ6.r.shape
   obtain ⟨br, ar, nr', cr, rfl⟩ := (hR11).r.shape
   have hb2 := hB2.out W hEx
   have hb3 := hB3.out W hEx
   have hrows := two_rows W (w.heap.size + 2) (w.heap.size + 3) #[.bool bq, .slice aq nq' cq] #[.bool br, .slice ar nr' cr] _ _ _ (by omega) hb2 hb3
   have hQ := (((hQ6).row (g := w.heap.size + 2) (by omega) #[.bool bq, .slice aq nq' cq]).row (g := w.heap.size + 3) (by omega) #[.bool br, .slice ar nr' cr]).mono (show w.heap.size ≤ w.heap.size + 4 by omega)
   have hR := (((hR11).row (g := w.heap.size + 2) (by omega) #[.bool bq, .slice aq nq' cq]).row (g := w.heap.size + 3) (by omega) #[.bool br, .slice ar nr' cr]).mono (show w.heap.size ≤ w.heap.size + 4 by omega)
   have hEW := (((hE.trans hEx).row (show w.heap.size ≤ w.heap.size + 2 by omega) #[.bool bq, .slice aq nq' cq])).row (show w.heap.size ≤ w.heap.size + 3 by omega) #[.bool br, .slice ar nr' cr]
   replace hQ := mK hQ
   replace hR := mK hR
   replace hEW := mK hEW
   replace hrows := mK hrows
   replace hb2 := mK hb2
   clear h00 h01 h10 h11 hb3
   go_simp
   go_wp2_with (first
    | (refine wpList_store_row rfl 50 (.tmp 4) (.tmp 63) rfl (w.heap.size + 2) #[.bool bq, .slice aq nq' cq] rfl rfl 50 _ hb2.out (by kernel_rfl) rfl (by kernel_rfl) ?_)
    | (refine wpList_store_row rfl 50 (.tmp 5) (.tmp 67) rfl (w.heap.size + 3) #[.bool br, .slice ar nr' cr] rfl rfl 50 _ hrows.out.2.2 (by kernel_rfl) rfl (by kernel_rfl) ?_))
   exact bodyPost_ret (results_two rfl _ _ (w.heap.size + 2) (w.heap.size + 3) 50 #[.bool bq, .slice aq nq' cq] #[.bool br, .slice ar nr' cr] _ rfl rfl hrows.out.1 hrows.out.2.1 Tryz.underlying50 rfl (by kernel_rfl) (by kernel_rfl)) rfl ⟨_, _, rfl, hEW.out, hQ.out, hR.out⟩
theorem div_c (v1 v2 : Value) (X Y : Int) (w : World) (hX : nl X ≤ 1073741824) (hY : nl Y ≤ 1073741824) (hY0 : Y ≠ 0) (h1 : IntR w v1 X) (h2 : IntR w v2 Y) :
  Calls Tryz.prog 163 #[v1, v2] w fun e w' => ∃ q r, e = .returned (.tuple #[q, r]) ∧ Ext w w' ∧ IntO w' w.heap.size q (X.tdiv Y) ∧ IntO w' w.heap.size r (X.tmod Y) := by
 obtain ⟨s1, rfl, a1, c1, rfl, _, r1⟩ := h1
 obtain ⟨s2, rfl, a2, c2, rfl, _, r2⟩ := h2
 by_cases hlt : X.natAbs < Y.natAbs
 ·exact divide_less _ _ a1 a2 c1 c2 X Y w hX hY hlt rfl r1 r2
 ·by_cases h1 : Y.natAbs < 4294967296
  ·exact divide_one _ _ a1 a2 c1 c2 X Y w hX hlt hY0 h1 rfl rfl r1 r2
  ·exact divide_many _ _ a1 a2 c1 c2 X Y w hX hY hlt (by omega) rfl rfl r1 r2
end Go.Proofs.YtjelnmokcpoofaaGreatDoor
