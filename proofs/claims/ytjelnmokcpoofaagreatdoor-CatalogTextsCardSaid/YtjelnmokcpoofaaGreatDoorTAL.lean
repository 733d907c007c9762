/-
  DERIVED: THE SHELF's CONTRACTS AT THIS DUMP, IN PLAIN WORDS (tools/lay-plain.mjs out of 'YtjelnmokcpoofaaGreatDoorAtoiCT.lean', which tools/lay-shelf.mjs wrote): THE SAME DECLARATIONS UNDER THE SAME NAMES: 'import', 'namespace', 'open', 'def', 'theorem' AND NOTHING ELSE: no command of the shelf's: FOR A HAND-IN. Each laying: the table of numbers ('.._ren') and one theorem, a field a fact of the dump's own or the kernel's comparison; each contract: ONE APPLICATION. strconv.Atoi at any text; catalog.number at any text. catalog.read at a line that is refused: its start; few words, no kind, too many words. catalog.read at a line that is refused: a word too many or too few, no number, no name. catalog.read at a line that is refused: a fraction, or May's word; at whatever line. catalog.read at any line, in one walk.
-/
import Derived.Test.YtjelnmokcpoofaaGreatDoorTAK
import Derived.Shelf.Strconv.ErrVarAll
import Derived.Ground.NamesProg
import Derived.Test.YtjelnmokcpoofaaGreatDoorProg
namespace Go.Proofs
open Go.Shelf
def Tryz.laysC172_ren : Go.Shelf.Ren := ⟨fun | 172 => 74 | 244 => 116 | 245 => 117 | 247 => 173 | 279 => 174 | 280 => 175 | 281 => 176 | 282 => 177 | 287 => 208 | 316 => 209 | 171 => 21 | 205 => 210 | 321 => 227 | 322 => 228 | 243 => 50 | 246 => 86 | 283 => 143 | 284 => 144 | 285 => 145 | 286 => 146 | 129 => 159 | 317 => 193 | 318 => 194 | 319 => 195 | 320 => 196 | 337 => 221 | 338 => 222 | n => n, fun | 9 => 9 | 3 => 3 | 75 => 69 | 76 => 70 | 4 => 4 | 5 => 5 | 167 => 197 | 37 => 63 | 0 => 0 | 85 => 198 | 2 => 2 | 168 => 200 | 53 => 138 | 175 => 219 | 46 => 141 | 210 => 223 | 127 => 104 | 145 => 241 | 143 => 239 | 21 => 21 | 171 => 173 | 173 => 176 | 212 => 209 | 51 => 140 | 20 => 20 | 213 => 210 | 232 => 248 | 233 => 249 | 80 => 76 | n => n, fun | 15 => 3 | 16 => 4 | 17 => 1 | 18 => 7 | 19 => 8 | n => n⟩
theorem Tryz.laysC172 : Go.Proofs.LaysC.n172 Tryz.prog Tryz.laysC172_ren := {
 mixed := by kernel_rfl
 f129 := Tryz.func159.trans (congrArg some (by kernel_rfl))
 f171 := Tryz.func21.trans (congrArg some (by kernel_rfl))
 f172 := Tryz.func74.trans (congrArg some (by kernel_rfl))
 f205 := Tryz.func210.trans (congrArg some (by kernel_rfl))
 f243 := Tryz.func50.trans (congrArg some (by kernel_rfl))
 f244 := Tryz.func116.trans (congrArg some (by kernel_rfl))
 f245 := Tryz.func117.trans (congrArg some (by kernel_rfl))
 f246 := Tryz.func86.trans (congrArg some (by kernel_rfl))
 f247 := Tryz.func173.trans (congrArg some (by kernel_rfl))
 f279 := Tryz.func174.trans (congrArg some (by kernel_rfl))
 f280 := Tryz.func175.trans (congrArg some (by kernel_rfl))
 f281 := Tryz.func176.trans (congrArg some (by kernel_rfl))
 f282 := Tryz.func177.trans (congrArg some (by kernel_rfl))
 f283 := Tryz.func143.trans (congrArg some (by kernel_rfl))
 f284 := Tryz.func144.trans (congrArg some (by kernel_rfl))
 f285 := Tryz.func145.trans (congrArg some (by kernel_rfl))
 f286 := Tryz.func146.trans (congrArg some (by kernel_rfl))
 f287 := Tryz.func208.trans (congrArg some (by kernel_rfl))
 f316 := Tryz.func209.trans (congrArg some (by kernel_rfl))
 f317 := Tryz.func193.trans (congrArg some (by kernel_rfl))
 f318 := Tryz.func194.trans (congrArg some (by kernel_rfl))
 f319 := Tryz.func195.trans (congrArg some (by kernel_rfl))
 f320 := Tryz.func196.trans (congrArg some (by kernel_rfl))
 f321 := Tryz.func227.trans (congrArg some (by kernel_rfl))
 f322 := Tryz.func228.trans (congrArg some (by kernel_rfl))
 f337 := Tryz.func221.trans (congrArg some (by kernel_rfl))
 f338 := Tryz.func222.trans (congrArg some (by kernel_rfl))
 t0 := Tryz.underlying0
 a0 := Tryz.isAgg0
 z0 := Tryz.sizeOf0
 v0 := Tryz.zeroValue0
 t2 := Tryz.underlying2
 a2 := Tryz.isAgg2
 z2 := Tryz.sizeOf2
 v2 := Tryz.zeroValue2
 t3 := Tryz.underlying3
 a3 := Tryz.isAgg3
 z3 := Tryz.sizeOf3
 v3 := Tryz.zeroValue3
 t4 := Tryz.underlying4
 a4 := Tryz.isAgg4
 z4 := Tryz.sizeOf4
 v4 := Tryz.zeroValue4
 t5 := Tryz.underlying5
 a5 := Tryz.isAgg5
 z5 := Tryz.sizeOf5
 v5 := Tryz.zeroValue5
 t9 := Tryz.underlying9
 a9 := Tryz.isAgg9
 z9 := Tryz.sizeOf9
 v9 := Tryz.zeroValue9
 t20 := Tryz.underlying20
 a20 := Tryz.isAgg20
 z20 := Tryz.sizeOf20
 v20 := Tryz.zeroValue20
 t21 := Tryz.underlying21
 a21 := Tryz.isAgg21
 z21 := Tryz.sizeOf21
 v21 := Tryz.zeroValue21
 t37 := Tryz.underlying63
 a37 := Tryz.isAgg63
 z37 := Tryz.sizeOf63
 v37 := Tryz.zeroValue63
 t46 := Tryz.underlying141
 a46 := Tryz.isAgg141
 z46 := Tryz.sizeOf141
 v46 := Tryz.zeroValue141
 t51 := Tryz.underlying140
 a51 := Tryz.isAgg140
 z51 := Tryz.sizeOf140
 v51 := Tryz.zeroValue140
 t53 := Tryz.underlying138
 a53 := Tryz.isAgg138
 z53 := Tryz.sizeOf138
 v53 := Tryz.zeroValue138
 t75 := Tryz.underlying69
 a75 := Tryz.isAgg69
 z75 := Tryz.sizeOf69
 v75 := Tryz.zeroValue69
 t76 := Tryz.underlying70
 a76 := Tryz.isAgg70
 z76 := Tryz.sizeOf70
 v76 := Tryz.zeroValue70
 t85 := Tryz.underlying198
 a85 := Tryz.isAgg198
 z85 := Tryz.sizeOf198
 v85 := Tryz.zeroValue198
 t127 := Tryz.underlying104
 a127 := Tryz.isAgg104
 z127 := Tryz.sizeOf104
 v127 := Tryz.zeroValue104
 t143 := Tryz.underlying239
 a143 := Tryz.isAgg239
 z143 := Tryz.sizeOf239
 v143 := Tryz.zeroValue239
 t145 := Tryz.underlying241
 a145 := Tryz.isAgg241
 z145 := Tryz.sizeOf241
 v145 := Tryz.zeroValue241
 t167 := Tryz.underlying197
 a167 := Tryz.isAgg197
 z167 := Tryz.sizeOf197
 v167 := Tryz.zeroValue197
 t168 := Tryz.underlying200
 a168 := Tryz.isAgg200
 z168 := Tryz.sizeOf200
 v168 := Tryz.zeroValue200
 t171 := Tryz.underlying173
 a171 := Tryz.isAgg173
 z171 := Tryz.sizeOf173
 v171 := Tryz.zeroValue173
 t173 := Tryz.underlying176
 a173 := Tryz.isAgg176
 z173 := Tryz.sizeOf176
 v173 := Tryz.zeroValue176
 t175 := Tryz.underlying219
 a175 := Tryz.isAgg219
 z175 := Tryz.sizeOf219
 v175 := Tryz.zeroValue219
 t210 := Tryz.underlying223
 a210 := Tryz.isAgg223
 z210 := Tryz.sizeOf223
 v210 := Tryz.zeroValue223
 t212 := Tryz.underlying209
 a212 := Tryz.isAgg209
 z212 := Tryz.sizeOf209
 v212 := Tryz.zeroValue209
 t213 := Tryz.underlying210
 a213 := Tryz.isAgg210
 z213 := Tryz.sizeOf210
 t232 := Tryz.underlying248
 a232 := Tryz.isAgg248
 z232 := Tryz.sizeOf248
 v232 := Tryz.zeroValue248
 t233 := Tryz.underlying249
 a233 := Tryz.isAgg249
 z233 := Tryz.sizeOf249
 v233 := Tryz.zeroValue249
 g15 := by kernel_rfl
 g16 := by kernel_rfl
 g17 := by kernel_rfl
 g18 := by kernel_rfl
 g19 := by kernel_rfl
 t80 := Tryz.underlying76
 a80 := Tryz.isAgg76
 z80 := Tryz.sizeOf76
 v80 := Tryz.zeroValue76
 i0 := by kernel_rfl
 i2 := by kernel_rfl
 i3 := by kernel_rfl
 i4 := by kernel_rfl
 i5 := by kernel_rfl
 i9 := by kernel_rfl
 i20 := by kernel_rfl
 i21 := by kernel_rfl
 i37 := by kernel_rfl
 i46 := by kernel_rfl
 i51 := by kernel_rfl
 i53 := by kernel_rfl
 i75 := by kernel_rfl
 i76 := by kernel_rfl
 i80 := by kernel_rfl
 i85 := by kernel_rfl
 i127 := by kernel_rfl
 i143 := by kernel_rfl
 i145 := by kernel_rfl
 i167 := by kernel_rfl
 i168 := by kernel_rfl
 i171 := by kernel_rfl
 i173 := by kernel_rfl
 i175 := by kernel_rfl
 i210 := by kernel_rfl
 i212 := by kernel_rfl
 i232 := by kernel_rfl
 i233 := by kernel_rfl
 m15 := by kernel_rfl
 m16 := by kernel_rfl
 m17 := by kernel_rfl
 m18 := by kernel_rfl
 m19 := by kernel_rfl
 c0 := by kernel_rfl
 c2 := by kernel_rfl
 c3 := by kernel_rfl
 c4 := by kernel_rfl
 c5 := by kernel_rfl
 c9 := by kernel_rfl
 c20 := by kernel_rfl
 c21 := by kernel_rfl
 c37 := by kernel_rfl
 c46 := by kernel_rfl
 c51 := by kernel_rfl
 c53 := by kernel_rfl
 c75 := by kernel_rfl
 c76 := by kernel_rfl
 c80 := by kernel_rfl
 c85 := by kernel_rfl
 c127 := by kernel_rfl
 c143 := by kernel_rfl
 c145 := by kernel_rfl
 c167 := by kernel_rfl
 c168 := by kernel_rfl
 c171 := by kernel_rfl
 c173 := by kernel_rfl
 c175 := by kernel_rfl
 c210 := by kernel_rfl
 c212 := by kernel_rfl
 c213 := by kernel_rfl
 c232 := by kernel_rfl
 c233 := by kernel_rfl }
end Go.Proofs
namespace Go.Proofs.YtjelnmokcpoofaaGreatDoor
set_option maxRecDepth 100000
open Go Go.RowKit Go.Proofs
def Errs (w : World) : Prop := (∃ tp p, w.var? Tryz.prog "strconv.ErrSyntax" = some #[.iface tp p]) ∧ (∃ tp p, w.var? Tryz.prog "strconv.ErrRange" = some #[.iface tp p])
theorem var_ext {w w' : World} {nm : String} {cs : Array Value} (h : w.var? Tryz.prog nm = some cs) (e : Ext w w') : w'.var? Tryz.prog nm = some cs := by
 unfold World.var? at *
 cases hg : Tryz.prog.globalNamed nm with
 | none => rw [hg] at h; cases h
 | some g =>
  rw [hg] at h
  simp only [Option.bind_some] at h ⊢
  cases hb : w.heap[g]? with
  | none => rw [hb] at h; cases h
  | some o => rw [e.blk hb]; rw [hb] at h; exact h
theorem Errs.ext {w w' : World} (h : Errs w) (e : Ext w w') : Errs w' := by
 obtain ⟨⟨t1, p1, h1⟩, ⟨t2, p2, h2⟩⟩ := h
 exact ⟨⟨t1, p1, var_ext h1 e⟩, ⟨t2, p2, var_ext h2 e⟩⟩
theorem parse_dec : ∀ (l : List UInt8) (acc u : Nat), Lib.parseUint10 acc l = .ok u → Lib.decFrom acc l = some u
 | [], acc, u, h => by
  simp only [Lib.parseUint10] at h
  injection h with h
  rw [h]
  rfl
 | c :: r, acc, u, h => by
  simp only [Lib.parseUint10] at h
  split at h
  ·rename_i hc
   split at h
   ·cases h
   ·split at h
    ·cases h
    ·unfold Lib.decFrom Lib.digitVal
     rw [if_pos hc]
     exact parse_dec r _ u h
  ·cases h
theorem dec_ge : ∀ (l : List UInt8) (acc n : Nat), Lib.decFrom acc l = some n → acc ≤ n
 | [], acc, n, h => by
  simp only [Lib.decFrom, Option.some.injEq] at h
  omega
 | c :: r, acc, n, h => by
  unfold Lib.decFrom at h
  split at h
  ·have := dec_ge r _ n h
   omega
  ·cases h
theorem dec_parse : ∀ (l : List UInt8) (acc n : Nat), Lib.decFrom acc l = some n → n < 10000000000000000000 → Lib.parseUint10 acc l = .ok n
 | [], acc, n, h, _ => by
  simp only [Lib.decFrom, Option.some.injEq] at h
  rw [h]
  rfl
 | c :: r, acc, n, h, hn => by
  unfold Lib.decFrom at h
  split at h
  ·rename_i d hd
   have hge := dec_ge r _ n h
   obtain ⟨d1, d2, rfl⟩ := Lib.digitVal_eq hd
   simp only [Lib.parseUint10]
   rw [if_pos ⟨d1, d2⟩, if_neg (by omega), if_neg (by omega)]
   exact dec_parse r _ n h hn
  ·cases h
theorem mag_dec {l : List UInt8} {u : Nat} (h : Lib.parseMag l = .ok u) : Lib.decNat l = some u := by
 unfold Lib.parseMag at h
 split at h
 ·cases h
 ·rename_i hne
  unfold Lib.decNat
  rw [if_neg (by simpa using hne)]
  exact parse_dec _ _ _ h
theorem atoiAll_ok {l : List UInt8} {v : Int} (h : Lib.atoiAll l = .ok v) : Lib.atoi l = some v := by
 cases l with
 | nil => cases h
 | cons c r =>
  by_cases h45 : c.toNat = 45
  ·obtain rfl : c = 45 := UInt8.toNat_inj.1 h45
   rw [Lib.atoiAll_minus] at h
   cases hm : Lib.parseMag r
   case ok u =>
    rw [hm] at h
    simp only [Lib.signed] at h
    split at h
    ·cases h
    ·injection h with h
     have := mag_dec hm
     unfold Lib.atoi
     simp [this, h]
   case range => rw [hm] at h; cases h
   rw [hm] at h
   cases h
  ·by_cases h43 : c.toNat = 43
   ·obtain rfl : c = 43 := UInt8.toNat_inj.1 h43
    rw [Lib.atoiAll_plus] at h
    cases hm : Lib.parseMag r
    case ok u =>
     rw [hm] at h
     simp only [Lib.signless] at h
     split at h
     ·cases h
     ·injection h with h
      have := mag_dec hm
      unfold Lib.atoi
      simp [this, h]
    case range => rw [hm] at h; cases h
    rw [hm] at h
    cases h
   ·rw [Lib.atoiAll_plain c r h43 h45] at h
    have e1 : (c == 45) = false := by rw [beq_eq_false_iff_ne]; rintro rfl; exact h45 rfl
    have e2 : (c == 43) = false := by rw [beq_eq_false_iff_ne]; rintro rfl; exact h43 rfl
    cases hm : Lib.parseMag (c :: r)
    case ok u =>
     rw [hm] at h
     simp only [Lib.signless] at h
     split at h
     ·cases h
     ·injection h with h
      have := mag_dec hm
      unfold Lib.atoi
      simp [e1, e2, this, h]
    case range => rw [hm] at h; cases h
    rw [hm] at h
    cases h
theorem numB_all {l : List UInt8} {n : Int} (h : numB l = some n) : Lib.atoiAll l = .ok n := by
 have hl : l.length ≤ 10 := by
  unfold numB at h
  split at h
  ·split at h
   ·rename_i h1; exact h1.1
   ·cases h
  ·cases h
 obtain ⟨hi, h0⟩ := numB_back h
 have hd := decFrom_dec n.toNat
 have e : Lib.decDigits n.toNat = l := by
  rw [← hi]
  unfold Lib.itoa
  rw [if_neg (by omega)]
 rw [e] at hd
 cases l with
 | nil => exact absurd e (dec_ne _)
 | cons c r =>
  obtain ⟨d, hc⟩ := Lib.digit_of_decFrom _ _ _ hd 0 c rfl
  obtain ⟨c1, c2, -⟩ := Lib.digitVal_eq hc
  rw [Lib.atoiAll_plain c r (by omega) (by omega)]
  have hlt := Lib.decFrom_lt _ _ _ hd
  have hlt2 : (0 + 1) * 10 ^ (c :: r).length ≤ 10000000000 := by
   rw [Nat.zero_add, Nat.one_mul]
   exact Nat.pow_le_pow_right (by omega) hl
  unfold Lib.parseMag
  rw [if_neg (by simp), dec_parse _ _ _ hd (by omega)]
  show (if 9223372036854775808 ≤ n.toNat then Lib.NumEnd.range else .ok ((n.toNat : Nat) : Int)) = _
  rw [if_neg (by omega), Int.toNat_of_nonneg h0]
theorem numB_ok {l : List UInt8} {v : Int} (h : Lib.atoiAll l = .ok v) : numB l = if l.length ≤ 10 ∧ Lib.itoa v = l ∧ 0 ≤ v then some v else none := by
 unfold numB
 rw [atoiAll_ok h]
theorem numB_not {l : List UInt8} (h : ∀ v, Lib.atoiAll l ≠ .ok v) : numB l = none := by
 cases hn : numB l with
 | none => rfl
 | some n => exact absurd (numB_all hn) (h n)
def NumQ (w : World) (o : Option Int) (e : Ending) (w' : World) : Prop := ∃ n : Int, e = .returned (.tuple #[.int .i64 n, .bool o.isSome]) ∧ (∀ m, o = some m → n = m) ∧ Ext w w'
theorem atoi_c_ok (s : ByteArray) (hs : s.size ≤ 65536) (v : Int) (h : Lib.atoiAll s.data.toList = .ok v) (w : World) :
  Calls Tryz.prog 74 #[.string s] w fun e w' => e = .returned (.tuple #[.int .i64 v, .nilIface]) ∧ Ext w w' :=
 (Any.strconv_Atoi_ok Tryz.laysC172 s (by omega) v h w).mono fun e w' h => by
  obtain ⟨rfl, rfl | ⟨t, rfl⟩⟩ := h
  ·exact ⟨rfl, xR _⟩
  ·exact ⟨rfl, Lib.bytesWorld_below _ _ _⟩
theorem atoi_c_bad (s : ByteArray) (hs : s.size ≤ 65536) (h : ∀ v, Lib.atoiAll s.data.toList ≠ .ok v) (w : World) (he : Errs w) :
  Calls Tryz.prog 74 #[.string s] w fun e w' => ∃ n t p, e = .returned (.tuple #[.int .i64 n, .iface t p]) ∧ Ext w w' := by
 obtain ⟨⟨t1, p1, h1⟩, ⟨t2, p2, h2⟩⟩ := he
 cases hA : Lib.atoiAll s.data.toList
 case ok v => exact absurd hA (h v)
 case range =>
  refine (Any.strconv_Atoi_range_var Tryz.laysC172 s (by omega) hA t2 p2 w h2).mono ?_
  rintro e w' ⟨N, rfl, -, -, hx⟩
  exact ⟨_, _, _, rfl, hx⟩
 refine (Any.strconv_Atoi_syntax_var Tryz.laysC172 s (by omega) hA t1 p1 w h1).mono ?_
 rintro e w' ⟨N, rfl, -, -, hx⟩
 exact ⟨_, _, _, rfl, hx⟩
set_option maxHeartbeats 3200000 in
theorem number_any (s : ByteArray) (w : World) (hs : s.size ≤ 65536) (ht : Tab10 w) (he : Errs w) :
  Calls Tryz.prog 37 #[.string s] w (NumQ w (numB s.data.toList)) := by
 have hsl := list_size s
 by_cases hA : ∃ v, Lib.atoiAll s.data.toList = .ok v
 ·obtain ⟨v, hA⟩ := hA
  have KA := fun W => atoi_c_ok s hs v hA W
  obtain ⟨v0, v1⟩ := Lib.atoiAll_bounds hA
  have hN := numB_ok hA
  rw [hsl] at hN
  have KI : ∀ W, Ext w W → Calls Tryz.prog 21 #[.int .i64 v] W fun e w' => e = .returned (.string ⟨(Lib.itoa v).toArray⟩) ∧ Ext W w' := fun W e => (Tryz.strconv_Itoa v (by omega) (by omega) W (tab_ext ht e)).mono fun e w' h => by
   obtain ⟨rfl, k, os, rfl⟩ := h
   exact ⟨rfl, ⟨rfl, rfl, rfl, by simp [Go.Sort.grow, World.drewN], fun j hj => by simp [Go.Sort.grow, World.drewN, Array.getElem?_append, hj]⟩⟩
  obtain ⟨IT, hIT⟩ : ∃ IT : ByteArray, IT = ⟨(Lib.itoa v).toArray⟩ := ⟨_, rfl⟩
  have hIl : IT.data.toList = Lib.itoa v := by rw [hIT]
  rw [← hIT] at KI
  rw [← hIl] at hN
  generalize numB s.data.toList = o at *
  clear hIT hIl hA ht he
  by_cases hl : s.size ≤ 10
  ·have hl' : (s.size : Int) ≤ 10 := by omega
   by_cases hb : IT.data.toList = s.data.toList
   ·have hb' : (IT.toList == s.toList) = true := by rw [ByteArray.toList_eq, ByteArray.toList_eq, hb]; simp
    by_cases h0 : 0 ≤ v
    ·rw [if_pos ⟨hl, hb, h0⟩] at hN
     subst hN
     clear hb hsl
     replace KA := mK KA
     replace KI := mK KI
     go_enter Tryz.func37, Tryz.ntmps37
     have tok : Tok 0 := .mk _
     go_wp2_with (first
      | (replace tok : Tok 1 := nxT 0 tok; go_at_call 74; refine (KA.out _).mono ?_; rintro e w1 ⟨rfl, hE⟩; replace hE := mK hE)
      | (replace tok : Tok 2 := nxT 1 tok; go_at_call 21; refine (KI.out _ hE.out).mono ?_; rintro e w2 ⟨rfl, hx⟩; replace hE := mK (hE.out.trans hx); clear hx))
     go_ret2
     exact ⟨v, (by first | rfl | simp [h0]), fun m h => Option.some.inj h, hE.out⟩
    ·rw [if_neg (fun e => h0 e.2.2)] at hN
     subst hN
     clear hb hsl
     replace KA := mK KA
     replace KI := mK KI
     go_enter Tryz.func37, Tryz.ntmps37
     have tok : Tok 0 := .mk _
     go_wp2_with (first
      | (replace tok : Tok 1 := nxT 0 tok; go_at_call 74; refine (KA.out _).mono ?_; rintro e w1 ⟨rfl, hE⟩; replace hE := mK hE)
      | (replace tok : Tok 2 := nxT 1 tok; go_at_call 21; refine (KI.out _ hE.out).mono ?_; rintro e w2 ⟨rfl, hx⟩; replace hE := mK (hE.out.trans hx); clear hx))
     go_ret2
     exact ⟨v, (by first | rfl | simp [h0]), fun m h => (by cases h), hE.out⟩
   ·have hb' : (IT.toList == s.toList) = false := by rw [ByteArray.toList_eq, ByteArray.toList_eq]; simpa using hb
    rw [if_neg (fun e => hb e.2.1)] at hN
    subst hN
    clear hb hsl
    replace KA := mK KA
    replace KI := mK KI
    go_enter Tryz.func37, Tryz.ntmps37
    have tok : Tok 0 := .mk _
    go_wp2_with (first
     | (replace tok : Tok 1 := nxT 0 tok; go_at_call 74; refine (KA.out _).mono ?_; rintro e w1 ⟨rfl, hE⟩; replace hE := mK hE)
     | (replace tok : Tok 2 := nxT 1 tok; go_at_call 21; refine (KI.out _ hE.out).mono ?_; rintro e w2 ⟨rfl, hx⟩; replace hE := mK (hE.out.trans hx); clear hx))
    go_ret2
    exact ⟨v, rfl, fun m h => (by cases h), hE.out⟩
  ·have hl' : ¬ (s.size : Int) ≤ 10 := by omega
   rw [if_neg (fun e => hl e.1)] at hN
   subst hN
   clear hsl
   replace KA := mK KA
   replace KI := mK KI
   go_enter Tryz.func37, Tryz.ntmps37
   have tok : Tok 0 := .mk _
   go_wp2_with (first
    | (replace tok : Tok 1 := nxT 0 tok; go_at_call 74; refine (KA.out _).mono ?_; rintro e w1 ⟨rfl, hE⟩; replace hE := mK hE)
    | (replace tok : Tok 2 := nxT 1 tok; go_at_call 21; refine (KI.out _ hE.out).mono ?_; rintro e w2 ⟨rfl, hx⟩; replace hE := mK (hE.out.trans hx); clear hx))
   go_ret2
   exact ⟨v, rfl, fun m h => (by cases h), hE.out⟩
 ·have hA : ∀ v, Lib.atoiAll s.data.toList ≠ .ok v := fun v e => hA ⟨v, e⟩
  have KA := mK (fun W (e : Ext w W) => atoi_c_bad s hs hA W (he.ext e))
  rw [numB_not hA]
  clear hA ht he hsl
  go_enter Tryz.func37, Tryz.ntmps37
  go_wp2_with (go_at_call 74; refine (KA.out _ (xR _)).mono ?_; rintro e w1 ⟨n, t, p, rfl, hE⟩; replace hE := mK hE)
  go_ret2
  exact ⟨n, rfl, fun m h => (by cases h), hE.out⟩
def WordsAt (g : Nat) (ws : List (List UInt8)) (W : World) : Prop := ∀ j, j < ws.length → W.cell? ⟨g, j, none⟩ = some (.string ⟨(ws.getD j []).toArray⟩)
theorem WordsAt.ext {g : Nat} {ws : List (List UInt8)} {W W' : World} (h : WordsAt g ws W) (e : Ext W W') : WordsAt g ws W' := fun j hj => e.cell (h j hj)
theorem WordsAt.near {g : Nat} {ws : List (List UInt8)} {W W' : World} (h : WordsAt g ws W) (e : W'.heap[g]? = W.heap[g]?) : WordsAt g ws W' := fun j hj => (World.cell?_of_block e).trans (h j hj)
theorem split_any (s : ByteArray) (W : World) (hs : s.size ≤ 65536) (hm : Max0 W) :
  Calls Tryz.prog 35 #[.string s, .string ⟨#[32]⟩] W fun e w2 => e = .returned (.slice (some ⟨W.heap.size, 0, none⟩) (wordsL 32 s.data.toList).length (wordsL 32 s.data.toList).length) ∧ WordsAt W.heap.size (wordsL 32 s.data.toList) w2 ∧ w2.heap.size = W.heap.size + 1 ∧ Ext W w2 := by
 have hw : wordsL 32 s.data.toList = ((wordsL 32 s.data.toList).map fun l => (⟨l.toArray⟩ : ByteArray)).map (·.data.toList) := by
  rw [List.map_map]
  exact (List.map_id' _).symm
 refine (split_ws s W hs hm _ hw).mono ?_
 rintro e w2 ⟨rfl, h1, h2, h3⟩
 rw [List.length_map]
 refine ⟨rfl, fun j hj => ?_, h2, h3⟩
 rw [row16_cells h1]
 simp [List.getD_eq_getElem?_getD, hj]
theorem word_none {l : List UInt8} {k : Int} (h : kindL l = none) (hk : 1 ≤ k ∧ k ≤ 5) : ((⟨(wordB k).toArray⟩ : ByteArray).toList == (⟨l.toArray⟩ : ByteArray).toList) = false := by
 rw [ByteArray.toList_eq, ByteArray.toList_eq]
 cases hb : ((⟨(wordB k).toArray⟩ : ByteArray).data.toList == (⟨l.toArray⟩ : ByteArray).data.toList) with
 | false => rfl
 | true =>
  have e : wordB k = l := by simpa using hb
  rw [← e, kindL_word hk] at h
  cases h
def NkR (w6 : World) (t5 t6 : Value) (wr : World) : Prop := ∃ k : Nat, 1 ≤ k ∧ k ≤ 6 ∧ t6 = .int .u8 (k : Int) ∧ t5 = .int .i64 (-1) ∧ wr = w6
theorem words_szJ (c : UInt8) : ∀ (l : List UInt8), ∀ x ∈ wordsL c l, x.length ≤ l.length
 | [], x, hx => by
  simp [wordsL] at hx
  simp [hx]
 | b :: r, x, hx => by
  have ih := words_szJ c r
  unfold wordsL at hx
  split at hx
  ·rcases List.mem_cons.1 hx with rfl | hx
   ·simp
   ·have := ih x hx
    rw [List.length_cons]
    omega
  ·have hne := wordsL_ne c r
   cases hw : wordsL c r with
   | nil => exact absurd hw hne
   | cons y ys =>
    rw [hw] at hx ih
    simp only [List.headD_cons, List.tail_cons] at hx
    rcases List.mem_cons.1 hx with rfl | hx
    ·have := ih y (by simp)
     simp only [List.length_cons]
     omega
    ·have := ih x (by simp [hx])
     rw [List.length_cons]
     omega
theorem word_szJ {s : ByteArray} (hs : s.size ≤ 65536) (j : Nat) : (⟨((wordsL 32 s.data.toList).getD j []).toArray⟩ : ByteArray).size ≤ 65536 := by
 rw [str_len, List.getD_eq_getElem?_getD]
 have hsl := list_size s
 cases h : (wordsL 32 s.data.toList)[j]? with
 | none => simp
 | some x =>
  have := words_szJ 32 _ x (List.mem_of_getElem? h)
  simp only [Option.getD_some]
  omega
theorem frac_badJ (c : ByteArray) (code : Int) (w : World) (hc : c.size ≤ 65536) (hm : Max0 w) (h : fracL true c.data.toList = .error code) :
  Calls Tryz.prog 39 #[.string c] w fun e w' => ∃ f : FV, e = .returned (.tuple #[.agg #[.bool f.b1, .slice f.a1 f.n1 f.c1, .bool f.b2, .slice f.a2 f.n2 f.c2], .int .i64 code]) ∧ Ext w w' := by
 refine (parse_c c w hc hm).mono ?_
 rintro e w' ⟨f, rfl, h1, -⟩
 have e0 : parseE c.data.toList = code := by
  unfold parseE
  unfold fracL at h
  rw [if_pos rfl] at h
  cases hr : readF c.data.toList with
  | none => rw [hr] at h; cases h; rfl
  | some x =>
   rw [hr] at h
   simp only at h
   split at h
   ·cases h
   ·rename_i hn
    cases h
    exact if_neg hn
 rw [e0]
 exact ⟨f, rfl, h1⟩
theorem frac_okJ (c : ByteArray) (P : Rat) (w : World) (hc : c.size ≤ 65536) (hm : Max0 w) (h : fracL true c.data.toList = .ok P) :
  Calls Tryz.prog 39 #[.string c] w fun e w' => ∃ f : FV, e = .returned (.tuple #[.agg #[.bool f.b1, .slice f.a1 f.n1 f.c1, .bool f.b2, .slice f.a2 f.n2 f.c2], .int .i64 0]) ∧ Ext w w' ∧ FracO w' w.heap.size (.agg #[.bool f.b1, .slice f.a1 f.n1 f.c1, .bool f.b2, .slice f.a2 f.n2 f.c2]) P := by
 unfold fracL at h
 rw [if_pos rfl] at h
 cases hr : readF c.data.toList with
 | none => rw [hr] at h; cases h
 | some x =>
  rw [hr] at h
  simp only at h
  split at h
  ·rename_i hn
   cases h
   exact frac_ok c P w hc hm hr hn
  ·cases h
def readT (ws : List (List UInt8)) (K M : Int) : Except Int PD :=
 match fracL (decide (0 < wordN K)) (ws.getD 3 []) with
 | .error c => .error c
 | .ok p => match fracL (decide (1 < wordN K)) (ws.getD 4 []) with
  | .error c => .error c
  | .ok q => if mayP K M (some p) (some q) = true then .ok ⟨⟨(ws.getD 0 []).toArray⟩, K, p, q, M⟩ else .error 1
def readW (ws : List (List UInt8)) : Except Int PD :=
 match (if 2 < ws.length then kindL (ws.getD 2 []) else none) with
 | none => .error 5
 | some k =>
  if ws.length = 3 + wordN k then
   match numB (ws.getD 1 []) with
   | none => .error 5
   | some n => if nameB (ws.getD 0 []) = true then readT ws k n else .error 9
  else .error 5
theorem readL_W (t : List UInt8) : readL t = readW (wordsL 32 t) := rfl
theorem rw_few {ws : List (List UInt8)} (h : ¬ 2 < ws.length) : readW ws = .error 5 := by
 unfold readW
 rw [if_neg h]
theorem rw_kind {ws : List (List UInt8)} (h : 2 < ws.length) (hk : kindL (ws.getD 2 []) = none) : readW ws = .error 5 := by
 unfold readW
 rw [if_pos h, hk]
theorem rw_len {ws : List (List UInt8)} {K : Int} (h : 2 < ws.length) (hk : kindL (ws.getD 2 []) = some K) (hn : ws.length ≠ 3 + wordN K) : readW ws = .error 5 := by
 unfold readW
 rw [if_pos h, hk]
 simp only
 rw [if_neg hn]
theorem rw_num {ws : List (List UInt8)} {K : Int} (h : 2 < ws.length) (hk : kindL (ws.getD 2 []) = some K) (hn : ws.length = 3 + wordN K) (hb : numB (ws.getD 1 []) = none) : readW ws = .error 5 := by
 unfold readW
 rw [if_pos h, hk]
 simp only
 rw [if_pos hn, hb]
theorem rw_name {ws : List (List UInt8)} {K M : Int} (h : 2 < ws.length) (hk : kindL (ws.getD 2 []) = some K) (hn : ws.length = 3 + wordN K) (hb : numB (ws.getD 1 []) = some M) (hm : nameB (ws.getD 0 []) = false) : readW ws = .error 9 := by
 unfold readW
 rw [if_pos h, hk]
 simp only
 rw [if_pos hn, hb]
 simp only
 rw [hm, if_neg (by decide)]
theorem rw_tail {ws : List (List UInt8)} {K M : Int} (h : 2 < ws.length) (hk : kindL (ws.getD 2 []) = some K) (hn : ws.length = 3 + wordN K) (hb : numB (ws.getD 1 []) = some M) (hm : nameB (ws.getD 0 []) = true) : readW ws = readT ws K M := by
 unfold readW
 rw [if_pos h, hk]
 simp only
 rw [if_pos hn, hb]
 simp only
 rw [hm, if_pos rfl]
theorem rt_e1 {ws : List (List UInt8)} {K M c : Int} (h0 : 0 < wordN K) (h : fracL true (ws.getD 3 []) = .error c) : readT ws K M = .error c := by
 unfold readT
 rw [decide_eq_true h0, h]
theorem rt_e2 {ws : List (List UInt8)} {K M c : Int} {p : Rat} (h1 : 1 < wordN K) (hp : fracL true (ws.getD 3 []) = .ok p) (h : fracL true (ws.getD 4 []) = .error c) : readT ws K M = .error c := by
 unfold readT
 rw [decide_eq_true (show 0 < wordN K by omega), decide_eq_true h1, hp]
 simp only
 rw [h]
theorem rt_ok {ws : List (List UInt8)} {K M : Int} {p q : Rat} (hp : fracL (decide (0 < wordN K)) (ws.getD 3 []) = .ok p) (hq : fracL (decide (1 < wordN K)) (ws.getD 4 []) = .ok q) :
  readT ws K M = if mayP K M (some p) (some q) = true then .ok ⟨⟨(ws.getD 0 []).toArray⟩, K, p, q, M⟩ else .error 1 := by
 unfold readT
 rw [hp]
 simp only
 rw [hq]
def RdQ (w : World) (R : Except Int PD) (e : Ending) (w' : World) : Prop := (∃ d, R = .ok d ∧ PartQ w d e w') ∨ (∃ c, R = .error c ∧ LineE w c e w')
def StopS (p : Prop) : Prop := p
theorem stopS {p : Prop} (h : StopS p) : p := h
theorem may_b (nm : ByteArray) (kd M : Int) (P Q : Rat) (nP : nf P ≤ 2048) (nQ : nf Q ≤ 2048) (W : World) (p q : FV) (h1 : FracR W (.agg #[.bool p.b1, .slice p.a1 p.n1 p.c1, .bool p.b2, .slice p.a2 p.n2 p.c2]) P) (h2 : FracR W (.agg #[.bool q.b1, .slice q.a1 q.n1 q.c1, .bool q.b2, .slice q.a2 q.n2 q.c2]) Q) :
  Calls Tryz.prog 40 #[.agg #[.string nm, .int .u8 kd, .bool p.b1, .slice p.a1 p.n1 p.c1, .bool p.b2, .slice p.a2 p.n2 p.c2, .bool q.b1, .slice q.a1 q.n1 q.c1, .bool q.b2, .slice q.a2 q.n2 q.c2, .int .i64 M]] W fun e w' => e = .returned (.bool (mayP kd M (some P) (some Q))) ∧ Ext W w' :=
 may_v nm kd M p q (some P) (some Q) W (by have := h1.any (nT nP (by decide)); rwa [if_pos nP] at this) (by have := h2.any (nT nQ (by decide)); rwa [if_pos nQ] at this)
set_option maxHeartbeats 25600000 in
theorem read_all (s : ByteArray) (w : World) (hs : s.size ≤ 65536) (hm : Max0 w) (ht : Tab10 w) (he : Errs w) :
  Calls Tryz.prog 16 #[.string s] w (RdQ w (readL s.data.toList)) := by
 have hwl := word_szJ hs
 rw [readL_W]
 obtain ⟨w1, hw1⟩ : ∃ w1, w1 = w.alloc (.cells #[.string ⟨#[]⟩, .int .u8 0, .bool false, .slice none 0 0, .bool false, .slice none 0 0, .bool false, .slice none 0 0, .bool false, .slice none 0 0, .int .i64 0] 56) := ⟨_, rfl⟩
 have hE1 : Ext w w1 := by rw [hw1]; exact (xR w).al _
 have zP1 : w1.heap[w.heap.size]? = some (.cells #[.string ⟨#[]⟩, .int .u8 0, .bool false, .slice none 0 0, .bool false, .slice none 0 0, .bool false, .slice none 0 0, .bool false, .slice none 0 0, .int .i64 0] 56 (0, 0)) := by rw [hw1]; exact heap_alloc_new _ _
 have hsz1 : w1.heap.size = w.heap.size + 1 := by rw [hw1]; simp
 have KS := split_any s w1 hs (hm.ext hE1)
 rw [hsz1] at KS
 generalize wordsL 32 s.data.toList = ws at *
 replace KS := mK KS
 have KN := mK (fun W => nought_f W)
 replace zP1 := mK zP1
 replace hE1 := mK hE1
 replace hw1 := mK hw1
 replace hsz1 := mK hsz1
 obtain ⟨R, hR⟩ : ∃ R, R = readW ws := ⟨_, rfl⟩
 rw [← hR]
 obtain ⟨T0, hT0⟩ : ∃ T0 : ByteArray, T0 = ⟨(ws.getD 0 []).toArray⟩ := ⟨_, rfl⟩
 obtain ⟨T1, hT1⟩ : ∃ T1 : ByteArray, T1 = ⟨(ws.getD 1 []).toArray⟩ := ⟨_, rfl⟩
 obtain ⟨T2, hT2⟩ : ∃ T2 : ByteArray, (⟨(ws.getD 2 []).toArray⟩ : ByteArray) = T2 := ⟨_, rfl⟩
 have KU := mK (fun W (e : Ext w W) => number_any T1 W (by rw [hT1]; exact hwl 1) (tab_ext ht e) (he.ext e))
 rw [show T1.data.toList = ws.getD 1 [] by rw [hT1]] at KU
 have KD := mK (fun W => named_c T0 W (by have := hwl 0; rw [hT0]; omega))
 rw [show T0.data.toList = ws.getD 0 [] by rw [hT0]] at KD
 have hM := mK (fun W (e : Ext w W) => hm.ext e)
 replace hwl := mK hwl
 replace hR := mK hR
 replace hT0 := mK hT0
 replace hT1 := mK hT1
 replace hT2 := mK hT2
 clear hm hs ht he
 go_enter Tryz.func16, Tryz.ntmps16
 have tok : Tok 0 := .mk _
 go_wp2_with (first
  | (replace tok : Tok 1 := nxT 0 tok; go_at_call 35; rw [← hw1.out]; refine KS.out.mono ?_; rintro e w2 ⟨rfl, zS2, hsz2, hx2⟩; (have zP2 := mK (hx2.blk zP1.out)); (have hE2 := mK (hE1.out.trans hx2)); replace zS2 := mK zS2; replace hsz2 := mK hsz2; clear hx2)
  | (replace tok : Tok 2 := nxT 1 tok; go_at_call 36; refine (KN.out _).mono ?_; rintro e w3 ⟨vp, rfl, hx3, hp3⟩; (obtain ⟨p, rfl⟩ := hp3.r.fv); (have zP3 := mK (hx3.blk zP2.out)); (have zS3 := mK (zS2.out.ext hx3)); replace hp3 := mK (hp3.mono (Nat.le_of_eq hsz2.out.symm)); (have hE3 := mK (hE2.out.trans hx3)); (have hl3 := mK (show w.heap.size + 2 ≤ w3.heap.size by rw [← hsz2.out]; exact hx3.size)); clear hx3)
  | (replace tok : Tok 3 := nxT 2 tok; go_at_call 36; refine (KN.out _).mono ?_; rintro e w4 ⟨vq, rfl, hx4, hq4⟩; (obtain ⟨q, rfl⟩ := hq4.r.fv); (have zP4 := hx4.blk zP3.out); (have zS4 := zS3.out.ext hx4); replace hq4 := hq4.mono hl3.out; (obtain ⟨w5, hw5⟩ : ∃ w5, w5 = w4.setRow w.heap.size #[.string ⟨#[]⟩, .int .u8 0, .bool p.b1, .slice p.a1 p.n1 p.c1, .bool p.b2, .slice p.a2 p.n2 p.c2, .bool false, .slice none 0 0, .bool false, .slice none 0 0, .int .i64 0] := ⟨_, rfl⟩); (have zP5 := mK (show w5.heap[w.heap.size]? = some (.cells #[.string ⟨#[]⟩, .int .u8 0, .bool p.b1, .slice p.a1 p.n1 p.c1, .bool p.b2, .slice p.a2 p.n2 p.c2, .bool false, .slice none 0 0, .bool false, .slice none 0 0, .int .i64 0] 56 (0, 0)) by rw [hw5]; exact setRow_heap _ _ _ _ _ _ zP4)); (obtain ⟨w6, hw6⟩ : ∃ w6, w6 = w5.setRow w.heap.size #[.string ⟨#[]⟩, .int .u8 0, .bool p.b1, .slice p.a1 p.n1 p.c1, .bool p.b2, .slice p.a2 p.n2 p.c2, .bool q.b1, .slice q.a1 q.n1 q.c1, .bool q.b2, .slice q.a2 q.n2 q.c2, .int .i64 0] := ⟨_, rfl⟩); (have zP6 := mK (show w6.heap[w.heap.size]? = some (.cells #[.string ⟨#[]⟩, .int .u8 0, .bool p.b1, .slice p.a1 p.n1 p.c1, .bool p.b2, .slice p.a2 p.n2 p.c2, .bool q.b1, .slice q.a1 q.n1 q.c1, .bool q.b2, .slice q.a2 q.n2 q.c2, .int .i64 0] 56 (0, 0)) by rw [hw6]; exact setRow_heap _ _ _ _ _ _ zP5.out)); (have zS6 := mK (zS4.near (show w6.heap[w.heap.size + 1]? = w4.heap[w.heap.size + 1]? by rw [hw6, setRow_other _ _ _ _ (by omega), hw5, setRow_other _ _ _ _ (by omega)]))); (have hE6 := mK (show Ext w w6 by rw [hw6, hw5]; exact ((hE3.out.trans hx4).row (nR _) _).row (nR _) _)); (have hl6 := mK (show w.heap.size + 2 ≤ w6.heap.size by rw [hw6, hw5]; simpa using nT hl3.out hx4.size)); (have hp6 := mK (show FracO w6 (w.heap.size + 2) (.agg #[.bool p.b1, .slice p.a1 p.n1 p.c1, .bool p.b2, .slice p.a2 p.n2 p.c2]) 0 by rw [hw6, hw5]; exact ((hp3.out.ext hx4).row (by omega) _).row (by omega) _)); (have hq6 := mK (show FracO w6 (w.heap.size + 2) (.agg #[.bool q.b1, .slice q.a1 q.n1 q.c1, .bool q.b2, .slice q.a2 q.n2 q.c2]) 0 by rw [hw6, hw5]; exact (hq4.row (by omega) _).row (by omega) _)); replace zP4 := mK zP4; replace hw5 := mK hw5; replace hw6 := mK hw6; clear hx4 hq4 zS4)
  | (replace tok : Tok 4 := nxT 3 tok; refine wpList_store_sub rfl 52 (.tmp 17) (.tmp 14) rfl w.heap.size 2 rfl 56 #[.string ⟨#[]⟩, .int .u8 0, .bool false, .slice none 0 0, .bool false, .slice none 0 0, .bool false, .slice none 0 0, .bool false, .slice none 0 0, .int .i64 0] #[.string ⟨#[]⟩, .int .u8 0, .bool p.b1, .slice p.a1 p.n1 p.c1, .bool p.b2, .slice p.a2 p.n2 p.c2, .bool false, .slice none 0 0, .bool false, .slice none 0 0, .int .i64 0] #[.bool p.b1, .slice p.a1 p.n1 p.c1, .bool p.b2, .slice p.a2 p.n2 p.c2] rfl zP4.out (by kernel_rfl) (by simp) (by kernel_rfl) (by kernel_rfl) ?_; rw [← hw5.out])
  | (replace tok : Tok 5 := nxT 4 tok; refine wpList_store_sub rfl 52 (.tmp 19) (.tmp 15) rfl w.heap.size 6 rfl 56 #[.string ⟨#[]⟩, .int .u8 0, .bool p.b1, .slice p.a1 p.n1 p.c1, .bool p.b2, .slice p.a2 p.n2 p.c2, .bool false, .slice none 0 0, .bool false, .slice none 0 0, .int .i64 0] #[.string ⟨#[]⟩, .int .u8 0, .bool p.b1, .slice p.a1 p.n1 p.c1, .bool p.b2, .slice p.a2 p.n2 p.c2, .bool q.b1, .slice q.a1 q.n1 q.c1, .bool q.b2, .slice q.a2 q.n2 q.c2, .int .i64 0] #[.bool q.b1, .slice q.a1 q.n1 q.c1, .bool q.b2, .slice q.a2 q.n2 q.c2] rfl zP5.out (by kernel_rfl) (by simp) (by kernel_rfl) (by kernel_rfl) ?_; rw [← hw6.out]))
 clear tok KS KN hw1 hw5 hw6 zP1 zP2 zP4 zP5 zS2 zS3 zP3 hp3 hE1 hE2 hE3 hsz1 hsz2 hl3
 by_cases hl : 2 < ws.length
 case neg =>
  have hl' : ¬ (2 : Int) < (ws.length : Int) := by omega
  have hRe := mK (rw_few hl)
  refine wp_loop_rounds 1 ?_
  rw [rounds_succ]
  go_wp2_with (refine wpList_store_row rfl 56 (.tmp 2) (.tmp 52) rfl w.heap.size #[.string ⟨#[]⟩, .int .u8 0, .bool false, .slice none 0 0, .bool false, .slice none 0 0, .bool false, .slice none 0 0, .bool false, .slice none 0 0, .int .i64 0] rfl rfl 56 _ zP6.out (by kernel_rfl) rfl (by kernel_rfl) ?_)
  exact bodyPost_ret (results_row_tmp rfl _ _ w.heap.size 56 #[.string ⟨#[]⟩, .int .u8 0, .bool false, .slice none 0 0, .bool false, .slice none 0 0, .bool false, .slice none 0 0, .bool false, .slice none 0 0, .int .i64 0] _ _ rfl rfl (setRow_heap _ _ _ _ _ _ zP6.out) Tryz.underlying56 rfl (by kernel_rfl)) rfl (.inr ⟨5, hR.out.trans hRe.out, rfl, hE6.out.row (nR _) _⟩)
 have hl' : (2 : Int) < (ws.length : Int) := by omega
 cases hkl : kindL (ws.getD 2 []) with
 | none =>
  have hRe := mK (rw_kind hl hkl)
  have hq := mK (fun (k : Int) (h : 1 ≤ k ∧ k ≤ 5) => word_none hkl h)
  have c2 := mK (zS6.out 2 hl)
  rw [hT2.out] at c2 hq
  replace hl := mK hl
  clear hkl
  go_loopw [5, 6] (fun t5 t6 wr => NkR w6 t5 t6 wr) (fun _ t6 _ => 6 - (intOf t6).toNat)
  case atStart => exact ⟨1, by omega, by omega, rfl, rfl, rfl⟩
  case round =>
   obtain ⟨k, hk1, hk6, rfl, rfl, rfl⟩ := hrel
   by_cases hk5 : k ≤ 5
   ·have KX := word_c (k : Int) wr
    have d2 := c2.out
    have hqk := hq.out (k : Int) ⟨by omega, by omega⟩
    obtain ⟨sk, hsk⟩ : ∃ sk : ByteArray, sk = ⟨(wordB (k : Int)).toArray⟩ := ⟨_, rfl⟩
    rw [← hsk] at hqk KX
    replace KX := mK KX
    clear hsk
    go_wp2_with (go_at_call 19; refine KX.out.mono ?_; rintro e w' ⟨rfl, hw'⟩; rw [← hw']; clear hw')
    exact ⟨⟨k + 1, by omega, by omega, by go_num, rfl, rfl⟩, by simp [intOf]; omega⟩
   ·obtain rfl : k = 6 := by omega
    go_wp2_with (refine wpList_store_row rfl 56 (.tmp 2) (.tmp 52) rfl w.heap.size #[.string ⟨#[]⟩, .int .u8 0, .bool false, .slice none 0 0, .bool false, .slice none 0 0, .bool false, .slice none 0 0, .bool false, .slice none 0 0, .int .i64 0] rfl rfl 56 _ zP6.out (by kernel_rfl) rfl (by kernel_rfl) ?_)
    exact bodyPost_ret (results_row_tmp rfl _ _ w.heap.size 56 #[.string ⟨#[]⟩, .int .u8 0, .bool false, .slice none 0 0, .bool false, .slice none 0 0, .bool false, .slice none 0 0, .bool false, .slice none 0 0, .int .i64 0] _ _ rfl rfl (setRow_heap _ _ _ _ _ _ zP6.out) Tryz.underlying56 rfl (by kernel_rfl)) rfl (.inr ⟨5, hR.out.trans hRe.out, rfl, hE6.out.row (nR _) _⟩)
 | some kd =>
  have hk : 1 ≤ kd ∧ kd ≤ 5 := by
   unfold kindL at hkl
   repeat' split at hkl
   all_goals first
    | (cases hkl; omega)
    | cases hkl
  have hkb := kindL_back hkl
  obtain ⟨N, hN⟩ : ∃ N, N = wordN kd := ⟨_, rfl⟩
  have hN2 : N ≤ 2 := by rw [hN]; exact wordN_le kd
  obtain ⟨kw, hkw⟩ : ∃ kw : ByteArray, kw = ⟨(wordB kd).toArray⟩ := ⟨_, rfl⟩
  have hT2 := mK (show (⟨(ws.getD 2 []).toArray⟩ : ByteArray) = kw by rw [← hkb, hkw])
  replace hkw := mK hkw
  replace hN := mK hN
  replace hkl := mK hkl
  replace hl := mK hl
  clear hkb
  obtain ⟨w7, hw7⟩ : ∃ w7, w7 = w6.setCell ⟨w.heap.size, 1, none⟩ (.int .u8 kd) := ⟨_, rfl⟩
  have zP7 := mK (show w7.heap[w.heap.size]? = some (.cells #[.string ⟨#[]⟩, .int .u8 kd, .bool p.b1, .slice p.a1 p.n1 p.c1, .bool p.b2, .slice p.a2 p.n2 p.c2, .bool q.b1, .slice q.a1 q.n1 q.c1, .bool q.b2, .slice q.a2 q.n2 q.c2, .int .i64 0] 56 (0, 0)) by rw [hw7]; exact heap_setCell_same _ _ _ _ _ _ zP6.out)
  have zS7 := mK (zS6.out.near (show w7.heap[w.heap.size + 1]? = w6.heap[w.heap.size + 1]? by rw [hw7]; exact heap_setCell_other _ _ _ _ (by simp)))
  have hp7 := mK (show FracO w7 (w.heap.size + 2) (.agg #[.bool p.b1, .slice p.a1 p.n1 p.c1, .bool p.b2, .slice p.a2 p.n2 p.c2]) 0 by rw [hw7]; exact hp6.out.near fun k hk => heap_setCell_other _ _ _ _ (fun e => by have e' : k = w.heap.size := e; have := (hp6.out.span k hk).1; omega))
  have hq7 := mK (show FracO w7 (w.heap.size + 2) (.agg #[.bool q.b1, .slice q.a1 q.n1 q.c1, .bool q.b2, .slice q.a2 q.n2 q.c2]) 0 by rw [hw7]; exact hq6.out.near fun k hk => heap_setCell_other _ _ _ _ (fun e => by have e' : k = w.heap.size := e; have := (hq6.out.span k hk).1; omega))
  have hE7 := mK (show Ext w w7 by rw [hw7]; exact hE6.out.st (nR _) _)
  have hl7 := mK (show w.heap.size + 2 ≤ w7.heap.size by rw [hw7]; simpa using hl6.out)
  have d1 : w6.cell? ⟨w.heap.size, 1, none⟩ = some (.int .u8 0) := row16_cells zP6.out 1
  have f1 : w6.frozen? ⟨w.heap.size, 1, none⟩ = false := frozen_of_row _ _ _ _ _ zP6.out
  replace d1 := mK d1
  replace f1 := mK f1
  replace hw7 := mK hw7
  have st : KdR kd N w6 w7 (.int .i64 (-1)) (.int .u8 1) w6 := ⟨1, by omega, by omega, rfl, .inr ⟨hk.1, rfl, rfl⟩⟩
  replace st := mK st
  clear hp6 hq6 hE6 zP6 hl6
  go_loopw [5, 6] (fun t5 t6 wr => KdR kd N w6 w7 t5 t6 wr) (fun _ t6 _ => 6 - (intOf t6).toNat)
  case atStart => exact st.out
  case' round =>
   clear st
   obtain ⟨k, hk1, hk6, rfl, hcase⟩ := hrel
   by_cases hk5 : k ≤ 5
   case pos =>
    rcases hcase with ⟨hKk, rfl, rfl⟩ | ⟨hkK, rfl, rfl⟩
    ·have c2 := zS7.out 2 hl.out
     rw [hT2.out] at c2
     have KX := word_c (k : Int) (wr)
     have hq := word_eq (i := (k : Int)) (k := kd) ⟨by omega, by omega⟩ hk
     rw [← hkw.out] at hq
     rw [decide_eq_false (by omega)] at hq
     obtain ⟨sk, hsk⟩ : ∃ sk : ByteArray, sk = ⟨(wordB (k : Int)).toArray⟩ := ⟨_, rfl⟩
     rw [← hsk] at hq KX
     replace KX := mK KX
     clear hsk
     go_wp2_with (go_at_call 19; refine KX.out.mono ?_; rintro e w' ⟨rfl, hw'⟩; rw [← hw']; clear hw')
     exact ⟨⟨k + 1, by omega, by omega, by go_num, .inl ⟨by omega, rfl, rfl⟩⟩, by simp [intOf]; omega⟩
    ·by_cases hkk : (k : Int) = kd
     ·have c2 := zS6.out 2 hl.out
      rw [hT2.out] at c2
      have KX := word_c (k : Int) (wr)
      have hq := word_eq (i := (k : Int)) (k := kd) ⟨by omega, by omega⟩ hk
      rw [← hkw.out] at hq
      rw [decide_eq_true hkk] at hq
      obtain ⟨sk, hsk⟩ : ∃ sk : ByteArray, sk = ⟨(wordB (k : Int)).toArray⟩ := ⟨_, rfl⟩
      rw [← hsk] at hq KX
      rw [hkk, ← hN.out] at KX
      rw [hkk]
      replace KX := mK KX
      have hd1 := d1.out
      have hf1 := f1.out
      replace hkk := mK hkk
      clear hsk
      go_wp2_with (go_at_call 19; refine KX.out.mono ?_; rintro e w' ⟨rfl, hw'⟩; rw [← hw']; clear hw')
      rw [← hw7.out]
      have := hkk.out
      exact ⟨⟨k + 1, by omega, by omega, by rw [← this]; go_num, .inl ⟨by omega, rfl, rfl⟩⟩, by simp [intOf]; omega⟩
     ·have c2 := zS6.out 2 hl.out
      rw [hT2.out] at c2
      have KX := word_c (k : Int) (wr)
      have hq := word_eq (i := (k : Int)) (k := kd) ⟨by omega, by omega⟩ hk
      rw [← hkw.out] at hq
      rw [decide_eq_false hkk] at hq
      obtain ⟨sk, hsk⟩ : ∃ sk : ByteArray, sk = ⟨(wordB (k : Int)).toArray⟩ := ⟨_, rfl⟩
      rw [← hsk] at hq KX
      replace KX := mK KX
      clear hsk
      go_wp2_with (go_at_call 19; refine KX.out.mono ?_; rintro e w' ⟨rfl, hw'⟩; rw [← hw']; clear hw')
      exact ⟨⟨k + 1, by omega, by omega, by go_num, .inr ⟨by omega, rfl, rfl⟩⟩, by simp [intOf]; omega⟩
   obtain rfl : k = 6 := by omega
   rcases hcase with ⟨hKk, rfl, rfl⟩ | ⟨hkK, rfl, rfl⟩
   case inr => exfalso; omega
   clear hKk hk1 hk6 hk5 d1 f1 hw7 zS6
  have hN0 : ¬ (N : Int) < 0 := by omega
  by_cases hn : ws.length = 3 + N
  case neg =>
   have hq1 : ((ws.length : Int) == 3 + (N : Int)) = false := by rw [beq_eq_false_iff_ne]; omega
   have hq2 : ((ws.length : Int) != 3 + (N : Int)) = true := by rw [bne_iff_ne]; omega
   have hRe := mK (rw_len hl.out hkl.out (by rw [← hN.out]; exact hn))
   clear hn
   go_wp2_with (refine wpList_store_row rfl 56 (.tmp 2) (.tmp 52) rfl w.heap.size #[.string ⟨#[]⟩, .int .u8 0, .bool false, .slice none 0 0, .bool false, .slice none 0 0, .bool false, .slice none 0 0, .bool false, .slice none 0 0, .int .i64 0] rfl rfl 56 _ zP7.out (by kernel_rfl) rfl (by kernel_rfl) ?_)
   exact bodyPost_ret (results_row_tmp rfl _ _ w.heap.size 56 #[.string ⟨#[]⟩, .int .u8 0, .bool false, .slice none 0 0, .bool false, .slice none 0 0, .bool false, .slice none 0 0, .bool false, .slice none 0 0, .int .i64 0] _ _ rfl rfl (setRow_heap _ _ _ _ _ _ zP7.out) Tryz.underlying56 rfl (by kernel_rfl)) rfl (.inr ⟨5, hR.out.trans hRe.out, rfl, hE7.out.row (nR _) _⟩)
  have hq1 : ((ws.length : Int) == 3 + (N : Int)) = true := by rw [beq_iff_eq]; omega
  have hq2 : ((ws.length : Int) != 3 + (N : Int)) = false := by rw [hn]; simp
  have hn' := mK (show ws.length = 3 + wordN kd by rw [← hN.out]; exact hn)
  replace hn := mK hn
  have c1 := zS7.out 1 (by have := hl.out; omega)
  rw [← hT1.out] at c1
  cases hnb : numB (ws.getD 1 []) with
  | none =>
   rw [hnb] at KU
   have hRe := mK (rw_num hl.out hkl.out hn'.out hnb)
   clear hnb
   have tok : Tok 20 := .mk _
   go_wp2_with (first
    | (replace tok : Tok 21 := nxT 20 tok; go_at_call 37; refine (KU.out _ hE7.out).mono ?_; rintro e w8 ⟨n, rfl, -, hx8⟩; clear c1; (have zP8 := mK (hx8.blk zP7.out)); (have hE8 := mK (hE7.out.trans hx8)); (have d10 : w8.cell? ⟨w.heap.size, 10, none⟩ = some (.int .i64 0) := row16_cells zP8.out 10); (have f10 : w8.frozen? ⟨w.heap.size, 10, none⟩ = false := frozen_of_row _ _ _ _ _ zP8.out); (have zP9 := mK (show (w8.setCell ⟨w.heap.size, 10, none⟩ (.int .i64 n)).heap[w.heap.size]? = some (.cells #[.string ⟨#[]⟩, .int .u8 kd, .bool p.b1, .slice p.a1 p.n1 p.c1, .bool p.b2, .slice p.a2 p.n2 p.c2, .bool q.b1, .slice q.a1 q.n1 q.c1, .bool q.b2, .slice q.a2 q.n2 q.c2, .int .i64 n] 56 (0, 0)) from heap_setCell_same _ _ _ _ _ _ zP8.out)); (have hE9 := mK (show Ext w (w8.setCell ⟨w.heap.size, 10, none⟩ (.int .i64 n)) from hE8.out.st (nR _) _)); clear hx8)
    | (replace tok : Tok 22 := nxT 21 tok; refine wpList_store_row rfl 56 (.tmp 2) (.tmp 63) rfl w.heap.size #[.string ⟨#[]⟩, .int .u8 0, .bool false, .slice none 0 0, .bool false, .slice none 0 0, .bool false, .slice none 0 0, .bool false, .slice none 0 0, .int .i64 0] rfl rfl 56 _ zP9.out (by kernel_rfl) rfl (by kernel_rfl) ?_))
   exact bodyPost_ret (results_row_tmp rfl _ _ w.heap.size 56 #[.string ⟨#[]⟩, .int .u8 0, .bool false, .slice none 0 0, .bool false, .slice none 0 0, .bool false, .slice none 0 0, .bool false, .slice none 0 0, .int .i64 0] _ _ rfl rfl (setRow_heap _ _ _ _ _ _ zP9.out) Tryz.underlying56 rfl (by kernel_rfl)) rfl (.inr ⟨5, hR.out.trans hRe.out, rfl, hE9.out.row (nR _) _⟩)
  | some M =>
   have KU := mK (fun W (e : Ext w W) => (KU.out W e).mono (R' := fun e w' => e = .returned (.tuple #[.int .i64 M, .bool true]) ∧ Ext W w') (by
    rintro e w' ⟨n, rfl, h2, hx⟩
    rw [h2 M hnb, hnb]
    exact ⟨rfl, hx⟩))
   replace hnb := mK hnb
   obtain ⟨nb, hnm⟩ : ∃ nb, nb = nameB (ws.getD 0 []) := ⟨_, rfl⟩
   rw [← hnm] at KD
   replace hnm := mK hnm
   have tok : Tok 20 := .mk _
   go_wp2_with (first
    | (replace tok : Tok 21 := nxT 20 tok; go_at_call 37; refine (KU.out _ hE7.out).mono ?_; rintro e w8 ⟨rfl, hx8⟩; clear c1; (have zP8 := mK (hx8.blk zP7.out)); (have zS8 := mK (zS7.out.ext hx8)); (have hp8 := mK (hp7.out.ext hx8)); (have hq8 := mK (hq7.out.ext hx8)); (have hE8 := mK (hE7.out.trans hx8)); (have hl8 := mK (nT hl7.out hx8.size)); (have d10 : w8.cell? ⟨w.heap.size, 10, none⟩ = some (.int .i64 0) := row16_cells zP8.out 10); (have f10 : w8.frozen? ⟨w.heap.size, 10, none⟩ = false := frozen_of_row _ _ _ _ _ zP8.out); (have c0 := zS8.out 0 (by have := hl.out; omega)); rw [← hT0.out] at c0; (have d0 : w8.cell? ⟨w.heap.size, 0, none⟩ = some (.string ⟨#[]⟩) := row16_cells zP8.out 0); (have f0 : w8.frozen? ⟨w.heap.size, 0, none⟩ = false := frozen_of_row _ _ _ _ _ zP8.out); clear hx8)
    | (replace tok : Tok 22 := nxT 21 tok; go_at_call 38; (obtain ⟨w9, hw9⟩ : ∃ w9, w9 = (w8.setCell ⟨w.heap.size, 10, none⟩ (.int .i64 M)).setCell ⟨w.heap.size, 0, none⟩ (.string T0) := ⟨_, rfl⟩); rw [← hw9]; (have zP9 : w9.heap[w.heap.size]? = some (.cells #[.string T0, .int .u8 kd, .bool p.b1, .slice p.a1 p.n1 p.c1, .bool p.b2, .slice p.a2 p.n2 p.c2, .bool q.b1, .slice q.a1 q.n1 q.c1, .bool q.b2, .slice q.a2 q.n2 q.c2, .int .i64 M] 56 (0, 0)) := by rw [hw9]; exact heap_setCell_same _ _ _ _ _ _ (heap_setCell_same _ _ _ _ _ _ zP8.out)); (have hnear : ∀ k, k ≠ w.heap.size → w9.heap[k]? = w8.heap[k]? := fun k hk => by rw [hw9]; exact (heap_setCell_other _ _ _ _ hk).trans (heap_setCell_other _ _ _ _ hk)); (have hp9 : FracO w9 (w.heap.size + 2) (.agg #[.bool p.b1, .slice p.a1 p.n1 p.c1, .bool p.b2, .slice p.a2 p.n2 p.c2]) 0 := hp8.out.near fun k hk => hnear k (fun e => by have := (hp8.out.span k hk).1; omega)); (have hq9 : FracO w9 (w.heap.size + 2) (.agg #[.bool q.b1, .slice q.a1 q.n1 q.c1, .bool q.b2, .slice q.a2 q.n2 q.c2]) 0 := hq8.out.near fun k hk => hnear k (fun e => by have := (hq8.out.span k hk).1; omega)); (have zS9 := zS8.out.near (hnear (w.heap.size + 1) (by omega))); (have hE9 : Ext w w9 := by rw [hw9]; exact (hE8.out.st (nR _) _).st (nR _) _); (have hl9 : w.heap.size + 2 ≤ w9.heap.size := by rw [hw9]; simpa using hl8.out); refine (KD.out _).mono ?_; rintro e w10 ⟨rfl, hx⟩; (have zP10 := mK (hx.blk zP9)); (have zS10 := mK (zS9.ext hx)); (have hp10 := mK (hp9.ext hx)); (have hq10 := mK (hq9.ext hx)); (have hE10 := mK (hE9.trans hx)); (have hl10 := mK (nT hl9 hx.size)); clear hx zP9 zS9 hp9 hq9 hE9 hnear hw9 hl9 d10 f10 c0 d0 f0 zP8 zS8 hp8 hq8 hE8 hl8)
    | (replace tok : Tok 23 := nxT 22 tok; refine stopS ?_))
   unfold StopS
   clear tok
   cases nb with
   | false =>
    have hRe := mK (rw_name hl.out hkl.out hn'.out hnb.out hnm.out.symm)
    go_wp2_with (refine wpList_store_row rfl 56 (.tmp 2) (.tmp 72) rfl w.heap.size #[.string ⟨#[]⟩, .int .u8 0, .bool false, .slice none 0 0, .bool false, .slice none 0 0, .bool false, .slice none 0 0, .bool false, .slice none 0 0, .int .i64 0] rfl rfl 56 _ zP10.out (by kernel_rfl) rfl (by kernel_rfl) ?_)
    exact bodyPost_ret (results_row_tmp rfl _ _ w.heap.size 56 #[.string ⟨#[]⟩, .int .u8 0, .bool false, .slice none 0 0, .bool false, .slice none 0 0, .bool false, .slice none 0 0, .bool false, .slice none 0 0, .int .i64 0] _ _ rfl rfl (setRow_heap _ _ _ _ _ _ zP10.out) Tryz.underlying56 rfl (by kernel_rfl)) rfl (.inr ⟨9, hR.out.trans hRe.out, rfl, hE10.out.row (nR _) _⟩)
   | true =>
    replace hR := mK (hR.out.trans (rw_tail hl.out hkl.out hn'.out hnb.out hnm.out.symm))
    clear hnm hnb hn' hkl KU KD
    have hN2' : (N : Int) ≤ 2 := by omega
    go_wp2_with fail
    obtain ⟨w11, hw11⟩ : ∃ w11, w11 = w10.alloc (.cells #[.pointer (some ⟨w.heap.size, 2, none⟩), .pointer (some ⟨w.heap.size, 6, none⟩)] 94) := ⟨_, rfl⟩
    rw [← hw11]
    have hx11 : Ext w10 w11 := by rw [hw11]; exact (xR _).al _
    have zB11 := mK (show w11.heap[w10.heap.size]? = some (.cells #[.pointer (some ⟨w.heap.size, 2, none⟩), .pointer (some ⟨w.heap.size, 6, none⟩)] 94 (0, 0)) by rw [hw11]; exact heap_alloc_new _ _)
    have zP11 := mK (hx11.blk zP10.out)
    have zS11 := mK (zS10.out.ext hx11)
    have hp11 := mK (hp10.out.ext hx11)
    have hq11 := mK (hq10.out.ext hx11)
    have hE11 := mK (hE10.out.trans hx11)
    have hb11 := mK (show w.heap.size < w10.heap.size from (Array.getElem?_eq_some_iff.1 zP10.out).1)
    have hl11 := mK (nT hl10.out hx11.size)
    clear hx11 hw11 zP10 zS10 hp10 hq10 hE10 hl10
    refine wp_loop_rounds 3 ?_
    obtain ⟨T3, hT3⟩ : ∃ T3 : ByteArray, (⟨(ws.getD 3 []).toArray⟩ : ByteArray) = T3 := ⟨_, rfl⟩
    obtain ⟨T4, hT4⟩ : ∃ T4 : ByteArray, (⟨(ws.getD 4 []).toArray⟩ : ByteArray) = T4 := ⟨_, rfl⟩
    replace hT3 := mK hT3
    replace hT4 := mK hT4
    by_cases h0 : 0 < N
    case neg =>
     have h0' : ¬ (0 : Int) < N := by omega
     have hRt := mK (rt_ok (ws := ws) (K := kd) (M := M) (p := 0) (q := 0) (by rw [decide_eq_false (by rw [← hN.out]; omega)]; rfl) (by rw [decide_eq_false (by rw [← hN.out]; omega)]; rfl))
     clear h0
     have KM := mK (fun W => may_b T0 kd M (0) (0) nf_none nf_none W p q)
     have hRm := mK (hR.out.trans hRt.out)
     obtain ⟨B, hB⟩ : ∃ B, B = mayP kd M (some (0)) (some (0)) := ⟨_, rfl⟩
     rw [← hB] at KM hRm
     rw [← hT0.out] at hRm
     replace hB := mK hB
     rw [rounds_succ]
     have tok : Tok 30 := .mk _
     go_wp2_with (first
      | (replace tok : Tok 31 := nxT 30 tok; refine wpList_load_row (by rfl) 56 (.tmp 2) rfl w.heap.size rfl 56 #[.string T0, .int .u8 kd, .bool p.b1, .slice p.a1 p.n1 p.c1, .bool p.b2, .slice p.a2 p.n2 p.c2, .bool q.b1, .slice q.a1 q.n1 q.c1, .bool q.b2, .slice q.a2 q.n2 q.c2, .int .i64 M] (0, 0) _ zP11.out Tryz.underlying56 rfl (by kernel_rfl) ?_)
      | (replace tok : Tok 32 := nxT 31 tok; go_at_call 40; refine (KM.out _ hp11.out.r hq11.out.r).mono ?_; rintro e w22 ⟨rfl, hx⟩; (have zPy := mK (hx.blk zP11.out)); (have hEy := mK (hE11.out.trans hx)); (have hpy := mK (hp11.out.ext hx)); (have hqy := mK (hq11.out.ext hx)); clear hx; refine stopS ?_))
     unfold StopS
     cases B with
     | true =>
      go_wp2_with (first
       | (replace tok : Tok 33 := nxT 32 tok; refine wpList_load_row (by rfl) 56 (.tmp 2) rfl w.heap.size rfl 56 #[.string T0, .int .u8 kd, .bool p.b1, .slice p.a1 p.n1 p.c1, .bool p.b2, .slice p.a2 p.n2 p.c2, .bool q.b1, .slice q.a1 q.n1 q.c1, .bool q.b2, .slice q.a2 q.n2 q.c2, .int .i64 M] (0, 0) _ zPy.out Tryz.underlying56 rfl (by kernel_rfl) ?_)
       | (replace tok : Tok 34 := nxT 33 tok; refine wpList_store_row rfl 56 (.tmp 2) (.tmp 106) rfl w.heap.size #[.string T0, .int .u8 kd, .bool p.b1, .slice p.a1 p.n1 p.c1, .bool p.b2, .slice p.a2 p.n2 p.c2, .bool q.b1, .slice q.a1 q.n1 q.c1, .bool q.b2, .slice q.a2 q.n2 q.c2, .int .i64 M] rfl rfl 56 _ zPy.out (by kernel_rfl) rfl (by kernel_rfl) ?_))
      refine bodyPost_ret (results_row_tmp rfl _ _ w.heap.size 56 #[.string T0, .int .u8 kd, .bool p.b1, .slice p.a1 p.n1 p.c1, .bool p.b2, .slice p.a2 p.n2 p.c2, .bool q.b1, .slice q.a1 q.n1 q.c1, .bool q.b2, .slice q.a2 q.n2 q.c2, .int .i64 M] _ _ rfl rfl (setRow_heap _ _ _ _ _ _ zPy.out) Tryz.underlying56 rfl (by kernel_rfl)) rfl ?_
      exact .inl ⟨⟨T0, kd, 0, 0, M⟩, hRm.out.trans (by simp), p, q, rfl, (hpy.out.row (by omega) _).mono (by omega), (hqy.out.row (by omega) _).mono (by omega), hEy.out.row (nR _) _⟩
     | false =>
      go_wp2_with (refine wpList_store_row rfl 56 (.tmp 2) (.tmp 105) rfl w.heap.size #[.string ⟨#[]⟩, .int .u8 0, .bool false, .slice none 0 0, .bool false, .slice none 0 0, .bool false, .slice none 0 0, .bool false, .slice none 0 0, .int .i64 0] rfl rfl 56 _ zPy.out (by kernel_rfl) rfl (by kernel_rfl) ?_)
      exact bodyPost_ret (results_row_tmp rfl _ _ w.heap.size 56 #[.string ⟨#[]⟩, .int .u8 0, .bool false, .slice none 0 0, .bool false, .slice none 0 0, .bool false, .slice none 0 0, .bool false, .slice none 0 0, .int .i64 0] _ _ rfl rfl (setRow_heap _ _ _ _ _ _ zPy.out) Tryz.underlying56 rfl (by kernel_rfl)) rfl (.inr ⟨1, hRm.out.trans (by simp), rfl, hEy.out.row (nR _) _⟩)
    have h0' : (0 : Int) < N := by omega
    have hb3 : (3 : Int) < (ws.length : Int) := by have := hn.out; omega
    cases hP : fracL true (ws.getD 3 []) with
    | error c =>
     have hcb : (c != 0) = true := by have := fracL_code hP; rw [bne_iff_ne]; omega
     have KX := mK (fun W (e : Ext w W) => frac_badJ T3 c W (by rw [← hT3.out]; exact hwl.out 3) (hM.out W e) (by rw [← hT3.out]; exact hP))
     have hRt := mK (rt_e1 (M := M) (by rw [← hN.out]; exact h0) hP)
     clear hP h0
     rw [rounds_succ]
     have cw := zS11.out (3 + 0) (by have := hn.out; omega)
     rw [hT3.out] at cw
     have cb := row16_cells zB11.out 0
     replace cb : w11.cell? ⟨w10.heap.size, 0, none⟩ = some (.pointer (some ⟨w.heap.size, 2, none⟩)) := cb
     have tok : Tok 50 := .mk _
     go_wp2_with (first
      | (replace tok : Tok 51 := nxT 50 tok; go_at_call 39; refine (KX.out _ hE11.out).mono ?_; rintro e w33 ⟨g, rfl, hx⟩; clear cw cb; (have zP33 := mK (hx.blk zP11.out)); (have hE33 := hE11.out.trans hx); (obtain ⟨w34, hw34⟩ : ∃ w34, w34 = w33.setRow w.heap.size #[.string T0, .int .u8 kd, .bool g.b1, .slice g.a1 g.n1 g.c1, .bool g.b2, .slice g.a2 g.n2 g.c2, .bool q.b1, .slice q.a1 q.n1 q.c1, .bool q.b2, .slice q.a2 q.n2 q.c2, .int .i64 M] := ⟨_, rfl⟩); (have zP34 := mK (show w34.heap[w.heap.size]? = some (.cells #[.string T0, .int .u8 kd, .bool g.b1, .slice g.a1 g.n1 g.c1, .bool g.b2, .slice g.a2 g.n2 g.c2, .bool q.b1, .slice q.a1 q.n1 q.c1, .bool q.b2, .slice q.a2 q.n2 q.c2, .int .i64 M] 56 (0, 0)) by rw [hw34]; exact setRow_heap _ _ _ _ _ _ zP33.out)); (have hE34 := mK (show Ext w w34 by rw [hw34]; exact hE33.row (nR _) _)); replace hw34 := mK hw34; clear hx hE33)
      | (replace tok : Tok 52 := nxT 51 tok; refine wpList_store_sub rfl 52 (.tmp 96) (.tmp 94) rfl w.heap.size 2 rfl 56 #[.string T0, .int .u8 kd, .bool p.b1, .slice p.a1 p.n1 p.c1, .bool p.b2, .slice p.a2 p.n2 p.c2, .bool q.b1, .slice q.a1 q.n1 q.c1, .bool q.b2, .slice q.a2 q.n2 q.c2, .int .i64 M] #[.string T0, .int .u8 kd, .bool g.b1, .slice g.a1 g.n1 g.c1, .bool g.b2, .slice g.a2 g.n2 g.c2, .bool q.b1, .slice q.a1 q.n1 q.c1, .bool q.b2, .slice q.a2 q.n2 q.c2, .int .i64 M] #[.bool g.b1, .slice g.a1 g.n1 g.c1, .bool g.b2, .slice g.a2 g.n2 g.c2] rfl zP33.out (by kernel_rfl) (by simp) (by kernel_rfl) (by kernel_rfl) ?_; rw [← hw34.out])
      | (replace tok : Tok 53 := nxT 52 tok; refine wpList_store_row rfl 56 (.tmp 2) (.tmp 99) rfl w.heap.size #[.string ⟨#[]⟩, .int .u8 0, .bool false, .slice none 0 0, .bool false, .slice none 0 0, .bool false, .slice none 0 0, .bool false, .slice none 0 0, .int .i64 0] rfl rfl 56 _ zP34.out (by kernel_rfl) rfl (by kernel_rfl) ?_))
     exact bodyPost_ret (results_row_tmp rfl _ _ w.heap.size 56 #[.string ⟨#[]⟩, .int .u8 0, .bool false, .slice none 0 0, .bool false, .slice none 0 0, .bool false, .slice none 0 0, .bool false, .slice none 0 0, .int .i64 0] _ _ rfl rfl (setRow_heap _ _ _ _ _ _ zP34.out) Tryz.underlying56 rfl (by kernel_rfl)) rfl (.inr ⟨_, hR.out.trans (hRt.out), rfl, hE34.out.row (nR _) _⟩)
    | ok P =>
     have nP := fracL_nf hP
     have KF := mK (fun W (e : Ext w W) => frac_okJ T3 P W (by rw [← hT3.out]; exact hwl.out 3) (hM.out W e) (by rw [← hT3.out]; exact hP))
     replace hP := mK hP
     have h0h := mK h0
     clear h0
     rw [rounds_succ]
     have cw := zS11.out (3 + 0) (by have := hn.out; omega)
     rw [hT3.out] at cw
     have cb := row16_cells zB11.out 0
     replace cb : w11.cell? ⟨w10.heap.size, 0, none⟩ = some (.pointer (some ⟨w.heap.size, 2, none⟩)) := cb
     have tok : Tok 23 := .mk _
     go_wp2_with (first
      | (replace tok : Tok (23 + 1) := nxT 23 tok; go_at_call 39; refine (KF.out _ hE11.out).mono ?_; rintro e w13 ⟨f, rfl, hx, hf⟩; clear cw cb; (have zP13 := mK (hx.blk zP11.out)); (have zS13 := zS11.out.ext hx); (have zB13 := mK (hx.blk zB11.out)); (have hp13 := hp11.out.ext hx); (have hq13 := hq11.out.ext hx); (have hE13 := hE11.out.trans hx); (obtain ⟨w14, hw14⟩ : ∃ w14, w14 = w13.setRow w.heap.size #[.string T0, .int .u8 kd, .bool f.b1, .slice f.a1 f.n1 f.c1, .bool f.b2, .slice f.a2 f.n2 f.c2, .bool q.b1, .slice q.a1 q.n1 q.c1, .bool q.b2, .slice q.a2 q.n2 q.c2, .int .i64 M] := ⟨_, rfl⟩); (have zP14 := mK (show w14.heap[w.heap.size]? = some (.cells #[.string T0, .int .u8 kd, .bool f.b1, .slice f.a1 f.n1 f.c1, .bool f.b2, .slice f.a2 f.n2 f.c2, .bool q.b1, .slice q.a1 q.n1 q.c1, .bool q.b2, .slice q.a2 q.n2 q.c2, .int .i64 M] 56 (0, 0)) by rw [hw14]; exact setRow_heap _ _ _ _ _ _ zP13.out)); (have zS14 := mK (zS13.near (show w14.heap[w.heap.size + 1]? = w13.heap[w.heap.size + 1]? by rw [hw14]; exact setRow_other _ _ _ _ (by omega)))); (have zB14 := mK (show w14.heap[w10.heap.size]? = w13.heap[w10.heap.size]? by rw [hw14]; exact setRow_other _ _ _ _ (by have := hb11.out; omega))); replace zB14 := mK (zB14.out.trans zB13.out); (have hl13 := nT hl11.out hx.size); (have hl14 := mK (show w.heap.size + 2 ≤ w14.heap.size by rw [hw14]; simpa using hl13)); (have hp14 := mK (show FracO w14 (w.heap.size + 2) (.agg #[.bool p.b1, .slice p.a1 p.n1 p.c1, .bool p.b2, .slice p.a2 p.n2 p.c2]) _ by rw [hw14]; exact hp13.row (by omega) _)); (have hq14 := mK (show FracO w14 (w.heap.size + 2) (.agg #[.bool q.b1, .slice q.a1 q.n1 q.c1, .bool q.b2, .slice q.a2 q.n2 q.c2]) _ by rw [hw14]; exact hq13.row (by omega) _)); (have hf14 := mK (show FracO w14 (w.heap.size + 2) (.agg #[.bool f.b1, .slice f.a1 f.n1 f.c1, .bool f.b2, .slice f.a2 f.n2 f.c2]) _ by rw [hw14]; exact (hf.mono hl11.out).row (by omega) _)); (have hE14 := mK (show Ext w w14 by rw [hw14]; exact hE13.row (nR _) _)); replace hw14 := mK hw14; clear hx hf hp13 hq13 hE13 hl13 zS13 zB13 zP11 zS11 zB11 hp11 hq11 hE11)
      | (replace tok : Tok (23 + 2) := nxT (23 + 1) tok; refine wpList_store_sub rfl 52 (.tmp 96) (.tmp 94) rfl w.heap.size 2 rfl 56 #[.string T0, .int .u8 kd, .bool p.b1, .slice p.a1 p.n1 p.c1, .bool p.b2, .slice p.a2 p.n2 p.c2, .bool q.b1, .slice q.a1 q.n1 q.c1, .bool q.b2, .slice q.a2 q.n2 q.c2, .int .i64 M] #[.string T0, .int .u8 kd, .bool f.b1, .slice f.a1 f.n1 f.c1, .bool f.b2, .slice f.a2 f.n2 f.c2, .bool q.b1, .slice q.a1 q.n1 q.c1, .bool q.b2, .slice q.a2 q.n2 q.c2, .int .i64 M] #[.bool f.b1, .slice f.a1 f.n1 f.c1, .bool f.b2, .slice f.a2 f.n2 f.c2] rfl zP13.out (by kernel_rfl) (by simp) (by kernel_rfl) (by kernel_rfl) ?_; rw [← hw14.out]))
     clear tok zP13 hw14
     clear hp14
     have hp14 := mK hf14.out
     clear hf14 KF
     by_cases h1 : 1 < N
     case neg =>
      have h1' : ¬ (1 : Int) < N := by omega
      have hRt := mK (rt_ok (ws := ws) (K := kd) (M := M) (p := P) (q := 0) (by rw [decide_eq_true (by rw [← hN.out]; exact h0h.out)]; exact hP.out) (by rw [decide_eq_false (by rw [← hN.out]; exact h1)]; rfl))
      clear h1
      have KM := mK (fun W => may_b T0 kd M (P) (0) nP nf_none W f q)
      have hRm := mK (hR.out.trans hRt.out)
      obtain ⟨B, hB⟩ : ∃ B, B = mayP kd M (some (P)) (some (0)) := ⟨_, rfl⟩
      rw [← hB] at KM hRm
      rw [← hT0.out] at hRm
      replace hB := mK hB
      rw [rounds_succ]
      have tok : Tok 30 := .mk _
      go_wp2_with (first
       | (replace tok : Tok 31 := nxT 30 tok; refine wpList_load_row (by rfl) 56 (.tmp 2) rfl w.heap.size rfl 56 #[.string T0, .int .u8 kd, .bool f.b1, .slice f.a1 f.n1 f.c1, .bool f.b2, .slice f.a2 f.n2 f.c2, .bool q.b1, .slice q.a1 q.n1 q.c1, .bool q.b2, .slice q.a2 q.n2 q.c2, .int .i64 M] (0, 0) _ zP14.out Tryz.underlying56 rfl (by kernel_rfl) ?_)
       | (replace tok : Tok 32 := nxT 31 tok; go_at_call 40; refine (KM.out _ hp14.out.r hq14.out.r).mono ?_; rintro e w22 ⟨rfl, hx⟩; (have zPy := mK (hx.blk zP14.out)); (have hEy := mK (hE14.out.trans hx)); (have hpy := mK (hp14.out.ext hx)); (have hqy := mK (hq14.out.ext hx)); clear hx; refine stopS ?_))
      unfold StopS
      cases B with
      | true =>
       go_wp2_with (first
        | (replace tok : Tok 33 := nxT 32 tok; refine wpList_load_row (by rfl) 56 (.tmp 2) rfl w.heap.size rfl 56 #[.string T0, .int .u8 kd, .bool f.b1, .slice f.a1 f.n1 f.c1, .bool f.b2, .slice f.a2 f.n2 f.c2, .bool q.b1, .slice q.a1 q.n1 q.c1, .bool q.b2, .slice q.a2 q.n2 q.c2, .int .i64 M] (0, 0) _ zPy.out Tryz.underlying56 rfl (by kernel_rfl) ?_)
        | (replace tok : Tok 34 := nxT 33 tok; refine wpList_store_row rfl 56 (.tmp 2) (.tmp 106) rfl w.heap.size #[.string T0, .int .u8 kd, .bool f.b1, .slice f.a1 f.n1 f.c1, .bool f.b2, .slice f.a2 f.n2 f.c2, .bool q.b1, .slice q.a1 q.n1 q.c1, .bool q.b2, .slice q.a2 q.n2 q.c2, .int .i64 M] rfl rfl 56 _ zPy.out (by kernel_rfl) rfl (by kernel_rfl) ?_))
       refine bodyPost_ret (results_row_tmp rfl _ _ w.heap.size 56 #[.string T0, .int .u8 kd, .bool f.b1, .slice f.a1 f.n1 f.c1, .bool f.b2, .slice f.a2 f.n2 f.c2, .bool q.b1, .slice q.a1 q.n1 q.c1, .bool q.b2, .slice q.a2 q.n2 q.c2, .int .i64 M] _ _ rfl rfl (setRow_heap _ _ _ _ _ _ zPy.out) Tryz.underlying56 rfl (by kernel_rfl)) rfl ?_
       exact .inl ⟨⟨T0, kd, P, 0, M⟩, hRm.out.trans (by simp), f, q, rfl, (hpy.out.row (by omega) _).mono (by omega), (hqy.out.row (by omega) _).mono (by omega), hEy.out.row (nR _) _⟩
      | false =>
       go_wp2_with (refine wpList_store_row rfl 56 (.tmp 2) (.tmp 105) rfl w.heap.size #[.string ⟨#[]⟩, .int .u8 0, .bool false, .slice none 0 0, .bool false, .slice none 0 0, .bool false, .slice none 0 0, .bool false, .slice none 0 0, .int .i64 0] rfl rfl 56 _ zPy.out (by kernel_rfl) rfl (by kernel_rfl) ?_)
       exact bodyPost_ret (results_row_tmp rfl _ _ w.heap.size 56 #[.string ⟨#[]⟩, .int .u8 0, .bool false, .slice none 0 0, .bool false, .slice none 0 0, .bool false, .slice none 0 0, .bool false, .slice none 0 0, .int .i64 0] _ _ rfl rfl (setRow_heap _ _ _ _ _ _ zPy.out) Tryz.underlying56 rfl (by kernel_rfl)) rfl (.inr ⟨1, hRm.out.trans (by simp), rfl, hEy.out.row (nR _) _⟩)
     have h1' : (1 : Int) < N := by omega
     have hb4 : (4 : Int) < (ws.length : Int) := by have := hn.out; omega
     cases hQ : fracL true (ws.getD 4 []) with
     | error c =>
      have hcb : (c != 0) = true := by have := fracL_code hQ; rw [bne_iff_ne]; omega
      have KX := mK (fun W (e : Ext w W) => frac_badJ T4 c W (by rw [← hT4.out]; exact hwl.out 4) (hM.out W e) (by rw [← hT4.out]; exact hQ))
      have hRt := mK (rt_e2 (M := M) (by rw [← hN.out]; exact h1) hP.out hQ)
      clear hQ h1
      rw [rounds_succ]
      have cw := zS14.out (3 + 1) (by have := hn.out; omega)
      rw [hT4.out] at cw
      have cb := row16_cells zB14.out 1
      replace cb : w14.cell? ⟨w10.heap.size, 1, none⟩ = some (.pointer (some ⟨w.heap.size, 6, none⟩)) := cb
      have tok : Tok 50 := .mk _
      go_wp2_with (first
       | (replace tok : Tok 51 := nxT 50 tok; go_at_call 39; refine (KX.out _ hE14.out).mono ?_; rintro e w33 ⟨g, rfl, hx⟩; clear cw cb; (have zP33 := mK (hx.blk zP14.out)); (have hE33 := hE14.out.trans hx); (obtain ⟨w34, hw34⟩ : ∃ w34, w34 = w33.setRow w.heap.size #[.string T0, .int .u8 kd, .bool f.b1, .slice f.a1 f.n1 f.c1, .bool f.b2, .slice f.a2 f.n2 f.c2, .bool g.b1, .slice g.a1 g.n1 g.c1, .bool g.b2, .slice g.a2 g.n2 g.c2, .int .i64 M] := ⟨_, rfl⟩); (have zP34 := mK (show w34.heap[w.heap.size]? = some (.cells #[.string T0, .int .u8 kd, .bool f.b1, .slice f.a1 f.n1 f.c1, .bool f.b2, .slice f.a2 f.n2 f.c2, .bool g.b1, .slice g.a1 g.n1 g.c1, .bool g.b2, .slice g.a2 g.n2 g.c2, .int .i64 M] 56 (0, 0)) by rw [hw34]; exact setRow_heap _ _ _ _ _ _ zP33.out)); (have hE34 := mK (show Ext w w34 by rw [hw34]; exact hE33.row (nR _) _)); replace hw34 := mK hw34; clear hx hE33)
       | (replace tok : Tok 52 := nxT 51 tok; refine wpList_store_sub rfl 52 (.tmp 96) (.tmp 94) rfl w.heap.size 6 rfl 56 #[.string T0, .int .u8 kd, .bool f.b1, .slice f.a1 f.n1 f.c1, .bool f.b2, .slice f.a2 f.n2 f.c2, .bool q.b1, .slice q.a1 q.n1 q.c1, .bool q.b2, .slice q.a2 q.n2 q.c2, .int .i64 M] #[.string T0, .int .u8 kd, .bool f.b1, .slice f.a1 f.n1 f.c1, .bool f.b2, .slice f.a2 f.n2 f.c2, .bool g.b1, .slice g.a1 g.n1 g.c1, .bool g.b2, .slice g.a2 g.n2 g.c2, .int .i64 M] #[.bool g.b1, .slice g.a1 g.n1 g.c1, .bool g.b2, .slice g.a2 g.n2 g.c2] rfl zP33.out (by kernel_rfl) (by simp) (by kernel_rfl) (by kernel_rfl) ?_; rw [← hw34.out])
       | (replace tok : Tok 53 := nxT 52 tok; refine wpList_store_row rfl 56 (.tmp 2) (.tmp 99) rfl w.heap.size #[.string ⟨#[]⟩, .int .u8 0, .bool false, .slice none 0 0, .bool false, .slice none 0 0, .bool false, .slice none 0 0, .bool false, .slice none 0 0, .int .i64 0] rfl rfl 56 _ zP34.out (by kernel_rfl) rfl (by kernel_rfl) ?_))
      exact bodyPost_ret (results_row_tmp rfl _ _ w.heap.size 56 #[.string ⟨#[]⟩, .int .u8 0, .bool false, .slice none 0 0, .bool false, .slice none 0 0, .bool false, .slice none 0 0, .bool false, .slice none 0 0, .int .i64 0] _ _ rfl rfl (setRow_heap _ _ _ _ _ _ zP34.out) Tryz.underlying56 rfl (by kernel_rfl)) rfl (.inr ⟨_, hR.out.trans (hRt.out), rfl, hE34.out.row (nR _) _⟩)
     | ok Q =>
      have nQ := fracL_nf hQ
      have KF := mK (fun W (e : Ext w W) => frac_okJ T4 Q W (by rw [← hT4.out]; exact hwl.out 4) (hM.out W e) (by rw [← hT4.out]; exact hQ))
      have h2' : ¬ (2 : Int) < N := by omega
      have hRt := mK (rt_ok (ws := ws) (K := kd) (M := M) (p := P) (q := Q) (by rw [decide_eq_true (by rw [← hN.out]; exact h0h.out)]; exact hP.out) (by rw [decide_eq_true (by rw [← hN.out]; exact h1)]; exact hQ))
      clear hQ h1
      rw [rounds_succ]
      have cw := zS14.out (3 + 1) (by have := hn.out; omega)
      rw [hT4.out] at cw
      have cb := row16_cells zB14.out 1
      replace cb : w14.cell? ⟨w10.heap.size, 1, none⟩ = some (.pointer (some ⟨w.heap.size, 6, none⟩)) := cb
      have tok : Tok 26 := .mk _
      go_wp2_with (first
       | (replace tok : Tok (26 + 1) := nxT 26 tok; go_at_call 39; refine (KF.out _ hE14.out).mono ?_; rintro e w15 ⟨g, rfl, hx, hf⟩; clear cw cb; (have zP15 := mK (hx.blk zP14.out)); (have zS15 := zS14.out.ext hx); (have zB15 := mK (hx.blk zB14.out)); (have hp15 := hp14.out.ext hx); (have hq15 := hq14.out.ext hx); (have hE15 := hE14.out.trans hx); (obtain ⟨w16, hw16⟩ : ∃ w16, w16 = w15.setRow w.heap.size #[.string T0, .int .u8 kd, .bool f.b1, .slice f.a1 f.n1 f.c1, .bool f.b2, .slice f.a2 f.n2 f.c2, .bool g.b1, .slice g.a1 g.n1 g.c1, .bool g.b2, .slice g.a2 g.n2 g.c2, .int .i64 M] := ⟨_, rfl⟩); (have zP16 := mK (show w16.heap[w.heap.size]? = some (.cells #[.string T0, .int .u8 kd, .bool f.b1, .slice f.a1 f.n1 f.c1, .bool f.b2, .slice f.a2 f.n2 f.c2, .bool g.b1, .slice g.a1 g.n1 g.c1, .bool g.b2, .slice g.a2 g.n2 g.c2, .int .i64 M] 56 (0, 0)) by rw [hw16]; exact setRow_heap _ _ _ _ _ _ zP15.out)); (have zS16 := mK (zS15.near (show w16.heap[w.heap.size + 1]? = w15.heap[w.heap.size + 1]? by rw [hw16]; exact setRow_other _ _ _ _ (by omega)))); (have zB16 := mK (show w16.heap[w10.heap.size]? = w15.heap[w10.heap.size]? by rw [hw16]; exact setRow_other _ _ _ _ (by have := hb11.out; omega))); replace zB16 := mK (zB16.out.trans zB15.out); (have hl15 := nT hl14.out hx.size); (have hl16 := mK (show w.heap.size + 2 ≤ w16.heap.size by rw [hw16]; simpa using hl15)); (have hp16 := mK (show FracO w16 (w.heap.size + 2) (.agg #[.bool f.b1, .slice f.a1 f.n1 f.c1, .bool f.b2, .slice f.a2 f.n2 f.c2]) _ by rw [hw16]; exact hp15.row (by omega) _)); (have hq16 := mK (show FracO w16 (w.heap.size + 2) (.agg #[.bool q.b1, .slice q.a1 q.n1 q.c1, .bool q.b2, .slice q.a2 q.n2 q.c2]) _ by rw [hw16]; exact hq15.row (by omega) _)); (have hf16 := mK (show FracO w16 (w.heap.size + 2) (.agg #[.bool g.b1, .slice g.a1 g.n1 g.c1, .bool g.b2, .slice g.a2 g.n2 g.c2]) _ by rw [hw16]; exact (hf.mono hl14.out).row (by omega) _)); (have hE16 := mK (show Ext w w16 by rw [hw16]; exact hE15.row (nR _) _)); replace hw16 := mK hw16; clear hx hf hp15 hq15 hE15 hl15 zS15 zB15 zP14 zS14 zB14 hp14 hq14 hE14)
       | (replace tok : Tok (26 + 2) := nxT (26 + 1) tok; refine wpList_store_sub rfl 52 (.tmp 96) (.tmp 94) rfl w.heap.size 6 rfl 56 #[.string T0, .int .u8 kd, .bool f.b1, .slice f.a1 f.n1 f.c1, .bool f.b2, .slice f.a2 f.n2 f.c2, .bool q.b1, .slice q.a1 q.n1 q.c1, .bool q.b2, .slice q.a2 q.n2 q.c2, .int .i64 M] #[.string T0, .int .u8 kd, .bool f.b1, .slice f.a1 f.n1 f.c1, .bool f.b2, .slice f.a2 f.n2 f.c2, .bool g.b1, .slice g.a1 g.n1 g.c1, .bool g.b2, .slice g.a2 g.n2 g.c2, .int .i64 M] #[.bool g.b1, .slice g.a1 g.n1 g.c1, .bool g.b2, .slice g.a2 g.n2 g.c2] rfl zP15.out (by kernel_rfl) (by simp) (by kernel_rfl) (by kernel_rfl) ?_; rw [← hw16.out]))
      clear tok zP15 hw16
      have KM := mK (fun W => may_b T0 kd M (P) (Q) nP nQ W f g)
      have hRm := mK (hR.out.trans hRt.out)
      obtain ⟨B, hB⟩ : ∃ B, B = mayP kd M (some (P)) (some (Q)) := ⟨_, rfl⟩
      rw [← hB] at KM hRm
      rw [← hT0.out] at hRm
      replace hB := mK hB
      rw [rounds_succ]
      have tok : Tok 30 := .mk _
      go_wp2_with (first
       | (replace tok : Tok 31 := nxT 30 tok; refine wpList_load_row (by rfl) 56 (.tmp 2) rfl w.heap.size rfl 56 #[.string T0, .int .u8 kd, .bool f.b1, .slice f.a1 f.n1 f.c1, .bool f.b2, .slice f.a2 f.n2 f.c2, .bool g.b1, .slice g.a1 g.n1 g.c1, .bool g.b2, .slice g.a2 g.n2 g.c2, .int .i64 M] (0, 0) _ zP16.out Tryz.underlying56 rfl (by kernel_rfl) ?_)
       | (replace tok : Tok 32 := nxT 31 tok; go_at_call 40; refine (KM.out _ hp16.out.r hf16.out.r).mono ?_; rintro e w22 ⟨rfl, hx⟩; (have zPy := mK (hx.blk zP16.out)); (have hEy := mK (hE16.out.trans hx)); (have hpy := mK (hp16.out.ext hx)); (have hqy := mK (hf16.out.ext hx)); clear hx; refine stopS ?_))
      unfold StopS
      cases B with
      | true =>
       go_wp2_with (first
        | (replace tok : Tok 33 := nxT 32 tok; refine wpList_load_row (by rfl) 56 (.tmp 2) rfl w.heap.size rfl 56 #[.string T0, .int .u8 kd, .bool f.b1, .slice f.a1 f.n1 f.c1, .bool f.b2, .slice f.a2 f.n2 f.c2, .bool g.b1, .slice g.a1 g.n1 g.c1, .bool g.b2, .slice g.a2 g.n2 g.c2, .int .i64 M] (0, 0) _ zPy.out Tryz.underlying56 rfl (by kernel_rfl) ?_)
        | (replace tok : Tok 34 := nxT 33 tok; refine wpList_store_row rfl 56 (.tmp 2) (.tmp 106) rfl w.heap.size #[.string T0, .int .u8 kd, .bool f.b1, .slice f.a1 f.n1 f.c1, .bool f.b2, .slice f.a2 f.n2 f.c2, .bool g.b1, .slice g.a1 g.n1 g.c1, .bool g.b2, .slice g.a2 g.n2 g.c2, .int .i64 M] rfl rfl 56 _ zPy.out (by kernel_rfl) rfl (by kernel_rfl) ?_))
       refine bodyPost_ret (results_row_tmp rfl _ _ w.heap.size 56 #[.string T0, .int .u8 kd, .bool f.b1, .slice f.a1 f.n1 f.c1, .bool f.b2, .slice f.a2 f.n2 f.c2, .bool g.b1, .slice g.a1 g.n1 g.c1, .bool g.b2, .slice g.a2 g.n2 g.c2, .int .i64 M] _ _ rfl rfl (setRow_heap _ _ _ _ _ _ zPy.out) Tryz.underlying56 rfl (by kernel_rfl)) rfl ?_
       exact .inl ⟨⟨T0, kd, P, Q, M⟩, hRm.out.trans (by simp), f, g, rfl, (hpy.out.row (by omega) _).mono (by omega), (hqy.out.row (by omega) _).mono (by omega), hEy.out.row (nR _) _⟩
      | false =>
       go_wp2_with (refine wpList_store_row rfl 56 (.tmp 2) (.tmp 105) rfl w.heap.size #[.string ⟨#[]⟩, .int .u8 0, .bool false, .slice none 0 0, .bool false, .slice none 0 0, .bool false, .slice none 0 0, .bool false, .slice none 0 0, .int .i64 0] rfl rfl 56 _ zPy.out (by kernel_rfl) rfl (by kernel_rfl) ?_)
       exact bodyPost_ret (results_row_tmp rfl _ _ w.heap.size 56 #[.string ⟨#[]⟩, .int .u8 0, .bool false, .slice none 0 0, .bool false, .slice none 0 0, .bool false, .slice none 0 0, .bool false, .slice none 0 0, .int .i64 0] _ _ rfl rfl (setRow_heap _ _ _ _ _ _ zPy.out) Tryz.underlying56 rfl (by kernel_rfl)) rfl (.inr ⟨1, hRm.out.trans (by simp), rfl, hEy.out.row (nR _) _⟩)
end Go.Proofs.YtjelnmokcpoofaaGreatDoor
