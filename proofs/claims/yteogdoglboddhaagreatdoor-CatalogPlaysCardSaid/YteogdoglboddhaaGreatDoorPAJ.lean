/-
  DERIVED: THE SHELF's CONTRACTS AT THIS DUMP, IN PLAIN WORDS (tools/lay-plain.mjs out of 'YteogdoglboddhaaGreatDoorIterT.lean', which tools/lay-shelf.mjs wrote): THE SAME DECLARATIONS UNDER THE SAME NAMES: 'import', 'namespace', 'open', 'def', 'theorem' AND NOTHING ELSE: no command of the shelf's: FOR A HAND-IN. Each laying: the table of numbers ('.._ren') and one theorem, a field a fact of the dump's own or the kernel's comparison; each contract: ONE APPLICATION. The catalogue's All: its parts by their names, rising, each in rows of its own. The lens whose power is nearest, as a plain matter: the program's way (the first least of those that are lenses) and the reference's (one look along the list) are one. A list of parts in one row: loads, stores, what is cleared; the closure that tells what is no lens; slices.IndexFunc. slices.DeleteFunc at parts: what is no lens goes. The reference's catalogue: a list of parts that can be read, names rising; where a name stands. The reference's Name. The reference's own, Own: a part in new rows: printed by tools/gen_own.py. The reference's Put: what it is on lists; an append of a part of a list. Decimal digits by parts of nine: no program. strings.Builder at this dump: copyCheck, WriteString, WriteByte (after the shelf's own proofs, whose texts do not fit this dump's copyCheck: its panic bears another word). The digits of a number out of its parts: no program.
-/
import Derived.Test.YteogdoglboddhaaGreatDoorPAI
import Derived.Shelf.SlIter.Nil
import Derived.Shelf.SortM.Plain
import Derived.Shelf.SortM.SortNone
import Derived.Ground.GgzProg
import Derived.Ground.SlgmProg
import Derived.Test.YteogdoglboddhaaGreatDoorProg
import Derived.Shelf.SlGeneric
import Derived.Test.YteogdoglboddhaaGreatDoorPAG
import Derived.Test.YteogdoglboddhaaGreatDoorPAE
import Derived.Lib.Bytealg
import Derived.LoopN
import Derived.Test.YteogdoglboddhaaGreatDoorPAA
import Derived.Lib.ItoaNum
import Derived.Shelf.Strings.Builder1
set_option maxHeartbeats 6400000
namespace Go.Proofs
open Go.Shelf Go.RowKit Go.Maps Go.Sort
def Tryz.keys32_ren:Go.Shelf.Ren:=⟨fun|7=>32|10=>119|n=>n,fun|23=>70|26=>9|3=>58|28=>91|0=>0|27=>90|33=>97|4=>4|n=>n,fun|n=>n⟩
theorem Tryz.keys32:Go.Proofs.SlLaysZ.n7 Tryz.prog Tryz.keys32_ren:={
 mixed:=by kernel_rfl
 f7:=⟨Tryz.f32.name,by decide,Tryz.func32.trans (congrArg some (by kernel_rfl))⟩
 f10:=⟨Tryz.f119.name,by decide,Tryz.func119.trans (congrArg some (by kernel_rfl))⟩
 t0:=Tryz.underlying0
 a0:=Tryz.isAgg0
 z0:=Tryz.sizeOf0
 v0:=Tryz.zeroValue0
 t4:=Tryz.underlying4
 a4:=Tryz.isAgg4
 z4:=Tryz.sizeOf4
 v4:=Tryz.zeroValue4
 t23:=Tryz.underlying70
 a23:=Tryz.isAgg70
 z23:=Tryz.sizeOf70
 v23:=Tryz.zeroValue70
 t26:=Tryz.underlying9
 a26:=Tryz.isAgg9
 z26:=Tryz.sizeOf9
 v26:=Tryz.zeroValue9
 t27:=Tryz.underlying90
 a27:=Tryz.isAgg90
 z27:=Tryz.sizeOf90
 v27:=Tryz.zeroValue90
 t28:=Tryz.underlying91
 a28:=Tryz.isAgg91
 z28:=Tryz.sizeOf91
 v28:=Tryz.zeroValue91
 t33:=Tryz.underlying97
 a33:=Tryz.isAgg97
 z33:=Tryz.sizeOf97
 v33:=Tryz.zeroValue97 }
def Tryz.sorted31_ren:Go.Shelf.Ren:=⟨fun|6=>31|8=>117|9=>118|11=>187|13=>189|12=>188|23=>238|24=>239|14=>229|15=>230|16=>231|17=>232|18=>233|19=>234|20=>235|21=>236|22=>237|25=>264|26=>265|27=>266|28=>267|29=>268|30=>269|31=>284|n=>n,fun|26=>9|28=>91|24=>88|0=>0|3=>3|37=>246|48=>136|50=>264|4=>4|40=>276|39=>275|45=>99|5=>5|9=>9|51=>299|55=>303|57=>313|58=>314|33=>97|n=>n,fun|n=>n⟩
theorem Tryz.sorted31:Go.Proofs.SlLaysZ.n6 Tryz.prog Tryz.sorted31_ren:={
 mixed:=by kernel_rfl
 f6:=⟨Tryz.f31.name,by decide,Tryz.func31.trans (congrArg some (by kernel_rfl))⟩
 f8:=⟨Tryz.f117.name,by decide,Tryz.func117.trans (congrArg some (by kernel_rfl))⟩
 f11:=⟨Tryz.f187.name,by decide,Tryz.func187.trans (congrArg some (by kernel_rfl))⟩
 t0:=Tryz.underlying0
 a0:=Tryz.isAgg0
 z0:=Tryz.sizeOf0
 v0:=Tryz.zeroValue0
 t24:=Tryz.underlying88
 a24:=Tryz.isAgg88
 z24:=Tryz.sizeOf88
 v24:=Tryz.zeroValue88
 t26:=Tryz.underlying9
 a26:=Tryz.isAgg9
 z26:=Tryz.sizeOf9
 v26:=Tryz.zeroValue9
 t28:=Tryz.underlying91
 a28:=Tryz.isAgg91
 z28:=Tryz.sizeOf91
 v28:=Tryz.zeroValue91
 i26:=by kernel_rfl }
def Tryz.sort118_ren:Go.Shelf.Ren:=⟨fun|6=>118|8=>189|9=>188|19=>238|20=>239|21=>229|22=>230|23=>231|24=>232|25=>233|26=>234|27=>235|28=>236|29=>237|36=>264|31=>265|32=>266|37=>267|38=>268|39=>269|41=>284|n=>n,fun|27=>88|29=>9|3=>3|32=>246|26=>88|0=>0|44=>136|46=>264|4=>4|36=>276|35=>275|41=>99|5=>5|9=>9|53=>299|57=>303|63=>313|64=>314|n=>n,fun|n=>n⟩
theorem Tryz.sort118:Go.Proofs.SlLaysM.n6 Tryz.prog Tryz.sort118_ren:={
 mixed:=by kernel_rfl
 f6:=⟨Tryz.f118.name,by decide,Tryz.func118.trans (congrArg some (by kernel_rfl))⟩
 f8:=Tryz.func189.trans (congrArg some (by kernel_rfl))
 f9:=⟨Tryz.f188.name,by decide,Tryz.func188.trans (congrArg some (by kernel_rfl))⟩
 f19:=Tryz.func238.trans (congrArg some (by kernel_rfl))
 f20:=Tryz.func239.trans (congrArg some (by kernel_rfl))
 f21:=⟨Tryz.f229.name,by decide,Tryz.func229.trans (congrArg some (by kernel_rfl))⟩
 f22:=⟨Tryz.f230.name,by decide,Tryz.func230.trans (congrArg some (by kernel_rfl))⟩
 f23:=⟨Tryz.f231.name,by decide,Tryz.func231.trans (congrArg some (by kernel_rfl))⟩
 f24:=⟨Tryz.f232.name,by decide,Tryz.func232.trans (congrArg some (by kernel_rfl))⟩
 f25:=⟨Tryz.f233.name,by decide,Tryz.func233.trans (congrArg some (by kernel_rfl))⟩
 f26:=⟨Tryz.f234.name,by decide,Tryz.func234.trans (congrArg some (by kernel_rfl))⟩
 f27:=⟨Tryz.f235.name,by decide,Tryz.func235.trans (congrArg some (by kernel_rfl))⟩
 f28:=⟨Tryz.f236.name,by decide,Tryz.func236.trans (congrArg some (by kernel_rfl))⟩
 f29:=⟨Tryz.f237.name,by decide,Tryz.func237.trans (congrArg some (by kernel_rfl))⟩
 f31:=Tryz.func265.trans (congrArg some (by kernel_rfl))
 f32:=Tryz.func266.trans (congrArg some (by kernel_rfl))
 f36:=⟨Tryz.f264.name,by decide,Tryz.func264.trans (congrArg some (by kernel_rfl))⟩
 f37:=⟨Tryz.f267.name,by decide,Tryz.func267.trans (congrArg some (by kernel_rfl))⟩
 f38:=⟨Tryz.f268.name,by decide,Tryz.func268.trans (congrArg some (by kernel_rfl))⟩
 f39:=⟨Tryz.f269.name,by decide,Tryz.func269.trans (congrArg some (by kernel_rfl))⟩
 f41:=⟨Tryz.f284.name,by decide,Tryz.func284.trans (congrArg some (by kernel_rfl))⟩
 t0:=Tryz.underlying0
 a0:=Tryz.isAgg0
 z0:=Tryz.sizeOf0
 v0:=Tryz.zeroValue0
 t3:=Tryz.underlying3
 a3:=Tryz.isAgg3
 z3:=Tryz.sizeOf3
 v3:=Tryz.zeroValue3
 t4:=Tryz.underlying4
 a4:=Tryz.isAgg4
 z4:=Tryz.sizeOf4
 v4:=Tryz.zeroValue4
 t5:=Tryz.underlying5
 a5:=Tryz.isAgg5
 z5:=Tryz.sizeOf5
 v5:=Tryz.zeroValue5
 t9:=Tryz.underlying9
 a9:=Tryz.isAgg9
 z9:=Tryz.sizeOf9
 v9:=Tryz.zeroValue9
 t26:=Tryz.underlying88
 a26:=Tryz.isAgg88
 z26:=Tryz.sizeOf88
 v26:=Tryz.zeroValue88
 t27:=Tryz.underlying88
 a27:=Tryz.isAgg88
 z27:=Tryz.sizeOf88
 v27:=Tryz.zeroValue88
 t29:=Tryz.underlying9
 a29:=Tryz.isAgg9
 z29:=Tryz.sizeOf9
 v29:=Tryz.zeroValue9
 t32:=Tryz.underlying246
 a32:=Tryz.isAgg246
 z32:=Tryz.sizeOf246
 v32:=Tryz.zeroValue246
 t35:=Tryz.underlying275
 a35:=Tryz.isAgg275
 z35:=Tryz.sizeOf275
 v35:=Tryz.zeroValue275
 t36:=Tryz.underlying276
 a36:=Tryz.isAgg276
 z36:=Tryz.sizeOf276
 v36:=Tryz.zeroValue276
 t41:=Tryz.underlying99
 a41:=Tryz.isAgg99
 z41:=Tryz.sizeOf99
 v41:=Tryz.zeroValue99
 t44:=Tryz.underlying136
 a44:=Tryz.isAgg136
 z44:=Tryz.sizeOf136
 v44:=Tryz.zeroValue136
 t46:=Tryz.underlying264
 a46:=Tryz.isAgg264
 z46:=Tryz.sizeOf264
 v46:=Tryz.zeroValue264
 t53:=Tryz.underlying299
 a53:=Tryz.isAgg299
 z53:=Tryz.sizeOf299
 v53:=Tryz.zeroValue299
 t57:=Tryz.underlying303
 a57:=Tryz.isAgg303
 z57:=Tryz.sizeOf303
 v57:=Tryz.zeroValue303
 t63:=Tryz.underlying313
 a63:=Tryz.isAgg313
 z63:=Tryz.sizeOf313
 v63:=Tryz.zeroValue313
 t64:=Tryz.underlying314
 a64:=Tryz.isAgg314
 z64:=Tryz.sizeOf314
 v64:=Tryz.zeroValue314 }
theorem Tryz.sorts31 (m:Nat):AnyZ.SortsIn Tryz.prog Tryz.sorted31_ren Fence.wide m:=
 ⟨fun blk off cap ss W hH hblk hsz=>callsIn_wide.2 (AnyM.slices_Sort_string Tryz.sort118 blk off cap ss W hH hblk hsz),
 fun p cap W=>callsIn_wide.2 (AnyM.slices_Sort_string_none Tryz.sort118 p cap W)⟩

theorem Tryz.maps_Keys_32 (mb:Option Nat)(W:World):CallsIn Fence.wide 5 Tryz.prog 32 #[.map mb] W fun e w'=>e=.returned (.func (.func 119) #[] #[.pointer (some ⟨W.heap.size,0,none⟩)])∧w'=W.alloc (.cells #[.map mb] 70):=
 AnyZ.keys_in Tryz.keys32 Fence.wide 5 trivial rfl mb W

theorem Tryz.slices_Sorted_keys_31_32 {H:Type}(b nn:Nat)(D0:DataW H)(R:Value→Option (DataW H×List MemPlace))(w:World)(hown:w.ownsMap Tryz.prog 9 R b nn D0)(hmax:Maps.size D0≤maxLen)(hbytes:Maps.size D0*16≤140737488355328) :
  CallsIn Fence.wide 5 Tryz.prog 31 #[.func (.func 119) #[] #[.pointer (some ⟨w.heap.size,0,none⟩)]] (w.alloc (.cells #[.map (some b)] 70)) fun e w'=>∃ (v:Value) (ss:List (List UInt8)),e=.returned v∧ss.Perm (strKeys D0) ∧
   w'.ownsRow (w.alloc (.cells #[.map (some b)] 70)).heap.size 9 1 v ss.length ((ss.mergeSort (fun x y=>decide (x≤y))).map encStr)∧(v=.slice none 0 0↔ss=[])∧Below (w.alloc (.cells #[.map (some b)] 70)).heap.size (w.alloc (.cells #[.map (some b)] 70)) w':=by
 have hbl:=hown.lt
 have hseq:SeqGives Fence.wide 2 Tryz.prog 119 #[.pointer (some ⟨w.heap.size,0,none⟩)] encStr (fun ss=>ss.Perm (strKeys D0)) (Maps.size D0) (w.alloc (.cells #[.map (some b)] 70)):=
  AnyZ.keys_gives (ρ:=Tryz.keys32_ren) { Tryz.keys32 with } Fence.wide _ trivial rfl (by omega) w.heap.size b nn D0 _ (by simp) (by simp) (by
   obtain ⟨es,clock,hb,Ft,hs,hD⟩:=hown
   exact ⟨es,clock,(Below.heap_alloc _ _ b hbl).trans hb,Ft,hs,hD⟩)
 exact AnyZ.sorted_in Tryz.sorted31 Fence.wide 5 trivial trivial trivial trivial rfl (by omega) (Tryz.sorts31 _) (enters_of Tryz.func118 (by kernel_rfl) rfl) 119 #[.pointer (some ⟨w.heap.size,0,none⟩)] trivial (enters_of Tryz.func119 (by kernel_rfl) rfl) _ _ hmax hbytes _ hseq

end Go.Proofs
namespace Go.Proofs.YteogdoglboddhaaGreatDoor
set_option maxRecDepth 100000
open Go Go.RowKit Go.Proofs
def AllR (w1:World)(es:List (PD×Value))(t3 t15:Value)(wr:World):Prop:=
 ∃ (os:List (PD×Value)) (k:Nat),k≤es.length∧t15=.int .i64 k∧os.length=k∧os.map (·.1)=(es.take k).map (·.1)∧OutP w1.heap.size wr t3 os∧Ext w1 wr
def AllQ (w:World)(es:List (PD×Value))(e:Ending)(w':World):Prop:=∃ v os,e=.returned v∧OutP w.heap.size w' v os∧os.map (·.1)=es.map (·.1)∧Ext w w'
theorem Aep {w:World}{b o:Nat}{es:List (PD×Value)}(h:Row w (some ⟨b,o,none⟩) ((es.map fun x=>x.1.nm.data.toList).map encStr))(j:Nat)(hj:j<es.length) :
  w.cell? ⟨b,o+j,none⟩=some (.string es[j].1.nm):=by
 obtain ⟨b',o',e,hc⟩:=h;have e:=e (by intro e;simp at e;simp [e] at hj);cases e;rw [hc j (by simpa using hj)];simp [List.getD_eq_getElem?_getD,hj]
theorem Tm (w:World)(g M:Nat)(es:List (PD×Value))(h:Cat w g M es) :
  Calls Tryz.prog 8 #[.pointer (some ⟨g,0,none⟩)] w (AllQ w es):=by
 obtain ⟨i0,hi,hz0,hz1,hz2⟩:=info_parts Qk;have hG:=mK (Dx g M w h.str);have cg:=cell0 h.str;have hKS:=mK (callsIn_wide.1 (Tryz.maps_Keys_32 (some M) w));have hSS:=mK (callsIn_wide.1 (Tryz.slices_Sorted_keys_31_32 M es.length (.map (es.map entM)) Su w h.map (by rw [Maps.size_eq,List.length_map];have:=h.few;unfold maxLen;omega) (by rw [Maps.size_eq,List.length_map];have:=h.few;omega)));have hri:=mK h.map.rising;have hC:=mK (fun W (e:Ext w W)=>h.ext e);have hfew:=h.few;clear h;go_enter Tryz.func8,Tryz.ntmps8;have tok:Tok 0:=.mk _
 go_wp2_with (first
  | (replace tok:Tok 1:=nxT 0 tok;go_at_call 30;refine hG.out.mono ?_;rintro e w' ⟨rfl,rfl⟩)
  | (replace tok:Tok 2:=nxT 1 tok;go_at_call 32;refine hKS.out.mono ?_;rintro e w' ⟨rfl,rfl⟩)
  | (replace tok:Tok 3:=nxT 2 tok;go_at_call 31;refine hSS.out.mono ?_;rintro e w1 ⟨v,ss,rfl,hp,hrow,hnil,hB⟩;(obtain ⟨a,c,rfl,hca,hrw⟩:=Bz hrow);rw [Uk hri.out hp] at hrw;(have hlen:ss.length=es.length:=by (have:=hp.length_eq;simpa [strKeys] using this));rw [hlen] at hca ⊢;(have hE1:=mK (((xR w).al (.cells #[.map (some M)] 70)).trans hB));replace hrw:=mK hrw;replace hca:=mK hca;clear hp hrow hnil hB hlen))
 clear tok hKS hSS hG cg hri;have st:Hid (AllR w1 es (.slice none 0 0) (.int .i64 0) w1):=⟨[],0,Nat.zero_le _,rfl,rfl,by simp,Ae7 _ _,xR _⟩
 go_loopw [3,15] (fun t3 t15 wr=>AllR w1 es t3 t15 wr) (fun _ i _=>es.length-(intOf i).toNat)
 case atStart=>exact st.out
 case round=>
  clear st;obtain ⟨os,k,hk,rfl,hol,hmap,hO,hEr⟩:=hrel;obtain ⟨w2,rfl⟩:=nmE (wr:World);by_cases hlt:k<es.length
  ·have hxm:es[k]∈es:=List.getElem_mem hlt
   obtain ⟨d,v,hdv⟩:∃ d v,es[k]=(d,v):=⟨_,_,rfl⟩
   have hCw:=hC.out w2 (hE1.out.trans hEr);rw [hdv] at hxm;obtain ⟨p,q,e0,-,-⟩:=(hCw.part _ hxm).fv;have e0':v=.agg #[.string d.nm,.int .u8 d.kd,.bool p.b1,.slice p.a1 p.n1 p.c1,.bool p.b2,.slice p.a2 p.n2 p.c2,.bool q.b1,.slice q.a1 q.n1 q.c1,.bool q.b2,.slice q.a2 q.n2 q.c2,.int .i64 d.co]:=e0;subst e0'
   obtain ⟨b,o,rfl⟩:∃ b o,a=some ⟨b,o,none⟩:=by
    obtain ⟨b,o,e,_⟩:=hrw.out;exact ⟨b,o,e (by intro e;simp at e;rw [e] at hlt;simp at hlt)⟩
   have hcell:=Aep (hrw.out.ext hEr) k hlt;rw [hdv] at hcell;replace hcell:w2.cell? ⟨b,o+k,none⟩=some (.string d.nm):=hcell
   have hnm:d.nm.size≤9223372036854775807:=by
    have:=(hCw.ok _ hxm).2.2.1;unfold Co at this;simp only [Bool.and_eq_true,decide_eq_true_eq] at this;have:=this.2.1;rw [Array.length_toList] at this;show d.nm.data.size≤_
    omega
   have hlk:=hCw.map.look1 d.nm hnm;rw [Ta hCw.map.rising hxm] at hlk;replace hlk:(Instr.lookup 70 (.map (some M)) (.string d.nm) false).run Tryz.prog w2=.ok (.agg #[.string d.nm,.int .u8 d.kd,.bool p.b1,.slice p.a1 p.n1 p.c1,.bool p.b2,.slice p.a2 p.n2 p.c2,.bool q.b1,.slice q.a1 q.n1 q.c1,.bool q.b2,.slice q.a2 q.n2 q.c2,.int .i64 d.co]) w2:=hlk;have cg2:=cell0 hCw.str;have hK:=mK (Qv (.agg #[.string d.nm,.int .u8 d.kd,.bool p.b1,.slice p.a1 p.n1 p.c1,.bool p.b2,.slice p.a2 p.n2 p.c2,.bool q.b1,.slice q.a1 q.n1 q.c1,.bool q.b2,.slice q.a2 q.n2 q.c2,.int .i64 d.co]) d w2 (nT (hCw.ok _ hxm).1 (by decide)) (nT (hCw.ok _ hxm).2.1 (by decide)) (hCw.part _ hxm));have hlt':(k:Int)<(es.length:Int):=by omega
   replace hO:=mK hO;replace hEr:=mK hEr;replace hdv:=mK hdv;replace hmap:=mK hmap;replace hol:=mK hol;clear hCw hxm e0 hnm;have tok:Tok 10:=.mk _
   go_wp2_with (first
    | (replace tok:Tok 11:=nxT 10 tok;go_at_call 33;refine hK.out.mono ?_;rintro e w3 ⟨v3,rfl,hE3,hv3⟩;(obtain ⟨p',q',rfl,-,-⟩:=hv3.r.fv);replace hE3:=mK hE3;replace hv3:=mK hv3)
    | (replace tok:Tok 12:=nxT 11 tok;at_builtin;(have X:=hO.out.ext hE3.out);(have Z:=X.row.alloc (.cells #[.string d.nm,.int .u8 d.kd,.bool p'.b1,.slice p'.a1 p'.n1 p'.c1,.bool p'.b2,.slice p'.a2 p'.n2 p'.c2,.bool q'.b1,.slice q'.a1 q'.n1 q'.c1,.bool q'.b2,.slice q'.a2 q'.n2 q'.c2,.int .i64 d.co] 58));(have U:=Tryz.underlying26);refine wpList_append_own_at _ ?ya ?yb ?yc 26 ?yd w1.heap.size 58 i0 zeroPart 11 160 U hi hz0 hz1 hz2 ?ye ?yf u3 os.length (Af os) ?yh Z ⟨w3.heap.size,0,none⟩ 1 1 [.string d.nm,.int .u8 d.kd,.bool p'.b1,.slice p'.a1 p'.n1 p'.c1,.bool p'.b2,.slice p'.a2 p'.n2 p'.c2,.bool q'.b1,.slice q'.a1 q'.n1 q'.c1,.bool q'.b2,.slice q'.a2 q'.n2 q'.c2,.int .i64 d.co] ?yi ?yj ?zc1 ?zc2 ?zc3 ?zc4 ?zc5 ?_;(case ya=>rfl);(case yd=>rfl);(case ye=>rfl);(case yf=>decide);(case yh=>rfl);(case yi=>rfl);(case yj=>rfl);(case zc1=>exact Jq w3 _ _);(case zc2=>exact Hv d p' q');(case zc3=>have:=hol.out;unfold maxLen;omega);(case zc4=>have:=hol.out;omega);(case zc5=>have:=hEr.out.size;have:=hE3.out.size;rw [World.size_alloc];omega);intro v4 w4 hown4 hgrow4 _ hloc4;clear X Z U;replace hown4:=mK hown4;replace hgrow4:=mK hgrow4;replace hloc4:=mK hloc4))
   have hx:=(hE3.out.al (.cells #[.string d.nm,.int .u8 d.kd,.bool p'.b1,.slice p'.a1 p'.n1 p'.c1,.bool p'.b2,.slice p'.a2 p'.n2 p'.c2,.bool q'.b1,.slice q'.a1 q'.n1 q'.c1,.bool q'.b2,.slice q'.a2 q'.n2 q'.c2,.int .i64 d.co] 58))
   have hO4:=hO.out.snoc hEr.out.size hx (hv3.out.ext ((xR w3).al _)) hown4.out hgrow4.out hloc4.out;have hE4:Ext w1 w4:=(hEr.out.trans hx).gr hgrow4.out fun k e=>(hO.out.ownLt k e).1
   have hm4:(os++[(d,Value.agg #[.string d.nm,.int .u8 d.kd,.bool p'.b1,.slice p'.a1 p'.n1 p'.c1,.bool p'.b2,.slice p'.a2 p'.n2 p'.c2,.bool q'.b1,.slice q'.a1 q'.n1 q'.c1,.bool q'.b2,.slice q'.a2 q'.n2 q'.c2,.int .i64 d.co])]).map (·.1)=(es.take (k+1)).map (·.1):=by
    rw [List.map_append,hmap.out,List.take_succ_eq_append_getElem hlt,List.map_append,hdv.out];rfl
   refine ⟨⟨_,k+1,by omega,by go_num,by simp [hol.out],hm4,hO4,hE4⟩,by simp [intOf];omega⟩
  ·have hk2:k=es.length:=by omega
   subst hk2;rw [List.take_length] at hmap;replace hO:=mK hO;replace hEr:=mK hEr;replace hmap:=mK hmap;clear hol;go_wp2_with fail;go_ret;exact ⟨_,os,rfl,hO.out.mono hE1.out.size,hmap.out,hE1.out.trans hEr.out⟩
def rabs (q:Rat):Rat:=if q.num<0 then -q else q
def cS (a b:Rat):Int:=(a.num*b.den-b.num*a.den).sign
def offP (x:Rat)(d:PD):Rat:=rabs (d.p-x)
def bef (a b:PD):Bool:=bytesBefore a.nm.data.toList b.nm.data.toList
def Gd (x:Rat)(d b:PD):Bool:=decide (cS (offP x d) (offP x b)<0)||(decide (cS (offP x d) (offP x b)=0)&&decide (d.co<b.co))
def orI (a b c:Int):Int:=if a≠0 then a else if b≠0 then b else c
def cmpI (a b:Int):Int:=if a<b then -1 else if a > b then 1 else 0
def cmp3 (x:Rat)(d b:PD):Int:=orI (cS (offP x d) (offP x b)) (cmpI d.co b.co) (Lib.compareBytes d.nm.data.toList b.nm.data.toList)
theorem Jf:∀ (a b:List UInt8),bytesBefore a b=true→Lib.compareBytes b a=1
 | [],[],h=>by simp [bytesBefore] at h
 | [],_::_,_=>rfl
 | _::_,[],h=>by simp [bytesBefore] at h
 | a::r,b::s,h=>by
  simp only [bytesBefore,Bool.or_eq_true,decide_eq_true_eq,Bool.and_eq_true,beq_iff_eq] at h
  show (if b<a then (-1:Int) else if a<b then 1 else Lib.compareBytes s r)=1
  rcases h with h|⟨rfl,h⟩
  ·have h':¬b<a:=by rw [UInt8.lt_iff_toNat_lt] at h ⊢;omega
   rw [if_neg h',if_pos h]
  ·have h':¬a<a:=by rw [UInt8.lt_iff_toNat_lt];omega
   rw [if_neg h',if_neg h',Jf r s h]
theorem Agd (a b:Rat):cS a b = -1∨cS a b=0∨cS a b=1:=by
 unfold cS;rcases Int.lt_trichotomy (a.num*b.den-b.num*a.den) 0 with h|h|h
 ·exact .inl (Int.sign_eq_neg_one_of_neg h)
 ·exact .inr (.inl (by rw [h];rfl))
 ·exact .inr (.inr (Int.sign_eq_one_of_pos h))
theorem Adq (x:Rat)(d b:PD)(h:bef b d=true):decide (cmp3 x d b<0)=Gd x d b:=by
 have hc:=Jf _ _ h;unfold cmp3 Gd orI;rw [hc];rcases Agd (offP x d) (offP x b) with e|e|e
 ·rw [e];rfl
 ·rw [e]
  unfold cmpI;by_cases h1:d.co<b.co
  ·simp [h1]
  ·by_cases h2:d.co > b.co
   ·simp [h1,h2]
   ·simp [h1,h2]
 ·rw [e];rfl
def lensB (d:PD):Bool:=d.kd==2
def minF (x:Rat)(m:PD)(l:List PD):PD:=l.foldl (fun m d=>if cmp3 x d m<0 then d else m) m
def Bn (x:Rat):Option PD→List PD→Option PD
 | o,[]=>o
 | o,d::r=>if lensB d then (match o with|none=>Bn x (some d) r|some b=>Bn x (some (if Gd x d b then d else b)) r) else Bn x o r
theorem It (x:Rat):∀ (l:List PD) (m:PD),(∀ d∈l,bef m d=true)→l.Pairwise (fun a b=>bef a b=true)→Bn x (some m) l=some (minF x m (l.filter lensB))
 | [],m,_,_=>rfl
 | d::r,m,h1,h2=>by
  obtain ⟨h3,h4⟩:=List.pairwise_cons.1 h2
  unfold Bn
  by_cases hl:lensB d=true
  ·rw [if_pos hl,List.filter_cons_of_pos hl]
   have hc:=Adq x d m (h1 d (List.mem_cons_self ..))
   show Bn x (some (if Gd x d m then d else m)) r=some (minF x (if cmp3 x d m<0 then d else m) (r.filter lensB))
   by_cases h5:cmp3 x d m<0
   ·rw [decide_eq_true h5] at hc
    rw [←hc,if_pos rfl,if_pos h5]
    exact It x r d h3 h4
   ·rw [decide_eq_false h5] at hc
    rw [←hc,if_neg (by simp),if_neg h5]
    exact It x r m (fun e he=>h1 e (List.mem_cons_of_mem _ he)) h4
  ·rw [if_neg hl,List.filter_cons_of_neg hl]
   exact It x r m (fun e he=>h1 e (List.mem_cons_of_mem _ he)) h4
theorem Mj (x:Rat):∀ (l:List PD),l.Pairwise (fun a b=>bef a b=true)→Bn x none l=match l.filter lensB with | []=>none|m::r=>some (minF x m r)
 | [],_=>rfl
 | d::r,h=>by
  obtain ⟨h3,h4⟩:=List.pairwise_cons.1 h
  unfold Bn
  by_cases hl:lensB d=true
  ·rw [if_pos hl,List.filter_cons_of_pos hl]
   exact It x r d h3 h4
  ·rw [if_neg hl,List.filter_cons_of_neg hl]
   exact Mj x r h4
def AllV (os:List (PD×Value)):Prop:=∀ x∈os,∃ p q:FV,x.2=.agg #[.string x.1.nm,.int .u8 x.1.kd,.bool p.b1,.slice p.a1 p.n1 p.c1,.bool p.b2,.slice p.a2 p.n2 p.c2,.bool q.b1,.slice q.a1 q.n1 q.c1,.bool q.b2,.slice q.a2 q.n2 q.c2,.int .i64 x.1.co]
theorem OutP.allV {lo:Nat}{w:World}{s:Value}{os:List (PD×Value)}(h:OutP lo w s os):AllV os:=fun x hx=>by
 obtain ⟨p,q,e,-,-⟩:=(h.part x hx).r.fv
 exact ⟨p,q,e⟩
theorem Cd (a b:List (PD×Value)):Af (a++b)=Af a++Af b:=by simp [Af]
theorem Cn:∀ {os:List (PD×Value)},AllV os→(Af os).length=os.length*11
 | [],_=>rfl
 | x::r,h=>by
  obtain ⟨p,q,e⟩:=h x (List.mem_cons_self ..)
  have ih:=Cn (os:=r) fun y hy=>h y (List.mem_cons_of_mem _ hy)
  have:Af (x::r)=x.2.cells.toList++Af r:=rfl
  rw [this,List.length_append,ih,e,List.length_cons]
  show 11+_=_
  omega
theorem AllV.take {os:List (PD×Value)}(h:AllV os)(i:Nat):AllV (os.take i):=fun x hx=>h x (List.mem_of_mem_take hx)
theorem AllV.drop {os:List (PD×Value)}(h:AllV os)(i:Nat):AllV (os.drop i):=fun x hx=>h x (List.mem_of_mem_drop hx)
theorem Hr {os:List (PD×Value)}(h:AllV os){i:Nat}(hi:i<os.length):Af os=Af (os.take i)++(os[i].2.cells.toList++Af (os.drop (i+1)))∧(Af (os.take i)).length=i*11:=by
 refine ⟨?_,?_⟩
 ·rw [show os[i].2.cells.toList++Af (os.drop (i+1))=Af (os.drop i) by rw [List.drop_eq_getElem_cons hi];rfl,←Cd,List.take_append_drop]
 ·rw [Cn (h.take i),List.length_take,Nat.min_eq_left (Nat.le_of_lt hi)]
theorem Cr {os:List (PD×Value)}(h:AllV os){i:Nat}(hi:i<os.length)(rest:List Value){sub:Array Value}(e:os[i].2=.agg sub) :
  (Af os++rest).toArray.extract (i*11) (i*11+sub.size)=sub:=by
 obtain ⟨h1,h2⟩:=Hr h hi;rw [e] at h1;have h1':Af os=Af (os.take i)++(sub.toList++Af (os.drop (i+1))):=h1;apply Array.toList_inj.1;rw [Array.toList_extract,List.extract_eq_take_drop,h1',List.append_assoc,List.drop_append_of_le_length (by omega),List.drop_of_length_le (by omega),List.nil_append,List.append_assoc];rw [show i*11+sub.size-i*11=sub.toList.length by simp,List.take_left]
theorem splice3 {α:Type}(A B C R S:List α)(k:Nat)(hA:A.length=k)(hB:B.length=11):(A++(B++C)++R).take k++S++(A++(B++C)++R).drop (k+11)=A++(S++C)++R:=by
 have e1:A++(B++C)++R=A++(B++C++R):=by simp
 have e2:A++(B++C)++R=(A++B)++(C++R):=by simp
 have h1:(A++(B++C)++R).take k=A:=by rw [e1,←hA,List.take_left]
 have h2:(A++(B++C)++R).drop (k+11)=C++R:=by rw [e2,show k+11=(A++B).length by rw [List.length_append];omega,List.drop_left]
 rw [h1,h2];simp
theorem Ag7 {os:List (PD×Value)}(h:AllV os){i:Nat}(hi:i<os.length)(rest:List Value){x:PD×Value}{sub:Array Value}(e:x.2=.agg sub)(hs:sub.size=11) :
  (Af (os.set i x)++rest).toArray=((Af os++rest).toArray.toList.take (i*11)++sub.toList++(Af os++rest).toArray.toList.drop (i*11+sub.size)).toArray:=by
 obtain ⟨h1,h2⟩:=Hr h hi;obtain ⟨p,q,e0⟩:=h os[i] (List.getElem_mem hi);have h3:os[i].2.cells.toList.length=11:=by rw [e0];rfl
 have h4:Af (os.set i x)=Af (os.take i)++(sub.toList++Af (os.drop (i+1))):=by
  rw [List.set_eq_take_append_cons_drop,if_pos hi,Cd];show _++(x.2.cells.toList++_)=_
  rw [e];rfl
 rw [h4,hs];congr 1;show _=(Af os++rest).take (i*11)++sub.toList++(Af os++rest).drop (i*11+11)
 rw [h1];exact (splice3 _ _ _ _ _ _ h2 h3).symm
theorem OutP.rowC {lo:Nat}{w:World}{g n c:Nat}{os:List (PD×Value)}(h:OutP lo w (.slice (some ⟨g,0,none⟩) n c) os):n=os.length∧os.length≤c∧c≤maxLen∧lo≤g∧∃ rest:List Value,rest.length=(c-os.length)*11∧w.heap[g]? = some (.cells (Af os++rest).toArray 58 (0,0)):=by
 obtain ⟨h1,h2|⟨k,cap,cur,e,h3,h4,h5,h6,h7,h8⟩⟩:=h.row
 ·cases h2.1
 ·simp only [Value.slice.injEq,Option.some.injEq,Addr.mk.injEq] at e
  obtain ⟨⟨rfl,_⟩,rfl,rfl⟩:=e;refine ⟨rfl,h5,h6,h3,cur.toList.drop (os.length*11),?_,?_⟩
  ·rw [List.length_drop,Array.length_toList,h7,←Nat.sub_mul]
  ·rw [←h8,List.take_append_drop,Array.toArray_toList]
   exact h4
theorem Abh (nm:ByteArray)(kd co:Int)(p q:FV)(w:World) :
  Calls Tryz.prog 99 #[.agg #[.string nm,.int .u8 kd,.bool p.b1,.slice p.a1 p.n1 p.c1,.bool p.b2,.slice p.a2 p.n2 p.c2,.bool q.b1,.slice q.a1 q.n1 q.c1,.bool q.b2,.slice q.a2 q.n2 q.c2,.int .i64 co]] w fun e w'=>e=.returned (.bool (kd != 2))∧Ext w w':=by
 obtain ⟨wb,hwb⟩:=nmE (w.alloc (.cells #[.string nm,.int .u8 kd,.bool p.b1,.slice p.a1 p.n1 p.c1,.bool p.b2,.slice p.a2 p.n2 p.c2,.bool q.b1,.slice q.a1 q.n1 q.c1,.bool q.b2,.slice q.a2 q.n2 q.c2,.int .i64 co] 58));have hE:=mK (aLe1 hwb);have c1:wb.cell? ⟨w.heap.size,1,none⟩=some (.int .u8 kd):=by rw [hwb];exact Aa (heap_alloc_new _ _) 1
 replace hwb:=mK hwb;rw [hwb.out] at c1;go_enter Tryz.func99,Tryz.ntmps99;go_wp2_with fail;go_ret;exact ⟨rfl,by rw [←hwb.out];exact hE.out⟩
def Dj (os:List (PD×Value)):Option Nat:=os.findIdx? fun x=>x.1.kd != 2
def IdxR (w0:World)(os:List (PD×Value))(t8:Value)(wr:World):Prop:=∃ k:Nat,k≤os.length∧t8=.int .i64 k∧(∀ x∈os.take k,x.1.kd=2)∧Ext w0 wr
def idxV (os:List (PD×Value)):Value:=match Dj os with|some i=>.int .i64 i|none=>.int .i64 (-1)
theorem Abn (os:List (PD×Value))(rest:List Value)(g c:Nat)(w:World)(hv:AllV os)(hl:os.length≤64)(hr:w.heap[g]? = some (.cells (Af os++rest).toArray 58 (0,0))) :
  Calls Tryz.prog 167 #[.slice (some ⟨g,0,none⟩) os.length c,.func (.func 99) #[] #[]] w fun e w'=>e=.returned (idxV os)∧Ext w w':=by
 replace hv:=mK hv;replace hr:=mK hr;go_enter Tryz.func167,Tryz.ntmps167;go_wp2_with fail;have st:Hid (IdxR w os (.int .i64 0) w):=⟨0,Nat.zero_le _,rfl,by simp,xR _⟩
 go_loopw [8] (fun t8 wr=>IdxR w os t8 wr) (fun i _=>os.length-(intOf i).toNat)
 case atStart=>exact st.out
 case round=>
  clear st;obtain ⟨k,hk,rfl,hall,hE⟩:=hrel;obtain ⟨w2,rfl⟩:=nmE (wr:World);by_cases hlt:k<os.length
  ·obtain ⟨d,v,hdv⟩:∃ d v,os[k]=(d,v):=⟨_,_,rfl⟩
   obtain ⟨p,q,e0⟩:=hv.out _ (List.getElem_mem hlt);rw [hdv] at e0;have e0':v=.agg #[.string d.nm,.int .u8 d.kd,.bool p.b1,.slice p.a1 p.n1 p.c1,.bool p.b2,.slice p.a2 p.n2 p.c2,.bool q.b1,.slice q.a1 q.n1 q.c1,.bool q.b2,.slice q.a2 q.n2 q.c2,.int .i64 d.co]:=e0;subst e0';have hx:=mK (Cr hv.out hlt rest (sub:=#[.string d.nm,.int .u8 d.kd,.bool p.b1,.slice p.a1 p.n1 p.c1,.bool p.b2,.slice p.a2 p.n2 p.c2,.bool q.b1,.slice q.a1 q.n1 q.c1,.bool q.b2,.slice q.a2 q.n2 q.c2,.int .i64 d.co]) (by rw [hdv]));have hr2:=mK (hE.blk hr.out);have hlt':(k:Int)<(os.length:Int):=by omega
   have hN:=mK (Abh d.nm d.kd d.co p q w2);generalize hB:(d.kd != 2)=B at hN;replace hB:=mK hB;replace hdv:=mK hdv;replace hall:=mK hall;replace hE:=mK hE;clear e0;have tok:Tok 0:=.mk _;cases B
   all_goals go_wp2_with (first
    | (replace tok:Tok 1:=nxT 0 tok;refine Ab (by rfl) 58 (.tmp 14) rfl g (k*11) ?zz 58 _ #[.string d.nm,.int .u8 d.kd,.bool p.b1,.slice p.a1 p.n1 p.c1,.bool p.b2,.slice p.a2 p.n2 p.c2,.bool q.b1,.slice q.a1 q.n1 q.c1,.bool q.b2,.slice q.a2 q.n2 q.c2,.int .i64 d.co] (0,0) _ hr2.out hx.out Tryz.underlying58 rfl (by kernel_rfl) ?_;(case zz=>rfl))
    | ((have _t:Tok 1:=tok);clear _t;clear tok;go_at_call 99;refine hN.out.mono ?_;rintro e w3 ⟨rfl,hx3⟩;replace hE:=mK (hE.out.trans hx3);clear hx3))
   ·refine ⟨⟨k+1,by omega,by go_num,fun x hx=>?_,hE.out⟩,by simp [intOf];omega⟩
    rw [List.take_succ_eq_append_getElem hlt] at hx;rcases List.mem_append.1 hx with hx|hx
    ·exact hall.out x hx
    ·rw [List.mem_singleton] at hx
     rw [hx,hdv.out];have:=hB.out;simpa using this
   ·go_ret
    have e:Dj os=some k:=by
     unfold Dj;rw [List.findIdx?_eq_some_iff_getElem];refine ⟨hlt,by rw [hdv.out];exact hB.out,fun j hj=>?_⟩;have:=hall.out os[j] (by rw [List.mem_take_iff_getElem];exact ⟨j,by omega,rfl⟩);simp [this]
    unfold idxV;rw [e];exact ⟨rfl,hE.out⟩
  ·have hk2:k=os.length:=by omega
   subst hk2;rw [List.take_length] at hall;replace hall:=mK hall;replace hE:=mK hE;go_wp2_with fail;go_ret
   have e:Dj os=none:=by
    unfold Dj;rw [List.findIdx?_eq_none_iff];intro x hx;simp [hall.out x hx]
   unfold idxV;rw [e];exact ⟨rfl,hE.out⟩
theorem Vf (n:Nat):(Builtin.zeroCells zeroPart.cells n).toList.length=n*11:=by
 simp [Builtin.zeroCells,Value.cells]
theorem Ady (n:Nat):∀ v∈(Builtin.zeroCells zeroPart.cells n).toList,v.oneCell'=true:=by
 intro v hv;unfold Builtin.zeroCells at hv;simp only [Array.toList_map,List.mem_map] at hv;obtain ⟨i,-,rfl⟩:=hv
 have h:∀ k,k<11→(zeroPart.cells[k]!).oneCell'=true:=by
  intro k hk;have:k=0∨k=1∨k=2∨k=3∨k=4∨k=5∨k=6∨k=7∨k=8∨k=9∨k=10:=by omega
  rcases this with rfl|rfl|rfl|rfl|rfl|rfl|rfl|rfl|rfl|rfl|rfl<;>rfl
 exact h _ (Nat.mod_lt _ (by decide))
theorem Rr {P:Program}(w:World)(ty t e:TypeId)(z:Value)(ht:P.underlying t=some (.slice e))(hz:(zeroValue e).run P w=.ok z w)(g k n c L:Nat)(cur:Array Value)(hg:w.heap[g]? = some (.cells cur e (0,0)))(hn:0<n)(hL:(Builtin.zeroCells z.cells n).toList.length=L)
  (h1:∀ v∈(Builtin.zeroCells z.cells n).toList,v.oneCell'=true) (hk:k+L≤cur.size) :
  (Builtin.clear_ #[t] ty #[.slice (some ⟨g,k,none⟩) n c]).run P w=.ok (.tuple #[]) (w.setRow g (cur.toList.take k++(Builtin.zeroCells z.cells n).toList++cur.toList.drop (k+L)).toArray):=by
 have hst:=Dt (P:=P) g k e (Builtin.zeroCells z.cells n).toList 0 cur w hg (by rw [hL];omega) h1;rw [hL] at hst;simp only [Nat.add_zero] at hst;obtain ⟨m,rfl⟩:∃ m,n=m+1:=⟨n-1,by omega⟩
 simp [Builtin.clear_,run_underlying ht,hz,hst]
theorem Rq (w:World)(ty:TypeId)(g k n c:Nat)(cur:Array Value)(hg:w.heap[g]? = some (.cells cur 58 (0,0)))(hn:0<n)(hk:k+n*11≤cur.size) :
  (Builtin.clear_ #[26] ty #[.slice (some ⟨g,k,none⟩) n c]).run Tryz.prog w=.ok (.tuple #[]) (w.setRow g (cur.toList.take k++(Builtin.zeroCells zeroPart.cells n).toList++cur.toList.drop (k+n*11)).toArray):=
 Rr w ty _ _ zeroPart Tryz.underlying26 (Lw w) g k n c _ cur hg hn (Vf n) (Ady n) hk
def lensX (x:PD×Value):Bool:=x.1.kd==2
def DelR (W0:World)(g:Nat)(rest:List Value)(os:List (PD×Value))(t5 t6:Value)(wr:World):Prop:=
 ∃ (i j:Nat) (os':List (PD×Value)),i<j∧j≤os.length∧t5=.int .i64 i∧t6=.int .i64 j∧os'.length=os.length∧os'.take i=(os.take j).filter lensX∧os'.drop j=os.drop j∧(∀ x∈os',x∈os) ∧
  wr.heap[g]? = some (.cells (Af os'++rest).toArray 58 (0,0))∧Chg W0 wr (· = g)
def DelQ (lo:Nat)(w:World)(s:Value)(os:List (PD×Value))(e:Ending)(w':World):Prop:=∃ s',e=.returned s'∧OutP lo w' s' (os.filter lensX)∧Chg w w' (fun k=>s.ownBlock=some k)
theorem Qs {os:List (PD×Value)}{i:Nat}(h:Dj os=some i):i<os.length∧os.take i=(os.take (i+1)).filter lensX:=by
 unfold Dj at h;rw [List.findIdx?_eq_some_iff_getElem] at h;obtain ⟨hi,h1,h2⟩:=h;refine ⟨hi,?_⟩
 have h0:lensX os[i]=false:=by
  unfold lensX;simpa [bne] using h1
 rw [List.take_succ_eq_append_getElem hi,List.filter_append,List.filter_eq_self.2 ?_,List.filter_cons_of_neg (by rw [h0];simp),List.filter_nil,List.append_nil]
 ·intro x hx
  rw [List.mem_take_iff_getElem] at hx;obtain ⟨j,hj,rfl⟩:=hx;have:=h2 j (by omega);unfold lensX;simpa [bne] using this
theorem Aad {os:List (PD×Value)}(h:Dj os=none):os.filter lensX=os:=by
 unfold Dj at h;rw [List.findIdx?_eq_none_iff] at h;rw [List.filter_eq_self];intro x hx;have:=h x hx;unfold lensX;simpa [bne] using this
theorem Xq (lo:Nat)(w:World)(s:Value)(os:List (PD×Value))(h:OutP lo w s os)(hl:os.length≤64)(hf:Dj os=none) :
  Calls Tryz.prog 98 #[s,.func (.func 99) #[] #[]] w (DelQ lo w s os):=by
 have hI:Calls Tryz.prog 167 #[s,.func (.func 99) #[] #[]] w fun e w'=>e=.returned (.int .i64 (-1))∧Ext w w':=by
  rcases h.row.2 with ⟨rfl,he⟩|⟨g,cap,cur,e,-⟩
  ·go_enter Tryz.func167,Tryz.ntmps167
   go_wp2_with fail;refine wp_loop_rounds 1 ?_;rw [rounds_succ];go_wp2_with fail;go_ret;exact ⟨rfl,xR _⟩
  ·subst e
   obtain ⟨-,-,-,-,rest,-,hr⟩:=h.rowC;have:=Abn os rest g cap w h.allV hl hr;unfold idxV at this;rw [hf] at this;exact this
 replace hI:=mK hI;replace h:=mK h;have hf:=mK (Aad hf);go_enter Tryz.func98,Tryz.ntmps98;go_wp2_with (go_at_call 167;refine hI.out.mono ?_;rintro e w' ⟨rfl,hE⟩;replace hE:=mK hE);go_ret;exact ⟨s,rfl,by rw [hf.out];exact h.out.ext hE.out,Chg.of_ext hE.out _⟩
theorem Ff (f:PD×Value→Bool):∀ os:List (PD×Value),(Eu (os.filter f)).Sublist (Eu os)
 | []=>List.Sublist.refl _
 | x::r=>by
  have e:Eu (x::r)=Aloof.blks x.2++Eu r:=rfl
  by_cases h:f x=true
  ·rw [List.filter_cons_of_pos h,e]
   exact (List.Sublist.refl (Aloof.blks x.2)).append (Ff f r)
  ·rw [List.filter_cons_of_neg h,e]
   exact (Ff f r).trans (List.sublist_append_right _ _)
theorem Chg.set (w:World)(g:Nat)(cs:Array Value):Chg w (w.setRow g cs) (· = g):=
 ⟨rfl,rfl,rfl,by simp,fun k _ hk=>setRow_other _ _ _ _ hk⟩
theorem FV.store_one (d:PD)(p q:FV):(#[.string d.nm,.int .u8 d.kd,.bool p.b1,.slice p.a1 p.n1 p.c1,.bool p.b2,.slice p.a2 p.n2 p.c2,.bool q.b1,.slice q.a1 q.n1 q.c1,.bool q.b2,.slice q.a2 q.n2 q.c2,.int .i64 d.co]:Array Value).all (·.oneCell')=true:=
 Array.all_eq_true_iff_forall_mem.2 fun v hv=>Hv d p q v (by simpa using hv)
theorem Xp (lo:Nat)(w:World)(g n c:Nat)(os:List (PD×Value))(h:OutP lo w (.slice (some ⟨g,0,none⟩) n c) os)(hl:os.length≤64)(i:Nat)(hf:Dj os=some i) :
  Calls Tryz.prog 98 #[.slice (some ⟨g,0,none⟩) n c,.func (.func 99) #[] #[]] w (DelQ lo w (.slice (some ⟨g,0,none⟩) n c) os):=by
 obtain ⟨hn,hnc,hcm,hlg,rest,hrl,hr⟩:=h.rowC;subst hn;have hI:=Abn os rest g c w h.allV hl hr;unfold idxV at hI;rw [hf] at hI;replace hI:Calls Tryz.prog 167 #[.slice (some ⟨g,0,none⟩) os.length c,.func (.func 99) #[] #[]] w fun e w'=>e=.returned (.int .i64 i)∧Ext w w':=hI;obtain ⟨hi,hft⟩:=Qs hf;have hgl:g<w.heap.size:=(Array.getElem?_eq_some_iff.1 hr).1;replace hI:=mK hI;replace hr:=mK hr;replace hft:=mK hft;replace hrl:=mK hrl;replace hcm:=mK hcm;have hv:=mK h.allV;replace h:=mK h;have h1:(i:Int)+1≤64:=by omega
 clear hf;go_enter Tryz.func98,Tryz.ntmps98;go_wp2_with (go_at_call 167;refine hI.out.mono ?_;rintro e w1 ⟨rfl,hE⟩;replace hE:=mK hE);have st:Hid (DelR w g rest os (.int .i64 i) (.int .i64 ((i:Int)+1)) w1):=⟨i,i+1,os,by omega,by omega,rfl,by go_num,rfl,hft.out,rfl,fun _ h=>h,hE.out.blk hr.out,Chg.of_ext hE.out _⟩
 clear h1 hft hE hI;go_loopw [5,6] (fun t5 t6 wr=>DelR w g rest os t5 t6 wr) (fun _ j _=>os.length-(intOf j).toNat)
 case atStart=>exact st.out
 case round=>
  clear st;obtain ⟨y,j,os',hij,hj,rfl,rfl,hlen,htk,hdr,hsub,hrow,hch⟩:=hrel;obtain ⟨w2,rfl⟩:=nmE (wr:World);have hv':AllV os':=fun x hx=>hv.out x (hsub x hx);by_cases hlt:j<os.length
  ·have hlt':j<os'.length:=by omega
   obtain ⟨d,v,hdv⟩:∃ d v,os'[j]=(d,v):=⟨_,_,rfl⟩
   have hmem:(d,v)∈os':=by rw [←hdv];exact List.getElem_mem hlt'
   obtain ⟨p,q,e0⟩:=hv' _ hmem;have e0':v=.agg #[.string d.nm,.int .u8 d.kd,.bool p.b1,.slice p.a1 p.n1 p.c1,.bool p.b2,.slice p.a2 p.n2 p.c2,.bool q.b1,.slice q.a1 q.n1 q.c1,.bool q.b2,.slice q.a2 q.n2 q.c2,.int .i64 d.co]:=e0;subst e0'
   have hdo:os[j]=(d,.agg #[.string d.nm,.int .u8 d.kd,.bool p.b1,.slice p.a1 p.n1 p.c1,.bool p.b2,.slice p.a2 p.n2 p.c2,.bool q.b1,.slice q.a1 q.n1 q.c1,.bool q.b2,.slice q.a2 q.n2 q.c2,.int .i64 d.co]):=by
    rw [←hdv];have a:=List.drop_eq_getElem_cons hlt;have b:=List.drop_eq_getElem_cons hlt';rw [a,b] at hdr;exact (List.cons.inj hdr).1.symm
   have hx:=mK (Cr hv' hlt' rest (sub:=#[.string d.nm,.int .u8 d.kd,.bool p.b1,.slice p.a1 p.n1 p.c1,.bool p.b2,.slice p.a2 p.n2 p.c2,.bool q.b1,.slice q.a1 q.n1 q.c1,.bool q.b2,.slice q.a2 q.n2 q.c2,.int .i64 d.co]) (by rw [hdv]));have hN:=fun W=>Abh d.nm d.kd d.co p q W;generalize hB:(d.kd != 2)=B at hN;have hst:=mK (Ag7 hv' (show y<os'.length by omega) rest (x:=(d,.agg #[.string d.nm,.int .u8 d.kd,.bool p.b1,.slice p.a1 p.n1 p.c1,.bool p.b2,.slice p.a2 p.n2 p.c2,.bool q.b1,.slice q.a1 q.n1 q.c1,.bool q.b2,.slice q.a2 q.n2 q.c2,.int .i64 d.co])) (sub:=#[.string d.nm,.int .u8 d.kd,.bool p.b1,.slice p.a1 p.n1 p.c1,.bool p.b2,.slice p.a2 p.n2 p.c2,.bool q.b1,.slice q.a1 q.n1 q.c1,.bool q.b2,.slice q.a2 q.n2 q.c2,.int .i64 d.co]) rfl rfl);have hsz:=mK (show (Af os'++rest).toArray.size=c*11 by rw [List.size_toArray,List.length_append,Cn hv',hrl.out,hlen,←Nat.add_mul];congr 1;omega);have hjl:(j:Int)<(os.length:Int):=by omega
   have hil:(y:Int)<(os.length:Int):=by omega
   have hg2:g<w2.heap.size:=(Array.getElem?_eq_some_iff.1 hrow).1;obtain ⟨w3,hw3⟩:=nmE ((w2.alloc (.cells #[.string ⟨#[]⟩,.int .u8 0,.bool false,.slice none 0 0,.bool false,.slice none 0 0,.bool false,.slice none 0 0,.bool false,.slice none 0 0,.int .i64 0] 58)).setRow w2.heap.size #[.string d.nm,.int .u8 d.kd,.bool p.b1,.slice p.a1 p.n1 p.c1,.bool p.b2,.slice p.a2 p.n2 p.c2,.bool q.b1,.slice q.a1 q.n1 q.c1,.bool q.b2,.slice q.a2 q.n2 q.c2,.int .i64 d.co]);have hE3:Ext w2 w3:=by rw [hw3];exact ((xR w2).al _).row (nR _) _
   have z3:=mK (show w3.heap[w2.heap.size]? = some (.cells #[.string d.nm,.int .u8 d.kd,.bool p.b1,.slice p.a1 p.n1 p.c1,.bool p.b2,.slice p.a2 p.n2 p.c2,.bool q.b1,.slice q.a1 q.n1 q.c1,.bool q.b2,.slice q.a2 q.n2 q.c2,.int .i64 d.co] 58 (0,0)) by rw [hw3];exact setRow_heap _ _ _ _ _ _ (heap_alloc_new _ _));have hrow3:=mK (hE3.blk hrow);replace hN:=mK hN;replace hB:=mK hB;replace hdv:=mK hdv;replace hdo:=mK hdo;replace hw3:=mK hw3;replace hE3:=mK hE3;replace hrow:=mK hrow;replace hch:=mK hch;replace htk:=mK htk;replace hdr:=mK hdr;replace hsub:=mK hsub;replace hlen:=mK hlen;replace hv':=mK hv';replace hmem:=mK hmem;clear e0;have tok:Tok 0:=.mk _;cases B
   all_goals go_wp2_with (first
    | (replace tok:Tok 1:=nxT 0 tok;refine Ab (by rfl) 58 (.tmp 24) rfl g (j*11) ?zz 58 _ #[.string d.nm,.int .u8 d.kd,.bool p.b1,.slice p.a1 p.n1 p.c1,.bool p.b2,.slice p.a2 p.n2 p.c2,.bool q.b1,.slice q.a1 q.n1 q.c1,.bool q.b2,.slice q.a2 q.n2 q.c2,.int .i64 d.co] (0,0) _ hrow.out hx.out Tryz.underlying58 rfl (by kernel_rfl) ?_;(case zz=>rfl))
    | (replace tok:Tok 2:=nxT 1 tok;refine wpList_store_row rfl 58 (.tmp 7) (.tmp 25) rfl w2.heap.size #[.string d.nm,.int .u8 d.kd,.bool p.b1,.slice p.a1 p.n1 p.c1,.bool p.b2,.slice p.a2 p.n2 p.c2,.bool q.b1,.slice q.a1 q.n1 q.c1,.bool q.b2,.slice q.a2 q.n2 q.c2,.int .i64 d.co] rfl rfl 58 _ (heap_alloc_new _ _) (by kernel_rfl) rfl (by kernel_rfl) ?_;rw [←hw3.out])
    | (replace tok:Tok 3:=nxT 2 tok;refine wpList_load_row (by rfl) 58 (.tmp 7) rfl w2.heap.size rfl 58 #[.string d.nm,.int .u8 d.kd,.bool p.b1,.slice p.a1 p.n1 p.c1,.bool p.b2,.slice p.a2 p.n2 p.c2,.bool q.b1,.slice q.a1 q.n1 q.c1,.bool q.b2,.slice q.a2 q.n2 q.c2,.int .i64 d.co] (0,0) _ z3.out Tryz.underlying58 rfl (by kernel_rfl) ?_)
    | (replace tok:Tok 4:=nxT 3 tok;go_at_call 99;refine (hN.out _).mono ?_;rintro e w4 ⟨rfl,hx4⟩;replace z3:=mK (hx4.blk z3.out);replace hrow3:=mK (hx4.blk hrow3.out);replace hE3:=mK (hE3.out.trans hx4);clear hx4)
    | (replace tok:Tok 5:=nxT 4 tok;refine wpList_load_row (by rfl) 58 (.tmp 7) rfl w2.heap.size rfl 58 #[.string d.nm,.int .u8 d.kd,.bool p.b1,.slice p.a1 p.n1 p.c1,.bool p.b2,.slice p.a2 p.n2 p.c2,.bool q.b1,.slice q.a1 q.n1 q.c1,.bool q.b2,.slice q.a2 q.n2 q.c2,.int .i64 d.co] (0,0) _ z3.out Tryz.underlying58 rfl (by kernel_rfl) ?_)
    | (replace tok:Tok 6:=nxT 5 tok;refine Cu rfl 58 (.tmp 33) (.tmp 32) rfl g (y*11) ?zy 58 _ _ #[.string d.nm,.int .u8 d.kd,.bool p.b1,.slice p.a1 p.n1 p.c1,.bool p.b2,.slice p.a2 p.n2 p.c2,.bool q.b1,.slice q.a1 q.n1 q.c1,.bool q.b2,.slice q.a2 q.n2 q.c2,.int .i64 d.co] rfl hrow3.out (by kernel_rfl) ?zw hst.out (FV.store_one d p q) ?_;(case zy=>rfl);(case zw=>rw [hsz.out];show y*11+11≤c*11;omega)))
   ·go_roundw
    case measure=>simp [intOf];omega
    case rel=>
     have hle:lensX (d,Value.agg #[.string d.nm,.int .u8 d.kd,.bool p.b1,.slice p.a1 p.n1 p.c1,.bool p.b2,.slice p.a2 p.n2 p.c2,.bool q.b1,.slice q.a1 q.n1 q.c1,.bool q.b2,.slice q.a2 q.n2 q.c2,.int .i64 d.co])=true:=by
      have:=hB.out;unfold lensX;simpa using this
     have hy:y<os'.length:=by omega
     repeat apply Exists.intro
     refine And.intro ?rr rfl;refine ⟨y+1,j+1,os'.set y (d,Value.agg #[.string d.nm,.int .u8 d.kd,.bool p.b1,.slice p.a1 p.n1 p.c1,.bool p.b2,.slice p.a2 p.n2 p.c2,.bool q.b1,.slice q.a1 q.n1 q.c1,.bool q.b2,.slice q.a2 q.n2 q.c2,.int .i64 d.co]),by omega,by omega,by go_num,by go_num,by rw [List.length_set];exact hlen.out,?_,?_,fun x hx=>?_,setRow_heap _ _ _ _ _ _ hrow3.out,hch.out.trans ((Chg.of_ext hE3.out _).trans (Chg.set _ _ _))⟩
     ·rw [List.take_succ_eq_append_getElem (by rw [List.length_set];exact hy),List.take_set_of_le (nR _),List.getElem_set_self,htk.out,List.take_succ_eq_append_getElem hlt,hdo.out,List.filter_append,List.filter_cons_of_pos hle,List.filter_nil]
     ·rw [List.drop_set_of_lt (by omega),←List.drop_drop,hdr.out,List.drop_drop]
     ·rcases List.mem_or_eq_of_mem_set hx with hx|rfl
      ·exact hsub.out x hx
      ·exact hsub.out _ hmem.out
   ·go_roundw
    case measure=>simp [intOf];omega
    case rel=>
     have hle:¬lensX (d,Value.agg #[.string d.nm,.int .u8 d.kd,.bool p.b1,.slice p.a1 p.n1 p.c1,.bool p.b2,.slice p.a2 p.n2 p.c2,.bool q.b1,.slice q.a1 q.n1 q.c1,.bool q.b2,.slice q.a2 q.n2 q.c2,.int .i64 d.co])=true:=by
      have:=hB.out;unfold lensX;simpa using this
     repeat apply Exists.intro
     refine And.intro ?rr2 rfl;refine ⟨y,j+1,os',by omega,by omega,rfl,by go_num,hlen.out,?_,?_,hsub.out,hrow3.out,hch.out.trans (Chg.of_ext hE3.out _)⟩
     ·rw [htk.out,List.take_succ_eq_append_getElem hlt,hdo.out,List.filter_append,List.filter_cons_of_neg hle,List.filter_nil,List.append_nil]
     ·rw [←List.drop_drop,hdr.out,List.drop_drop]
  ·have hjn:j=os.length:=by omega
   subst hjn;have hsz:=show (Af os'++rest).toArray.size=c*11 by rw [List.size_toArray,List.length_append,Cn hv',hrl.out,hlen,←Nat.add_mul];congr 1;omega
   have hcl:=fun ty=>Rq w2 ty g (y*11) (os.length-y) (c-y) _ hrow (by omega) (by rw [hsz,←Nat.add_mul];exact Nat.mul_le_mul_right _ (by omega));obtain ⟨w5,hw5⟩:=nmE (w2.setRow g ((Af os'++rest).toArray.toList.take (y*11)++(Builtin.zeroCells zeroPart.cells (os.length-y)).toList++(Af os'++rest).toArray.toList.drop (y*11+(os.length-y)*11)).toArray);rw [←hw5] at hcl;have hil:(y:Int)<(os.length:Int):=by omega
   have hcl2:(c:Int)≤9223372036854775807:=by have:=hcm.out;unfold maxLen at this;omega
   replace hw5:=mK hw5;replace hrow:=mK hrow;replace hch:=mK hch;replace htk:=mK htk;replace hdr:=mK hdr;replace hsub:=mK hsub;replace hlen:=mK hlen;replace hv':=mK hv';replace hsz:=mK hsz;go_wp2_with fail;go_ret;have hF:os'.take y=os.filter lensX:=by rw [htk.out,List.take_length]
   have hy:y<os'.length:=by have:=hlen.out;omega
   have hFl:(os.filter lensX).length=y:=by rw [←hF,List.length_take];omega
   obtain ⟨hs1,hs2⟩:=Hr hv'.out hy;have h5:=setRow_heap w2 g _ ((Af os'++rest).toArray.toList.take (y*11)++(Builtin.zeroCells zeroPart.cells (os.length-y)).toList++(Af os'++rest).toArray.toList.drop (y*11+(os.length-y)*11)).toArray _ _ hrow.out;rw [←hw5.out] at h5
   have ht:(Af os'++rest).toArray.toList.take (y*11)=Af (os.filter lensX):=by
    show (Af os'++rest).take (y*11)=_
    rw [hs1,List.append_assoc,List.take_append_of_le_length (by omega),List.take_of_length_le (by omega),hF]
   rw [ht] at h5;have hc5:Chg w w5 (· = g):=hch.out.trans (by rw [hw5.out];exact Chg.set _ _ _);have hcl11:(Af (os.filter lensX)).length=y*11:=by rw [←hF];exact hs2
   refine ⟨_,rfl,⟨⟨by rw [hFl];exact hcl11,.inr ⟨g,c,_,by rw [hFl];rfl,hlg,h5,by rw [hFl];omega,hcm.out,?_,?_⟩⟩,fun x hx=>?_,h.out.nod.sublist (Ff _ _),fun k hk hm=>?_⟩,hc5.mono fun k _ hk=>by rw [hk];rfl⟩
   ·have hz:=hsz.out
    rw [List.size_toArray] at hz ⊢;rw [List.length_append,List.length_append,hcl11,Vf,List.length_drop];show y*11+(os.length-y)*11+((Af os'++rest).length-_)=_
    rw [hz];omega
   ·rw [hFl,List.append_assoc,List.take_append_of_le_length (by omega),List.take_of_length_le (by omega)]
   ·have hxo:x∈os:=(List.mem_filter.1 hx).1
    have hP:=h.out.part x hxo;refine hP.near fun k hk=>hc5.block k (hP.span k hk).2 fun e=>?_;exact h.out.own g rfl (List.mem_flatMap.2 ⟨x,hxo,by rw [←e];exact hk⟩)
   ·cases hk
    exact h.out.own g rfl ((Ff _ _).subset hm)
structure RefC (w:World) (s:Value) (es:List (PD×Value)):Prop where
 row:w.ownsRow 0 58 11 s es.length (Af es)
 part:∀ x∈es,PartR w x.2 x.1
 ris:Rising es
 ok:∀ x∈es,okPD x.1
 few:es.length≤64
theorem RefC.ext {w w':World}{s:Value}{es:List (PD×Value)}(h:RefC w s es)(e:Ext w w'):RefC w' s es:=
 ⟨Aw h.row e,fun x hx=>(h.part x hx).ext e,h.ris,h.ok,h.few⟩
theorem RefC.allV {w:World}{s:Value}{es:List (PD×Value)}(h:RefC w s es):AllV es:=fun x hx=>by
 obtain ⟨p,q,e,-,-⟩:=(h.part x hx).fv
 exact ⟨p,q,e⟩
theorem RefC.slice {w:World}{s:Value}{es:List (PD×Value)}(h:RefC w s es):∃ a c,s=.slice a es.length c∧es.length≤c∧c≤maxLen∧(es≠[]→∃ g,a=some ⟨g,0,none⟩∧∃ rest,w.heap[g]? = some (.cells (Af es++rest).toArray 58 (0,0))):=by
 rcases h.row.2 with ⟨e,h0⟩|⟨g,cap,cur,e,-,h4,h5,h6,h7,h8⟩
 ·have h0':es=[]:=List.eq_nil_of_length_eq_zero (by simpa using h0)
  subst h0';exact ⟨none,0,e,nR _,Nat.zero_le _,fun h=>absurd rfl h⟩
 ·refine ⟨_,cap,e,h5,h6,fun _=>⟨g,rfl,cur.toList.drop (es.length*11),?_⟩⟩
  rw [←h8,List.take_append_drop,Array.toArray_toList];exact h4
theorem Pj (w:World):RefC w (.slice none 0 0) []:=
 ⟨World.ownsRow_nil _ _ _ _,by simp,List.Pairwise.nil,by simp,by simp⟩
def befN (s:ByteArray)(x:PD×Value):Bool:=bytesBefore x.1.nm.data.toList s.data.toList
def Bk (s:ByteArray)(es:List (PD×Value)):Nat:=(es.takeWhile (befN s)).length
theorem Mi {s:ByteArray}{es:List (PD×Value)}{k:Nat}(hk:k≤es.length)(h1:∀ x∈es.take k,befN s x=true)(h2:∀ (h:k<es.length),befN s es[k]=false):Bk s es=k:=by
 unfold Bk;induction es generalizing k with
 | nil=>simp at hk;simp [hk]
 | cons y r ih=>
  cases k with
  | zero=>
   have:=h2 (by simp);simp only [List.getElem_cons_zero] at this;rw [List.takeWhile_cons_of_neg (by rw [this];simp)];rfl
  | succ k=>
   have hy:=h1 y (by simp);rw [List.takeWhile_cons_of_pos hy,List.length_cons,ih (k:=k) (by simpa using hk) (fun x hx=>h1 x (by simp [hx])) (fun h=>by have:=h2 (by simpa using h);simpa using this)]
theorem Acg {w:World}{g:Nat}{es:List (PD×Value)}{rest:List Value}(hr:w.heap[g]? = some (.cells (Af es++rest).toArray 58 (0,0)))(hv:AllV es){k:Nat}(hk:k<es.length):w.cell? ⟨g,k*11,none⟩=some (.string es[k].1.nm):=by
 obtain ⟨p,q,e⟩:=hv _ (List.getElem_mem hk);have hx:=Cr hv hk rest e;rw [Aa hr];have h0:((Af es++rest).toArray.extract (k*11) (k*11+(#[.string es[k].1.nm,.int .u8 es[k].1.kd,.bool p.b1,.slice p.a1 p.n1 p.c1,.bool p.b2,.slice p.a2 p.n2 p.c2,.bool q.b1,.slice q.a1 q.n1 q.c1,.bool q.b2,.slice q.a2 q.n2 q.c2,.int .i64 es[k].1.co]:Array Value).size))[0]? = some (.string es[k].1.nm):=by rw [hx];rfl
 rw [Array.getElem?_extract] at h0;split at h0
 ·simpa using h0
 ·cases h0
theorem Qh:∀ (a b:List UInt8),Op.bytesLess a b=bytesBefore a b
 | [],[]=>rfl
 | [],_::_=>rfl
 | _::_,[]=>rfl
 | a::x,b::y=>by
  show (decide (a<b)||(a==b&&Op.bytesLess x y))=(decide (a<b)||(a==b&&bytesBefore x y))
  rw [Qh x y]
theorem Lp {s:ByteArray}{es:List (PD×Value)}(hr:Rising es){k:Nat}(h1:∀ x∈es.take k,befN s x=true)(h2:∀ (h:k<es.length),bytesBefore s.data.toList es[k].1.nm.data.toList=true):Ay s es=none:=by
 unfold Ay;rw [List.find?_eq_none];intro x hx hn;unfold Bb at hn;rw [beq_iff_eq] at hn;obtain ⟨j,hj,rfl⟩:=List.mem_iff_getElem.1 hx;rcases Nat.lt_or_ge j k with hjk|hjk
 ·have:=h1 es[j] (by rw [List.mem_take_iff_getElem];exact ⟨j,by omega,rfl⟩)
  unfold befN at this;rw [hn,WideAt.bytes_irrefl] at this;cases this
 ·have hk:k<es.length:=by omega
  have h3:=h2 hk;rcases Nat.eq_or_lt_of_le hjk with e|hlt
  ·subst e
   rw [hn,WideAt.bytes_irrefl] at h3;cases h3
  ·have h4:=List.pairwise_iff_getElem.1 hr k j hk hj hlt
   have h5:=WideShapes.bytes_trans _ _ _ h3 h4;rw [hn,WideAt.bytes_irrefl] at h5;cases h5
def Agu (w:World)(s:ByteArray)(es:List (PD×Value))(t6:Value)(wr:World):Prop:=∃ k:Nat,k≤es.length∧t6=.int .i64 k∧(∀ x∈es.take k,befN s x=true)∧wr=w
theorem Fz (s:ByteArray)(l:Value)(es:List (PD×Value))(w:World)(h:RefC w l es) :
  Calls Tryz.prog 88 #[.agg #[.bool false,l],.string s] w fun e w'=>e=.returned (.tuple #[.int .i64 (Bk s es),.bool (Ay s es).isSome])∧Ext w w':=by
 obtain ⟨a,c,rfl,hc1,hc2,ha⟩:=h.slice;obtain ⟨w1,hw1⟩:=nmE (w.alloc (.cells #[.bool false,.slice a es.length c] 28));have hE:=aLe1 hw1;have z1:=aL10 hw1;have y1:w1.cell? ⟨w.heap.size,1,none⟩=some (.slice a es.length c):=Aa z1 1;have hri:=mK h.ris;have hfew:=h.few;have hv:=mK h.allV
 have ha1:=mK (fun (hne:es≠[])=>show ∃ g,a=some ⟨g,0,none⟩∧∃ rest,w1.heap[g]? = some (.cells (Af es++rest).toArray 58 (0,0)) from by
  obtain ⟨g,e,rest,hr⟩:=ha hne
  exact ⟨g,e,rest,hE.blk hr⟩)
 replace hw1:=mK hw1;replace hE:=mK hE;clear h ha z1 hc1 hc2;go_enter Tryz.func88,Tryz.ntmps88;go_wp2_with fail;rw [←hw1.out];have st:Hid (Agu w1 s es (.int .i64 0) w1):=⟨0,Nat.zero_le _,rfl,by simp,rfl⟩
 go_loopw [6] (fun t6 wr=>Agu w1 s es t6 wr) (fun t6 _=>es.length-(intOf t6).toNat)
 case atStart=>exact st.out
 case round=>
  clear st;obtain ⟨k,hk,rfl,hall,rfl⟩:=hrel;by_cases hlt:k<es.length
  ·obtain ⟨g,rfl,rest,hr⟩:=ha1.out (by intro e;rw [e] at hlt;simp at hlt)
   have hcell:=Acg hr hv.out hlt;have hlt':(k:Int)<(es.length:Int):=by omega
   replace hall:=mK hall;clear hr;obtain ⟨nk,hnk⟩:=nmE (es[k].1.nm);rw [←hnk] at hcell;replace hnk:=mK hnk;by_cases h1:nk.data.toList=s.data.toList
   ·have hb:(nk.toList==s.toList)=true:=by rw [ByteArray.toList_eq,ByteArray.toList_eq];simpa using h1
    have hp:Hid (Bk s es=k):=Mi hk hall.out fun _=>by unfold befN;rw [←hnk.out,h1,WideAt.bytes_irrefl]
    have hfd:Ay s es=some es[k]:=by
     have:=Ta hri.out (List.getElem_mem hlt);have e:es[k].1.nm=s:=by rw [←hnk.out];exact ByteArray.ext (Array.toList_inj.1 h1)
     rw [e] at this;exact this
    replace h1:=mK h1;replace hfd:=mK hfd;go_wp2_with fail;go_ret2;exact ⟨by rw [hp.out,hfd.out];rfl,hE.out⟩
   ·have hb:(nk.toList==s.toList)=false:=by rw [ByteArray.toList_eq,ByteArray.toList_eq];simpa using h1
    by_cases h2:bytesBefore nk.data.toList s.data.toList=true
    ·have hc:Op.bytesLess nk.toList s.toList=true:=by rw [ByteArray.toList_eq,ByteArray.toList_eq,Qh];exact h2
     replace h1:=mK h1;replace h2:=mK h2;go_wp2_with fail;refine ⟨⟨k+1,by omega,by go_num,fun x hx=>?_,rfl⟩,by simp [intOf];omega⟩;rw [List.take_succ_eq_append_getElem hlt] at hx;rcases List.mem_append.1 hx with hx|hx
     ·exact hall.out x hx
     ·rw [List.mem_singleton] at hx
      unfold befN;rw [hx,←hnk.out];exact h2.out
    ·have hc:Op.bytesLess nk.toList s.toList=false:=by rw [ByteArray.toList_eq,ByteArray.toList_eq,Qh];simpa using h2
     have h3:bytesBefore s.data.toList nk.data.toList=true:=by
      rcases WideAt.bytes_total _ _ h1 with h|h
      ·exact absurd h h2
      ·exact h
     have hp:Hid (Bk s es=k):=Mi hk hall.out fun _=>by unfold befN;rw [←hnk.out];simpa using h2
     have hfd:Hid (Ay s es=none):=Lp hri.out hall.out fun _=>by rw [←hnk.out];exact h3
     replace h1:=mK h1;replace h2:=mK h2;replace h3:=mK h3;go_wp2_with fail;go_ret2;exact ⟨by rw [hp.out,hfd.out];rfl,hE.out⟩
  ·have hkn:k=es.length:=by omega
   have hp:Bk s es=k:=Mi hk hall fun h=>absurd h hlt;have hfd:Ay s es=none:=Lp hri.out hall fun h=>absurd h hlt;subst hkn;replace hall:=mK hall;replace hp:=mK hp;replace hfd:=mK hfd;go_wp2_with fail;go_ret2;exact ⟨by rw [hp.out,hfd.out];rfl,hE.out⟩
theorem Ac3 (c:UInt8):nameC c=true↔(97≤c.toNat∧c.toNat≤122)∨(48≤c.toNat∧c.toNat≤57)∨c.toNat=45:=by
 unfold nameC;simp only [Bool.or_eq_true,Bool.and_eq_true,decide_eq_true_eq,beq_iff_eq];omega
theorem Yq (s:ByteArray)(k:Nat)(h:k<s.size):s.data.toList.take (k+1)=s.data.toList.take k++[s[k]]:=by
 rw [List.take_succ_eq_append_getElem (by simpa using h)];rfl
theorem Wo (s:ByteArray)(c1:0<s.size):Co s.data.toList=(decide (s.size≤32)&&(decide (97≤s[0].toNat)&&(decide (s[0].toNat≤122)&&s.data.toList.all nameC))):=by
 have hsz:s.data.toList.length=s.size:=Array.length_toList
 have hd:s.data.toList.headD 0=s[0]:=by
  obtain ⟨⟨l⟩⟩:=s;cases l with
  | nil=>simp [ByteArray.size] at c1
  | cons a l=>rfl
 unfold Co;rw [hsz,hd];simp [c1]
theorem Iq (s:ByteArray)(w:World)(hs:s.size≤9223372036854775807) :
  Calls Tryz.prog 86 #[.string s] w fun e w'=>e=.returned (.bool (Co s.data.toList))∧Ext w w':=by
 by_cases c1:0<s.size
 ·rw [Wo s c1]
  by_cases c2:s.size≤32
  ·by_cases c3:97≤s[0].toNat
   ·by_cases c4:s[0].toNat≤122
    ·have ev:(decide (s.size≤32)&&(decide (97≤s[0].toNat)&&(decide (s[0].toNat≤122)&&s.data.toList.all nameC)))=s.data.toList.all nameC:=by simp [c2,c3,c4]
     rw [ev];clear ev;obtain ⟨B,hB⟩:∃ B:Bool,s.data.toList.all nameC=B:=⟨_,rfl⟩
     rw [hB];replace hB:=mK hB;go_enter Tryz.func86,Tryz.ntmps86;go_wp2_with fail;go_loop [3,4,5] (fun i _ _=>∃ k:Nat,k≤s.size∧i=.int .i64 k∧(s.data.toList.take k).all nameC=true) (fun i _ _=>s.size-(intOf i).toNat)
     case atStart=>exact ⟨0,Nat.zero_le _,rfl,rfl⟩
     case round=>
      obtain ⟨k,hk,rfl,hall⟩:=hrel;by_cases hlt:k<s.size
      ·have hn:=Ac3 s[k]
       have hsn:=Yq s k hlt
       have hno:nameC s[k]=false→B=false:=fun h=>by
        rw [←hB.out,Bool.eq_false_iff];intro h2;have:=List.all_eq_true.1 h2 s[k] (by rw [←Array.mem_def];exact Array.getElem_mem (by simpa using hlt));rw [h] at this;cases this
       have hyes:nameC s[k]=true→(s.data.toList.take (k+1)).all nameC=true:=fun h=>by rw [hsn,List.all_append,hall];simp [h]
       replace hall:=mK hall;clear hsn;have hcase:(s[k].toNat<45)∨s[k].toNat=45∨(45<s[k].toNat∧s[k].toNat<48)∨(48≤s[k].toNat∧s[k].toNat≤57)∨(58≤s[k].toNat∧s[k].toNat<97)∨(97≤s[k].toNat∧s[k].toNat≤122)∨(122<s[k].toNat):=by omega
       cases hb:nameC s[k]
       ·have hno:=mK (hno hb)
        rw [hb] at hn;clear hyes hb
        have h45:((s[k].toNat:Int) != 45)=true:=by
         have:s[k].toNat≠45:=fun e=>by have:=hn.2 (by omega);cases this
         simp only [bne_iff_ne,ne_eq];omega
        rcases hcase with h|h|h|h|h|h|h
        all_goals first|(exfalso;have:=hn.2 (by omega);cases this)|skip
        all_goals
         clear hn;go_wp2_with fail
         all_goals first
          | ((go_ret);(exact ⟨by have:=hno.out;subst this;rfl,xR _⟩))
          | ((exfalso);(rename_i hx);(have n45:(s[k].toNat:Int)≠45:=by simpa using h45);(simp at hx);(omega))
       ·have hyes:=mK (hyes hb)
        rw [hb] at hn;clear hno hb;rcases hcase with h|h|h|h|h|h|h
        all_goals first|(exfalso;have:=hn.1 rfl;omega)|skip
        all_goals
         clear hn;go_wp2_with fail
         all_goals first
          | exact ⟨⟨k+1,by omega,by go_num,hyes.out⟩,by simp [intOf];omega⟩
          | ((go_round);case rel=>(exact ⟨k+1,by omega,by go_num,hyes.out⟩);case measure=>(simp [intOf];omega))
      ·have hk2:k=s.size:=by omega
       subst hk2;have hsz:s.data.toList.length=s.size:=Array.length_toList;rw [List.take_of_length_le (by omega),hB.out] at hall;replace hall:=mK hall;clear hsz;go_wp2_with fail;go_ret;exact ⟨by have:=hall.out;subst this;rfl,xR _⟩
    ·go_enter Tryz.func86,Tryz.ntmps86
     go_wp2_with fail;go_ret;exact ⟨by simp [c4],xR _⟩
   ·go_enter Tryz.func86,Tryz.ntmps86
    go_wp2_with fail;go_ret;exact ⟨by first|simp|simp [c3],xR _⟩
  ·go_enter Tryz.func86,Tryz.ntmps86
   go_wp2_with fail;go_ret;exact ⟨by first|simp|simp [c2],xR _⟩
 ·have hsz:s.data.toList.length=s.size:=Array.length_toList
  have ev:Co s.data.toList=false:=by unfold Co;rw [hsz];simp [c1]
  rw [ev];clear ev hsz;go_enter Tryz.func86,Tryz.ntmps86;go_wp2_with fail;go_ret;exact ⟨rfl,xR _⟩
def flat32:Value→Bool
 | .int .u32 _=>false
 | _=>true
theorem Row.flat32 {w:World}{a:Option Addr}{l:List Nat}{g T:Nat}{fr:Nat×Nat}{old:Array Value}(h:Row w a (limV l))(hg:w.heap[g]? = some (.cells old T fr))(ho:old.all flat32=true)(cs:Array Value):Row (w.setRow g cs) a (limV l):=by
 obtain ⟨b,off,h1,h2⟩:=h;refine ⟨b,off,h1,fun j hj=>?_⟩;have hc:=h2 j hj
 have hne:b≠g:=by
  rintro rfl;rw [Bs _ _ (by rw [Ah] at hj;exact hj)] at hc
  have hc2:old[off+j]? = some (.int .u32 ((l.getD j 0:Nat):Int)):=by
   simp only [World.cell?,hg] at hc;simpa using hc
  obtain ⟨hlt,he⟩:=Array.getElem?_eq_some_iff.1 hc2;have:=Array.all_eq_true.1 ho _ hlt;rw [he] at this;cases this
 have:((w.setRow g cs).heap[b]?)=w.heap[b]?:=setRow_other _ _ _ _ hne;simp only [World.cell?,this] at hc ⊢;exact hc
theorem IntR.flat32 {w:World}{v:Value}{x:Int}{g T:Nat}{fr:Nat×Nat}{old:Array Value}(h:IntR w v x)(hg:w.heap[g]? = some (.cells old T fr))(ho:old.all flat32=true)(cs:Array Value):IntR (w.setRow g cs) v x:=by
 obtain ⟨s,h1,a,c,h2,h3,r⟩:=h;exact ⟨s,h1,a,c,h2,h3,r.flat32 hg ho cs⟩
theorem FracR.flat32 {w:World}{v:Value}{q:Rat}{g T:Nat}{fr:Nat×Nat}{old:Array Value}(h:FracR w v q)(hg:w.heap[g]? = some (.cells old T fr))(ho:old.all flat32=true)(cs:Array Value):FracR (w.setRow g cs) v q:=by
 obtain ⟨b1,a1,n1,c1,b2,a2,n2,c2,h1,h2,h3⟩:=h;exact ⟨b1,a1,n1,c1,b2,a2,n2,c2,h1,h2.flat32 hg ho cs,h3.flat32 hg ho cs⟩
theorem Ahs:nf 0≤2048:=by unfold nf;rw [show (0:Rat).num=0 from rfl,show (((0:Rat).den:Nat):Int)=1 from rfl];unfold nl;rw [show (1:Int).natAbs=1 from rfl,show (0:Int).natAbs=0 from rfl,Al,Iu (by omega) (by omega)];decide
def FracN (lo:Nat)(w:World)(v:Value)(q:Rat):Prop:=FracR w v q∧NewF lo v
def PartN (lo:Nat)(w:World)(v:Value)(d:PD):Prop:=∃ b1 a1 n1 c1 b2 a2 n2 c2 b3 a3 n3 c3 b4 a4 n4 c4,v=.agg #[.string d.nm,.int .u8 d.kd,.bool b1,.slice a1 n1 c1,.bool b2,.slice a2 n2 c2,.bool b3,.slice a3 n3 c3,.bool b4,.slice a4 n4 c4,.int .i64 d.co]∧FracN lo w (.agg #[.bool b1,.slice a1 n1 c1,.bool b2,.slice a2 n2 c2]) d.p∧FracN lo w (.agg #[.bool b3,.slice a3 n3 c3,.bool b4,.slice a4 n4 c4]) d.q
def ElemN (lo:Nat)(w:World)(v:Value)(d:PD):Prop:=∃ b1 a1 n1 c1 b2 a2 n2 c2 b3 a3 n3 c3 b4 a4 n4 c4,v=.agg #[.int .u8 d.kd,.bool b1,.slice a1 n1 c1,.bool b2,.slice a2 n2 c2,.bool b3,.slice a3 n3 c3,.bool b4,.slice a4 n4 c4]∧FracN lo w (.agg #[.bool b1,.slice a1 n1 c1,.bool b2,.slice a2 n2 c2]) d.p∧FracN lo w (.agg #[.bool b3,.slice a3 n3 c3,.bool b4,.slice a4 n4 c4]) d.q
theorem FracN.ext {lo:Nat}{w w':World}{v:Value}{q:Rat}(h:FracN lo w v q)(e:Ext w w'):FracN lo w' v q:=⟨h.1.ext e,h.2⟩
theorem PartN.ext {lo:Nat}{w w':World}{v:Value}{d:PD}(h:PartN lo w v d)(e:Ext w w'):PartN lo w' v d:=by
 obtain ⟨b1,a1,n1,c1,b2,a2,n2,c2,b3,a3,n3,c3,b4,a4,n4,c4,h0,h1,h2⟩:=h;exact ⟨_,_,_,_,_,_,_,_,_,_,_,_,_,_,_,_,h0,h1.ext e,h2.ext e⟩
theorem ElemN.ext {lo:Nat}{w w':World}{v:Value}{d:PD}(h:ElemN lo w v d)(e:Ext w w'):ElemN lo w' v d:=by
 obtain ⟨b1,a1,n1,c1,b2,a2,n2,c2,b3,a3,n3,c3,b4,a4,n4,c4,h0,h1,h2⟩:=h;exact ⟨_,_,_,_,_,_,_,_,_,_,_,_,_,_,_,_,h0,h1.ext e,h2.ext e⟩
theorem Ow {ss:List FSpec}(lo:Nat)(q:Rat)(h:StableAll Ext ss):StableAll Ext (.pred (fun W v=>FracN lo W v q)::ss):=⟨fun _ _ _ e h=>FracN.ext h e,h⟩
theorem Aec {ss:List FSpec}(lo:Nat)(d:PD)(h:StableAll Ext ss):StableAll Ext (.pred (fun W v=>PartN lo W v d)::ss):=⟨fun _ _ _ e h=>PartN.ext h e,h⟩
theorem Aed {ss:List FSpec}(lo:Nat)(d:PD)(h:StableAll Ext ss):StableAll Ext (.pred (fun W v=>ElemN lo W v d)::ss):=⟨fun _ _ _ e h=>ElemN.ext h e,h⟩
theorem FracN.mono {lo lo':Nat}{w:World}{v:Value}{q:Rat}(h:FracN lo w v q)(hl:lo'≤lo):FracN lo' w v q:=
 ⟨h.1,fun b1 s1 b2 s2 e=>⟨fun g hg=>nT hl ((h.2 b1 s1 b2 s2 e).1 g hg),fun g hg=>nT hl ((h.2 b1 s1 b2 s2 e).2 g hg)⟩⟩
theorem Aeo (v:Value)(q:Rat)(w:World)(hq:nf q≤2048)(h:FracR w v q) :
  Calls Tryz.prog 155 #[v] w fun e w'=>∃ v',e=.returned v'∧FracN w.heap.size w' v' q∧Ext w w':=by
 have H:=mK h;obtain ⟨b1,a1,n1,c1,b2,a2,n2,c2,rfl⟩:=h.shape;clear h;have PL:=mK (fun v0 W (e:Ext w W) (h0:FracR W v0 0)=>Aba _ v0 q 0 W (nT hq (by decide)) (nT Ahs (by decide)) (H.out.ext e) h0);rw [show q+0=q from Rat.add_zero q] at PL;clear hq H;go_enter Tryz.func155,Tryz.ntmps155;go_wp2_with fail;obtain ⟨wb,hwb⟩:=nmE ((w.alloc (.cells #[.bool b1,.slice a1 n1 c1,.bool b2,.slice a2 n2 c2] 54)).alloc (.cells #[.bool false,.slice none 0 0,.bool false,.slice none 0 0] 54));have hE:=mK (aLe2 hwb);have z0:=mK (aL20 hwb);have zB:=mK (aL21 hwb);rw [←hwb];clear hwb;apply Ad [.val (.agg #[.bool b1,.slice a1 n1 c1,.bool b2,.slice a2 n2 c2]),.pred (fun W v=>FracR W v 0),.pred (fun W v=>FracN w.heap.size W v q)] (by kernel_rfl) (stable_vals _ (Fo _ (Ow _ _ trivial)));refine ⟨?l0,?_⟩
 case l0=>
  intro W hW hF;have hr:=hW.blk z0.out;with_reducible refine Ct ?zhw 54 (.tmp 1) ?zho (w.heap.size) 0 ?zhx 54 _ #[.bool b1,.slice a1 n1 c1,.bool b2,.slice a2 n2 c2] (0,0) _ hr ?zhs Tryz.underlying54 ?zhd ?zhi ?zh
  case zhw=>kernel_rfl
  case zho=>rfl
  case zhx=>kernel_rfl
  case zhs=>rfl
  case zhd=>rfl
  case zhi=>kernel_rfl
  case zh=>exact ⟨xR _,rfl⟩
 refine ⟨fun W hW hF=>?no,fun v4=>?_⟩
 case no=>
  clear hF;go_simp;refine (Ach W).mono ?_;rintro e w' ⟨v,rfl,h1,h2⟩;exact ⟨v,rfl,h2,h1⟩
 refine ⟨fun W hW hF=>?pl,fun v5=>fun W hW hF=>?fin⟩
 case pl=>
  have d4:Hid (FracR W v4 0):=hF.1 (by kernel_rfl);clear hF;go_simp;refine (PL.out v4 W (hE.out.trans hW) d4.out).mono ?_;rintro e w' ⟨v,rfl,h1,h2,h3⟩;refine ⟨v,rfl,h2,FracN.mono ⟨h1,h3⟩ (hE.out.trans hW).size⟩
 case fin=>
  have d5:FracN w.heap.size W v5 q:=hF.1 rfl;obtain ⟨b1',a1',n1',c1',b2',a2',n2',c2',rfl⟩:=d5.1.shape;have hBW:=hW.blk zB.out;have FN:=mK (show FracN w.heap.size (W.setRow (w.heap.size+1) #[.bool b1',.slice a1' n1' c1',.bool b2',.slice a2' n2' c2']) (.agg #[.bool b1',.slice a1' n1' c1',.bool b2',.slice a2' n2' c2']) q from ⟨d5.1.flat hBW (by simp [Au]) _,d5.2⟩);have FE:=mK ((hE.out.trans hW).row (show w.heap.size≤w.heap.size+1 by omega) #[.bool b1',.slice a1' n1' c1',.bool b2',.slice a2' n2' c2']);clear hF d5 hW;go_simp;go_wp2_with (refine wpList_store_row rfl 54 (.tmp 2) (.tmp 5) rfl (w.heap.size+1) #[.bool b1',.slice a1' n1' c1',.bool b2',.slice a2' n2' c2'] rfl rfl 54 _ hBW (by kernel_rfl) rfl (by kernel_rfl) ?_);exact bodyPost_ret (results_cell_row rfl _ _ (w.heap.size+1) 54 #[.bool b1',.slice a1' n1' c1',.bool b2',.slice a2' n2' c2'] (0,0) _ rfl (setRow_heap _ _ _ _ _ _ hBW) Tryz.underlying54 rfl (by kernel_rfl)) rfl ⟨_,rfl,FN.out,FE.out⟩
theorem Ae0 (v:Value)(d:PD)(w:World)(hp:nf d.p≤2048)(hq:nf d.q≤2048)(h:PartR w v d) :
  Calls Tryz.prog 89 #[v] w fun e w'=>∃ v',e=.returned v'∧PartN w.heap.size w' v' d∧Ext w w':=by
 obtain ⟨b1,a1,n1,c1,b2,a2,n2,c2,b3,a3,n3,c3,b4,a4,n4,c4,rfl,h1,h2⟩:=h;have T1:=mK (fun W (e:Ext w W)=>Aeo _ d.p W hp (h1.ext e));have T2:=mK (fun W (e:Ext w W)=>Aeo _ d.q W hq (h2.ext e));clear h1 h2 hp hq;go_enter Tryz.func89,Tryz.ntmps89;go_wp2_with fail;obtain ⟨wb,hwb⟩:=nmE ((w.alloc (.cells #[.string d.nm,.int .u8 d.kd,.bool b1,.slice a1 n1 c1,.bool b2,.slice a2 n2 c2,.bool b3,.slice a3 n3 c3,.bool b4,.slice a4 n4 c4,.int .i64 d.co] 58)).alloc (.cells #[.string ⟨#[]⟩,.int .u8 0,.bool false,.slice none 0 0,.bool false,.slice none 0 0,.bool false,.slice none 0 0,.bool false,.slice none 0 0,.int .i64 0] 58));have hE:=mK (aLe2 hwb);have z0:=mK (aL20 hwb);have zB:=mK (aL21 hwb);rw [←hwb];clear hwb;apply Ad [.val (.pointer (some ⟨w.heap.size,0,none⟩)),.val (.string d.nm),.val (.pointer (some ⟨w.heap.size,1,none⟩)),.val (.pointer (some ⟨w.heap.size,1,none⟩)),.val (.int .u8 d.kd),.val (.pointer (some ⟨w.heap.size,1,none⟩)),.val (.pointer (some ⟨w.heap.size,2,none⟩)),.val (.agg #[.bool b1,.slice a1 n1 c1,.bool b2,.slice a2 n2 c2]),.pred (fun W v=>FracN w.heap.size W v d.p),.val (.pointer (some ⟨w.heap.size,1,none⟩)),.val (.pointer (some ⟨w.heap.size,6,none⟩)),.val (.agg #[.bool b3,.slice a3 n3 c3,.bool b4,.slice a4 n4 c4]),.pred (fun W v=>FracN w.heap.size W v d.q),.pred (fun W v=>ElemN w.heap.size W v d),.val (.pointer (some ⟨w.heap.size,10,none⟩)),.val (.int .i64 d.co),.pred (fun W v=>PartN w.heap.size W v d)] (by kernel_rfl) (stable_vals _ (stable_vals _ (stable_vals _ (stable_vals _ (stable_vals _ (stable_vals _ (stable_vals _ (stable_vals _ (Ow _ _ (stable_vals _ (stable_vals _ (stable_vals _ (Ow _ _ (Aed _ _ (stable_vals _ (stable_vals _ (Aec _ _ trivial)))))))))))))))));refine ⟨fun W hW _=>by go_simp;first|exact ⟨xR _,rfl⟩|exact xR _,?_⟩;refine ⟨fun W hW _=>?k0,?_⟩
 case k0=>
  have hc:W.cell? ⟨w.heap.size,0,none⟩=some (.string d.nm):=Aa (hW.blk z0.out) 0;go_simp;first|exact ⟨xR _,rfl⟩|exact xR _
 refine ⟨fun W hW _=>by go_simp;first|exact ⟨xR _,rfl⟩|exact xR _,?_⟩;refine ⟨fun W hW _=>by go_simp;first|exact ⟨xR _,rfl⟩|exact xR _,?_⟩;refine ⟨fun W hW _=>?k1,?_⟩
 case k1=>
  have hc:W.cell? ⟨w.heap.size,1,none⟩=some (.int .u8 d.kd):=Aa (hW.blk z0.out) 1;go_simp;first|exact ⟨xR _,rfl⟩|exact xR _
 refine ⟨fun W hW _=>by go_simp;first|exact ⟨xR _,rfl⟩|exact xR _,?_⟩;refine ⟨fun W hW _=>by go_simp;first|exact ⟨xR _,rfl⟩|exact xR _,?_⟩;refine ⟨?l1,?_⟩
 case l1=>
  intro W hW hF;have hr:=hW.blk z0.out;with_reducible refine Ct ?zhw 54 (.tmp 9) ?zho (w.heap.size) 2 ?zhx 58 _ #[.bool b1,.slice a1 n1 c1,.bool b2,.slice a2 n2 c2] (0,0) _ hr ?zhs Tryz.underlying54 ?zhd ?zhi ?zh
  case zhw=>kernel_rfl
  case zho=>rfl
  case zhx=>kernel_rfl
  case zhs=>rfl
  case zhd=>rfl
  case zhi=>kernel_rfl
  case zh=>exact ⟨xR _,rfl⟩
 refine ⟨fun W hW hF=>?c1,fun v11=>?_⟩
 case c1=>
  clear hF;go_simp;refine (T1.out W (hE.out.trans hW)).mono ?_;rintro e w' ⟨v,rfl,h1,h2⟩;exact ⟨v,rfl,h2,h1.mono (hE.out.trans hW).size⟩
 refine ⟨fun W hW _=>by go_simp;first|exact ⟨xR _,rfl⟩|exact xR _,?_⟩;refine ⟨fun W hW _=>by go_simp;first|exact ⟨xR _,rfl⟩|exact xR _,?_⟩;refine ⟨?l2,?_⟩
 case l2=>
  intro W hW hF;have hr:=hW.blk z0.out;with_reducible refine Ct ?zhw 54 (.tmp 13) ?zho (w.heap.size) 6 ?zhx 58 _ #[.bool b3,.slice a3 n3 c3,.bool b4,.slice a4 n4 c4] (0,0) _ hr ?zhs Tryz.underlying54 ?zhd ?zhi ?zh
  case zhw=>kernel_rfl
  case zho=>rfl
  case zhx=>kernel_rfl
  case zhs=>rfl
  case zhd=>rfl
  case zhi=>kernel_rfl
  case zh=>exact ⟨xR _,rfl⟩
 refine ⟨fun W hW hF=>?c2,fun v15=>?_⟩
 case c2=>
  clear hF;go_simp;refine (T2.out W (hE.out.trans hW)).mono ?_;rintro e w' ⟨v,rfl,h1,h2⟩;exact ⟨v,rfl,h2,h1.mono (hE.out.trans hW).size⟩
 refine ⟨fun W hW hF=>?bE,fun v16=>?_⟩
 case bE=>
  have dq:FracN w.heap.size W v15 d.q:=hF.1 (by kernel_rfl);have dp:FracN w.heap.size W v11 d.p:=hF.2.1 (by kernel_rfl);clear hF;obtain ⟨b1',a1',n1',c1',b2',a2',n2',c2',rfl⟩:=dp.1.shape;obtain ⟨b3',a3',n3',c3',b4',a4',n4',c4',rfl⟩:=dq.1.shape;replace dp:=mK dp;replace dq:=mK dq;go_simp;exact ⟨xR _,_,_,_,_,_,_,_,_,_,_,_,_,_,_,_,_,rfl,dp.out,dq.out⟩
 refine ⟨fun W hW _=>by go_simp;first|exact ⟨xR _,rfl⟩|exact xR _,?_⟩;refine ⟨fun W hW _=>?k10,?_⟩
 case k10=>
  have hc:W.cell? ⟨w.heap.size,10,none⟩=some (.int .i64 d.co):=Aa (hW.blk z0.out) 10;go_simp;first|exact ⟨xR _,rfl⟩|exact xR _
 refine ⟨fun W hW hF=>?bP,fun v19=>fun W hW hF=>?fin⟩
 case bP=>
  have dE:ElemN w.heap.size W v16 d:=hF.1 (by kernel_rfl);clear hF;obtain ⟨b1',a1',n1',c1',b2',a2',n2',c2',b3',a3',n3',c3',b4',a4',n4',c4',rfl,e1,e2⟩:=dE;replace e1:=mK e1;replace e2:=mK e2;go_simp;exact ⟨xR _,_,_,_,_,_,_,_,_,_,_,_,_,_,_,_,_,rfl,e1.out,e2.out⟩
 case fin=>
  have dP:PartN w.heap.size W v19 d:=hF.1 rfl;obtain ⟨b1',a1',n1',c1',b2',a2',n2',c2',b3',a3',n3',c3',b4',a4',n4',c4',rfl,e1,e2⟩:=dP;have hBW:=hW.blk zB.out;have FP:=mK (show PartN w.heap.size (W.setRow (w.heap.size+1) #[.string d.nm,.int .u8 d.kd,.bool b1',.slice a1' n1' c1',.bool b2',.slice a2' n2' c2',.bool b3',.slice a3' n3' c3',.bool b4',.slice a4' n4' c4',.int .i64 d.co]) (.agg #[.string d.nm,.int .u8 d.kd,.bool b1',.slice a1' n1' c1',.bool b2',.slice a2' n2' c2',.bool b3',.slice a3' n3' c3',.bool b4',.slice a4' n4' c4',.int .i64 d.co]) d from ⟨_,_,_,_,_,_,_,_,_,_,_,_,_,_,_,_,rfl,⟨e1.1.flat32 hBW (by simp [flat32]) _,e1.2⟩,⟨e2.1.flat32 hBW (by simp [flat32]) _,e2.2⟩⟩);have FE:=mK ((hE.out.trans hW).row (show w.heap.size≤w.heap.size+1 by omega) #[.string d.nm,.int .u8 d.kd,.bool b1',.slice a1' n1' c1',.bool b2',.slice a2' n2' c2',.bool b3',.slice a3' n3' c3',.bool b4',.slice a4' n4' c4',.int .i64 d.co]);clear hF e1 e2 hW;go_simp;go_wp2_with (refine wpList_store_row rfl 58 (.tmp 2) (.tmp 19) rfl (w.heap.size+1) #[.string d.nm,.int .u8 d.kd,.bool b1',.slice a1' n1' c1',.bool b2',.slice a2' n2' c2',.bool b3',.slice a3' n3' c3',.bool b4',.slice a4' n4' c4',.int .i64 d.co] rfl rfl 58 _ hBW (by kernel_rfl) rfl (by kernel_rfl) ?_);exact bodyPost_ret (results_cell_row rfl _ _ (w.heap.size+1) 58 #[.string d.nm,.int .u8 d.kd,.bool b1',.slice a1' n1' c1',.bool b2',.slice a2' n2' c2',.bool b3',.slice a3' n3' c3',.bool b4',.slice a4' n4' c4',.int .i64 d.co] (0,0) _ rfl (setRow_heap _ _ _ _ _ _ hBW) Tryz.underlying58 rfl (by kernel_rfl)) rfl ⟨_,rfl,FP.out,FE.out⟩
theorem AllV.one {os:List (PD×Value)}(h:AllV os):∀ u∈Af os,u.oneCell'=true:=by
 intro u hu;obtain ⟨x,hx,hux⟩:=List.mem_flatMap.1 hu;obtain ⟨p,q,e⟩:=h x hx;rw [e] at hux;exact Hv x.1 p q u hux
theorem Pe (w:World)(base:Nat)(ty:TypeId)(v:Value)(n:Nat)(xs:List Value)(hown:w.ownsRow base 58 11 v n xs)(a:Option Addr)(m c:Nat)(news:List Value)(hl:news.length=m*11)
  (hsrc:(a=none∧m=0∧c=0)∨∃ ad,a=some ad∧∀ j u,news[j]? = some u→w.cell? (ad.add j)=some u) (h1:∀ u∈news,u.oneCell'=true) (hb:n+m≤1000) (hbase:base≤w.heap.size) :
  ∃ v' w',(Builtin.append_ #[26,26] ty #[v,.slice a m c]).run Tryz.prog w=.ok v' w'∧w'.ownsRow base 58 11 v' (n+m) (xs++news)∧w.grownBy w' v.ownBlock∧(v'.ownBlock=v.ownBlock∨v'.ownBlock=some w.heap.size):=by
 obtain ⟨i0,hi,hz0,hz1,hz2⟩:=info_parts Qk;rcases hsrc with ⟨rfl,rfl,rfl⟩|⟨ad,rfl,hc⟩
 ·have hn:news=[]:=List.eq_nil_of_length_eq_zero (by simpa using hl)
  subst hn;refine ⟨v,w,?_,by simpa using hown,⟨rfl,rfl,rfl,nR _,fun _ _ _=>rfl⟩,.inl rfl⟩;exact run_append_owned_none (P:=Tryz.prog) w base 26 ty 58 i0 11 Tryz.underlying26 hi v n xs hown
 ·obtain ⟨v',w',h2,h3,h4,-,h5⟩:=run_append_own_at (P:=Tryz.prog) w base 26 ty 58 i0 zeroPart 11 160 Tryz.underlying26 hi hz0 hz1 hz2 rfl (by decide) v n xs hown ad m c news hl hc h1 (by unfold maxLen;omega) (by omega) hbase
  exact ⟨v',w',h2,h3,h4,h5⟩
theorem Bh {ops:Array Oper}{rest:List Oper}{o:Oper}{act:Act}{w:World}{Q:Exit→Act→World→Prop}(hgd:o.guard=none)(s x:Operand)(ho:o.op=.call { callee:=.builtin .append,args:=#[s,x],argTypes:=#[26,26] })
  (base:Nat) (v:Value) (n:Nat) (xs:List Value) (hs:act.eval s=v) (hown:w.ownsRow base 58 11 v n xs) (a:Option Addr) (m c:Nat) (news:List Value) (hx:act.eval x=.slice a m c) (hl:news.length=m*11)
  (hsrc:(a=none∧m=0∧c=0)∨∃ ad,a=some ad∧∀ j u,news[j]? = some u→w.cell? (ad.add j)=some u) (h1:∀ u∈news,u.oneCell'=true) (hb:n+m≤1000) (hbase:base≤w.heap.size)
  (h:∀ v' w',w'.ownsRow base 58 11 v' (n+m) (xs++news)→w.grownBy w' v.ownBlock→(v'.ownBlock=v.ownBlock∨v'.ownBlock=some w.heap.size)→wpList Tryz.prog ops Q rest (act.put o.dst v') w') :
  wpList Tryz.prog ops Q (o::rest) act w:=by
 refine wpList_plain hgd fun K hK=>?_;obtain ⟨v',w',hr,h2,h3,h4⟩:=Pe w base o.type v n xs hown a m c news hl hsrc h1 hb hbase;unfold Oper.wp execOp;simp only [ho,resolve,invoke,builtin,Sem.run_bind,Sem.run_pure,Result.andThen_ok,List.map_toArray,List.map_cons,List.map_nil,hs,hx,hr];exact hK _ _ (h v' w' h2 h3 h4)
theorem Qj (d:PD)(v:Value):∀ {es:List (PD×Value)},Rising es→Ay d.nm es=none→insP (d,v) es=es.take (Bk d.nm es)++(d,v)::es.drop (Bk d.nm es)
 | [],_,_=>rfl
 | y::r,hr,hf=>by
  obtain ⟨h1,h2⟩:=List.pairwise_cons.1 hr
  unfold Ay at hf
  rw [List.find?_cons] at hf
  have hne:Bb d.nm y=false:=by
   cases hn:Bb d.nm y with
   | true=>rw [hn] at hf;cases hf
   | false=>rfl
  rw [hne] at hf;have ih:=Qj d v h2 hf
  have hne':y.1.nm.data.toList≠d.nm.data.toList:=by
   unfold Bb at hne;simpa using hne
  unfold insP Bk;by_cases hb:bytesBefore d.nm.data.toList y.1.nm.data.toList=true
  ·rw [if_pos hb]
   have hbn:befN d.nm y=false:=by
    unfold befN;cases h:bytesBefore y.1.nm.data.toList d.nm.data.toList with
    | false=>rfl
    | true=>
     have:=WideShapes.bytes_trans _ _ _ hb h;rw [WideAt.bytes_irrefl] at this;cases this
   rw [List.takeWhile_cons_of_neg (by rw [hbn];simp)];rfl
  ·rw [if_neg hb]
   have hbn:befN d.nm y=true:=by
    unfold befN;rcases WideAt.bytes_total _ _ hne' with h|h
    ·exact h
    ·exact absurd h hb
   rw [List.takeWhile_cons_of_pos hbn,List.length_cons,List.take_succ_cons,List.drop_succ_cons,List.cons_append,ih];rfl
end Go.Proofs.YteogdoglboddhaaGreatDoor
namespace Go.Proofs.YteogdoglboddhaaGreatDoor
set_option maxRecDepth 100000
open Go Go.RowKit Go.Proofs Go.Lib
theorem Aji {q r j k:Nat}(h:j<k):dg (q*10 ^ k+r) j=dg r j:=by
 have e:q*10 ^ k=10 ^ j*(q*10 ^ (k-j-1)*10):=by
  have:10 ^ k=10 ^ j*(10 ^ (k-j-1)*10):=by
   rw [←Nat.pow_succ,←Nat.pow_add];congr 1;omega
  rw [this];grind
 have hd:(q*10 ^ k+r)/10 ^ j%10=r/10 ^ j%10:=by
  rw [e,Nat.mul_add_div (Nat.pow_pos (by omega)),Nat.mul_add_mod']
 unfold dg;rw [hd]
theorem Aii {q r i k:Nat}(h:r<10 ^ k):dg (q*10 ^ k+r) (k+i)=dg q i:=by
 have hd:(q*10 ^ k+r)/10 ^ k=q:=by
  rw [Nat.mul_comm,Nat.mul_add_div (Nat.pow_pos (by omega)),Nat.div_eq_of_lt h,Nat.add_zero]
 unfold dg;rw [Nat.pow_add,←Nat.div_div_eq_div_mul,hd]
theorem Dv (q:Nat)(h:0<q):10 ^ (nDigits q-1)≤q:=by
 induction q using Nat.strongRecOn with
 | _ q ih=>
  by_cases h1:q<10
  ·rw [nDigits_small h1]
   exact h
  ·have:=ih (q/10) (by omega) (by omega)
   have hp:=nDigits_pos (q/10);rw [nDigits_big h1,show nDigits (q/10)+1-1=(nDigits (q/10)-1)+1 by omega,Nat.pow_succ];omega
theorem Ru {q r:Nat}(hq:0<q):∀ k,r<10 ^ k→nDigits (q*10 ^ k+r)=nDigits q+k:=by
 intro k hr;have h1:=lt_pow_nDigits q;have hp:=nDigits_pos q;have h2:=Dv q hq;have e:nDigits q+k=(nDigits q+k-1)+1:=by omega
 rw [e];refine nDigits_unique _ _ ?_ ?_
 ·rw [show nDigits q+k-1=nDigits q-1+k by omega,Nat.pow_add]
  exact nT (Nat.mul_le_mul_right _ h2) (Nat.le_add_right _ _)
 ·rw [show nDigits q+k-1+1=nDigits q+k by omega,Nat.pow_add]
  calc q*10 ^ k+r<q*10 ^ k+10 ^ k:=by omega
   _=(q+1)*10 ^ k:=by rw [Nat.add_mul,Nat.one_mul]
   _≤10 ^ nDigits q*10 ^ k:=Nat.mul_le_mul_right _ h1
def nine (r:Nat):List UInt8:=(List.range 9).map fun t=>dg r (8-t)
theorem Af8 {q r:Nat}(hq:0<q)(hr:r<1000000000):decDigits (q*1000000000+r)=decDigits q++nine r:=by
 have hr':r<10 ^ 9:=hr;rw [decDigits_eq,show q*1000000000+r=q*10 ^ 9+r from rfl,Ru hq 9 hr',List.range_add,List.map_append,decDigits_eq q];congr 1
 ·refine List.map_congr_left fun t ht=>?_
  have:=List.mem_range.1 ht;rw [show nDigits q+9-1-t=9+(nDigits q-1-t) by omega,Aii hr']
 ·unfold nine
  rw [List.map_map];refine List.map_congr_left fun t ht=>?_;have:=List.mem_range.1 ht;show dg _ (nDigits q+9-1-(nDigits q+t))=_
  rw [show nDigits q+9-1-(nDigits q+t)=8-t by omega,Aji (by omega)]
end Go.Proofs.YteogdoglboddhaaGreatDoor
namespace Go.Proofs.YteogdoglboddhaaGreatDoor
set_option maxRecDepth 100000
open Go Go.RowKit Go.Proofs
theorem sizeBuilder:(Tryz.prog.info? 117).map (·.size)=some 2:=by kernel_rfl
theorem liesBuilder:liesAt Tryz.prog Tryz.prog.depth 117 (2/Tryz.prog.cellsOf 117) 0 117 1=true:=by kernel_rfl
theorem infoByte:(Tryz.prog.info? 5).map (fun i=>(i.zero,i.size,i.bytes))=some (some (.int .u8 0),1,1):=by kernel_rfl
theorem Nz (b:Nat)(w:World)(h0:w.cell? ⟨b,0,none⟩=some (.pointer (some ⟨b,0,none⟩))) :
  Calls Tryz.prog 181 #[.pointer (some ⟨b,0,none⟩)] w fun e w'=>e=.returned (.tuple #[])∧w'=w:=by
 obtain ⟨j,hj,_⟩:=Option.map_eq_some_iff.1 sizeBuilder;go_enter Tryz.func181,Tryz.ntmps181;go_wp2;rw [Lib.run_neq_ptr_same w _ Tryz.underlying114 hj];go_wp2;go_end0;exact ⟨rfl,rfl⟩
theorem Lt (b:Nat)(w:World)(h0:w.cell? ⟨b,0,none⟩=some (.pointer none))(hsh:w.shape? b=some (117,2))(hfz:w.frozen? ⟨b,0,none⟩=false) :
  Calls Tryz.prog 181 #[.pointer (some ⟨b,0,none⟩)] w fun e w'=>e=.returned (.tuple #[])∧w'=w.setCell ⟨b,0,none⟩ (.pointer (some ⟨b,0,none⟩)):=by
 obtain ⟨j,hj,hjs⟩:=Option.map_eq_some_iff.1 sizeBuilder;go_enter Tryz.func181,Tryz.ntmps181;go_wp2;rw [Lib.run_to_unsafe w ⟨b,0,none⟩ Tryz.underlying114 Tryz.underlying266 hj (by rw [hjs];decide) hsh (Nat.zero_lt_succ 1)];simp only [Result.andThen];rw [Oper.upon_value];go_wp2;rw [run_callFunc_extern Tryz.func222 (by kernel_rfl) (by kernel_rfl) (by kernel_rfl) (e:=Extern.AbiNoEscape.same) (by kernel_rfl)];rw [Lib.run_noEscape];simp only [Result.andThen];rw [Oper.upon_value];go_wp2;rw [Lib.run_from_unsafe w ⟨b,0,none⟩ Tryz.underlying266 Tryz.underlying114 hj hsh liesBuilder];simp only [Result.andThen];rw [Oper.upon_value];go_wp2;go_end0;exact ⟨rfl,rfl⟩
theorem Yb (B b:Nat)(bs:List Value)(w:World)(h:Lib.IsBuilder 117 5 B b bs w) :
  Calls Tryz.prog 181 #[.pointer (some ⟨b,0,none⟩)] w fun e w'=>e=.returned (.tuple #[])∧(Lib.BuilderAt 117 5 B b (.pointer (some ⟨b,0,none⟩)) bs w'∧Below B w w'):=by
 rcases h with h|h
 ·refine (Lt b w h.cell0 h.shape h.frozen0).mono ?_
  rintro e w' ⟨rfl,rfl⟩;exact ⟨rfl,h.used _,(Below.refl B w).setCell (p:=⟨b,0,none⟩) h.1 _⟩
 ·refine (Nz b w h.cell0).mono ?_
  rintro e w' ⟨rfl,rfl⟩;exact ⟨rfl,h,Below.refl B _⟩
theorem Hc (B b:Nat)(bs:List Value)(s:ByteArray)(w:World)(h:Lib.IsBuilder 117 5 B b bs w)(hlen:bs.length+s.size≤140737488355328)(hBw:B≤w.heap.size) :
  Calls Tryz.prog 111 #[.pointer (some ⟨b,0,none⟩),.string s] w fun e w'=>e=.returned (.tuple #[.int .i64 s.size,.nilIface])∧(Lib.BuilderAt 117 5 B b (.pointer (some ⟨b,0,none⟩)) (bs++Lib.strCells s) w'∧Below B w w'):=by
 obtain ⟨i0,hi,hz0,hz1,hz2⟩:=info_parts infoByte;go_enter Tryz.func111,Tryz.ntmps111;go_wp2_with (go_at_call 181;refine (Yb B b bs _ h).mono ?_);rintro e w1 ⟨rfl,h1,hb1⟩;obtain ⟨hB,v,hbk,hown,hne⟩:=h1;have c0:w1.cell? ⟨b,0,none⟩=some (.pointer (some ⟨b,0,none⟩)):=by rw [Lib.cell_of_heap hbk];rfl
 have c1:w1.cell? ⟨b,1,none⟩=some v:=by rw [Lib.cell_of_heap hbk];rfl
 go_wp2_with (at_builtin;refine Lib.wpList_append_own_string _ rfl _ _ 115 9 rfl B 5 i0 Tryz.underlying115 Tryz.underlying9 hi hz0 hz1 hz2 _ _ _ rfl hown s rfl ?c3 ?c4 ?c5 ?_)
 case c3=>unfold maxLen;omega
 case c4=>omega
 case c5=>have:=hb1.size;omega
 intro v' w2 hown' hgrow _
 have hlt:b<w1.heap.size:=by
  rcases Nat.lt_or_ge b w1.heap.size with h'|h'
  ·exact h'
  ·simp [Array.getElem?_eq_none h'] at hbk
 have hb2:w2.heap[b]? = some (.cells #[.pointer (some ⟨b,0,none⟩),v] 117 (0,0)):=by
  rw [hgrow.block b hlt (fun e=>hne e.symm)];exact hbk
 have d0:w2.cell? ⟨b,0,none⟩=some (.pointer (some ⟨b,0,none⟩)):=by rw [Lib.cell_of_heap hb2];rfl
 have d1:w2.cell? ⟨b,1,none⟩=some v:=by rw [Lib.cell_of_heap hb2];rfl
 have f1:w2.frozen? ⟨b,1,none⟩=false:=Lib.frozen_of_heap hb2 1
 obtain ⟨ao,n',cap,rfl⟩:∃ ao n' cap,v'=.slice ao n' cap:=by
  rcases hown'.2 with ⟨hv,_⟩|⟨g,cap,cur,hv,_⟩
  ·exact ⟨_,_,_,hv⟩
  ·exact ⟨_,_,_,hv⟩
 go_wp2;go_ret2;refine ⟨rfl,?_,?_⟩
 ·exact Lib.BuilderAt.put (T:=117) (e:=5) hB hb2 (bs':=bs++Lib.strCells s) (by simpa [Lib.strCells_length] using hown') (by decide)
 ·exact (hb1.grown hgrow (by have:=hb1.size;omega) (fun k hk=>(hown.lt k hk).1)).setCell (p:=⟨b,1,none⟩) hB _
theorem Aik (B b:Nat)(bs:List Value)(c:Int)(w:World)(h:Lib.IsBuilder 117 5 B b bs w)(hlen:bs.length+1≤140737488355328)(hBw:B≤w.heap.size) :
  Calls Tryz.prog 227 #[.pointer (some ⟨b,0,none⟩),.int .u8 c] w fun e w'=>e=.returned .nilIface∧(Lib.BuilderAt 117 5 B b (.pointer (some ⟨b,0,none⟩)) (bs++[.int .u8 c]) w'∧Below B w w'):=by
 obtain ⟨i0,hi,hz0,hz1,hz2⟩:=info_parts infoByte;go_enter Tryz.func227,Tryz.ntmps227;go_wp2_with (go_at_call 181;refine (Yb B b bs _ h).mono ?_);rintro e w1 ⟨rfl,h1,hb1⟩;obtain ⟨hB,v,hbk,hown,hne⟩:=h1;have c0:w1.cell? ⟨b,0,none⟩=some (.pointer (some ⟨b,0,none⟩)):=by rw [Lib.cell_of_heap hbk];rfl
 have c1:w1.cell? ⟨b,1,none⟩=some v:=by rw [Lib.cell_of_heap hbk];rfl
 go_wp2_with (at_builtin;refine wpList_append_own _ rfl _ _ 115 rfl B 5 i0 (.int .u8 0) 1 1 Tryz.underlying115 hi hz0 hz1 hz2 rfl (by decide) _ _ _ rfl (hown.alloc _) ⟨w1.heap.size,0,none⟩ 1 1 [.int .u8 c] rfl rfl ?c1 ?c2 ?c3 ?c4 ?c5 ?_)
 case c1=>
  intro j u hj;match j,hj with
  | 0,hj=>simp at hj;subst hj;simp [Addr.add]
 case c2=>intro u hu;simp at hu;subst hu;rfl
 case c3=>unfold maxLen;omega
 case c4=>omega
 case c5=>have:=hb1.size;simp;omega
 intro v' w2 hown' hgrow _
 have hlt:b<w1.heap.size:=by
  rcases Nat.lt_or_ge b w1.heap.size with h'|h'
  ·exact h'
  ·simp [Array.getElem?_eq_none h'] at hbk
 have hb2:w2.heap[b]? = some (.cells #[.pointer (some ⟨b,0,none⟩),v] 117 (0,0)):=by
  rw [hgrow.block b (by simp;omega) (fun e=>hne e.symm),Lib.alloc_old w1 _ b hlt];exact hbk
 have d0:w2.cell? ⟨b,0,none⟩=some (.pointer (some ⟨b,0,none⟩)):=by rw [Lib.cell_of_heap hb2];rfl
 have d1:w2.cell? ⟨b,1,none⟩=some v:=by rw [Lib.cell_of_heap hb2];rfl
 have f1:w2.frozen? ⟨b,1,none⟩=false:=Lib.frozen_of_heap hb2 1
 obtain ⟨g,cap,rfl⟩:∃ g cap,v'=.slice (some ⟨g,0,none⟩) (bs.length+1) cap:=by
  rcases hown'.2 with ⟨_,h0⟩|⟨g,cap,cur,hv,_⟩
  ·omega
  ·exact ⟨g,cap,hv⟩
 go_wp2;go_ret;refine ⟨rfl,?_,?_⟩
 ·exact Lib.BuilderAt.put (T:=117) (e:=5) hB hb2 (bs':=bs++[.int .u8 c]) (by simpa using hown') (by decide)
 ·exact ((hb1.alloc (by have:=hb1.size;omega) _).grown hgrow (by have:=hb1.size;simp;omega) (fun k hk=>(hown.lt k hk).1)).setCell (p:=⟨b,1,none⟩) hB _
end Go.Proofs.YteogdoglboddhaaGreatDoor
namespace Go.Proofs.YteogdoglboddhaaGreatDoor
set_option maxRecDepth 100000
open Go Go.RowKit Go.Proofs Go.Lib
def val9:List Nat→Nat
 | []=>0
 | p::r=>p+1000000000*val9 r
def txt9:List Nat→List UInt8
 | []=>[]
 | [p]=>decDigits p
 | p::q::r=>txt9 (q::r)++nine p
theorem Ly (r:Nat):∀ ps:List Nat,val9 (ps++[r])=val9 ps+1000000000 ^ ps.length*r
 | []=>by simp [val9]
 | p::ps=>by
  have ih:=Ly r ps
  simp only [List.cons_append,val9,ih,List.length_cons,Nat.pow_succ]
  grind
theorem Vi:∀ ps:List Nat,0<ps.getLastD 0→0<val9 ps
 | [],h=>by simp at h
 | [p],h=>by simpa [val9] using h
 | p::q::r,h=>by
  have:=Vi (q::r) (by simpa using h)
  unfold val9
  omega
theorem Gt:∀ ps:List Nat,ps≠[]→(∀ p∈ps,p<1000000000)→(ps.length=1∨0<ps.getLastD 0)→txt9 ps=decDigits (val9 ps)
 | [],h,_,_=>absurd rfl h
 | [p],_,_,_=>by simp [txt9,val9]
 | p::q::r,_,hp,hl=>by
  have hl':0<(q::r).getLastD 0:=by
   rcases hl with h|h
   ·simp at h
   ·simpa using h
  have ih:=Gt (q::r) (by simp) (fun x hx=>hp x (by simp [hx])) (.inr hl');have hv:=Vi (q::r) hl';rw [txt9,ih,show val9 (p::q::r)=val9 (q::r)*1000000000+p by rw [val9,Nat.mul_comm,Nat.add_comm],Af8 hv (hp p (by simp))]
theorem Lz (p:Nat){ps:List Nat}(h:ps≠[]):txt9 (p::ps)=txt9 ps++nine p:=by
 cases ps with
 | nil=>exact absurd rfl h
 | cons q r=>rfl
theorem Ui {p:Nat}(hp:p<1000000000):nine p=List.replicate (9-nDigits p) 48++decDigits p:=by
 have h9:nDigits p≤9:=by
  rcases Nat.lt_or_ge 9 (nDigits p) with h|h
  ·rcases Nat.eq_zero_or_pos p with h0|h0
   ·subst h0
    rw [nDigits_small (by omega)] at h;omega
   ·have h1:=Dv p h0
    have h2:10 ^ 9≤10 ^ (nDigits p-1):=Nat.pow_le_pow_right (by omega) (by omega);omega
  ·exact h
 unfold nine;rw [decDigits_eq,show (9:Nat)=(9-nDigits p)+nDigits p by omega,List.range_add,List.map_append,List.map_map];congr 1
 ·rw [show (9-nDigits p)+nDigits p-nDigits p=9-nDigits p by omega]
  refine List.ext_getElem (by simp) fun i h1 h2=>?_;simp only [List.getElem_map,List.getElem_range,List.getElem_replicate];have hi:i<9-nDigits p:=by simpa using h1
  unfold dg;rw [Nat.div_eq_of_lt (Nat.lt_of_lt_of_le (lt_pow_nDigits p) (Nat.pow_le_pow_right (by omega) (by omega)))];rfl
 ·refine List.map_congr_left fun t ht=>?_
  have:=List.mem_range.1 ht;show dg p (8-(9-nDigits p+t))=_
  rw [show 8-(9-nDigits p+t)=nDigits p-1-t by omega]
end Go.Proofs.YteogdoglboddhaaGreatDoor
