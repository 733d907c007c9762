/-
  proof.Encode: proofs of a best choice. proof.Encode of any proof. What proof.Decode keeps while it reads; the words of a text. Two readings of one proof are alike. proof.Decode: the loop over the bench, and its end. What reading a best choice keeps: no program is walked here.
-/
import Derived.Test.YtlknpnommcohkaaGreatDoorKAN
import Derived.Test.YtlknpnommcohkaaGreatDoorKAI
import Derived.Test.YtlknpnommcohkaaGreatDoorKAG
import Derived.Test.YtlknpnommcohkaaGreatDoorKAL
import Derived.Deep.DeepCutAuto
import Derived.Deep.CutRange
import Derived.Deep.CutBlock
import Derived.Deep.RegionLaw
import Derived.Deep.AppendLies
set_option maxHeartbeats 6400000
namespace Go.Proofs.YtlknpnommcohkaaGreatDoor
set_option maxRecDepth 100000
open Go Go.RowKit Go.Proofs Go.Lib
theorem Ad5 {n:Int}(h0:0≤n)(h:n≤9223372036854775807):(itoa n).length≤19:=by
 unfold itoa;rw [if_neg (by omega),decDigits_length];rcases Nat.lt_or_ge 19 (nDigits n.toNat) with hk|hk
 ·rcases Nat.eq_zero_or_pos n.toNat with e|e
  ·rw [e,nDigits_small (by omega)] at hk
   omega
  ·have h1:=Cd n.toNat e
   have h2:10 ^ 19≤10 ^ (nDigits n.toNat-1):=Nat.pow_le_pow_right (by omega) (by omega);omega
 ·exact hk
theorem Abt:∀ l:List Int,(∀ k∈l,0≤k∧k≤1073741824)→lenW (l.map itoa)≤l.length*11
 | [],_=>by simp [lenW]
 | x::r,h=>by
  obtain ⟨h1,h2⟩:=h x (List.mem_cons_self ..)
  have h1:=Eh h1 h2
  have h2:=Abt r fun y hy=>h y (List.mem_cons_of_mem _ hy)
  simp only [List.map_cons,lenW,List.length_cons]
  omega
theorem Vy {d:PD}(h:okPD d):(nmL d).length≤32:=by
 have:=h.2.2.1;unfold Eq at this;simp only [Bool.and_eq_true,decide_eq_true_eq] at this;exact this.2.1
theorem Af1 {d:PD}(h:okPD d):lenW (wdP d)≤131130:=by
 unfold wdP;have h1:=Vy h;have h2:=Eh (La h).1 (La h).2;have h3:=Abu (Ts h);simp only [lenW];omega
theorem Wl:∀ l:List PD,(∀ e∈l,okPD e)→lenW (l.flatMap wdP)≤l.length*131130
 | [],_=>by simp [lenW]
 | e::r,h=>by
  have h1:=Af1 (h e (List.mem_cons_self ..))
  have h2:=Wl r fun y hy=>h y (List.mem_cons_of_mem _ hy)
  simp only [List.flatMap_cons,Cr,List.length_cons]
  omega
theorem Gm {a:WL}(h:Ai 32 a≠[])(b:WL):Ai 32 (a++b)≠[]:=fun e=>by
 have:=Fc b a
 rw [e] at this
 exact h (List.eq_nil_of_length_eq_zero (Nat.le_zero.1 this))
theorem Ab6 (x:PVd)(d:AD)(t:TK)(pk:List Int)(pw':Rat)(co':Int)(w:World)(h:AnyPf w x d)(hb:d.be.length≤1099511627776∧d.sp.length≤1099511627776∧d.pt.length≤1099511627776∧d.pk.length≤1099511627776)(hm:Bw x d=true)
  (hf:PfR w x (.best t pk pw' co')) (hok:okPF (.best t pk pw' co')) (hT:∀ W,Ext w W→Tab10 W) :
  Calls Tryz.prog 8 #[.agg (pfC x)] w (EncQ (.best t pk pw' co') w):=by
 obtain ⟨w1,hw1⟩:=nmE (w.alloc (.cells (pfC x) 39));have hE1:=aLe1 hw1;have zP:=aL10 hw1;have hs1:=aLs1 hw1;have KM:=Jx x d w1 (h.ext hE1) hb;rw [hm] at KM;have zE:=mK (fun W (e:Ext w1 W)=>e.blk zP);have cE:=mK (fun W (e:Ext w1 W)=>Em (e.blk zP));have HT:=mK (fun W (e:Ext w1 W)=>hT W (hE1.trans e));clear h hb hm zP hT;obtain ⟨k1,⟨a1,c1,e1⟩,-,-,-,-,⟨os2,h2,g2⟩,⟨os3,h3,g3⟩,ft,⟨os4,h4,g4⟩,fp,hco⟩:=hf;obtain ⟨⟨ok1,ok2,ok3,ok4,ok5,ok6,ok7,-,-⟩,ok8,ok9,ok10,ok11,ok12⟩:=hok;obtain ⟨sp,pt,tg'⟩:=t;simp only at h2 h3 ft ok1 ok2 ok3 ok4 ok5 ok6 ok7 ok8 ok9;subst h2 h3 h4;obtain ⟨a2,c2,e2,hc2⟩:=g2.slice;obtain ⟨a3,c3,e3,hc3⟩:=g3.slice;obtain ⟨a4,c4,e4,hc4⟩:=g4.slice;have FT:=mK (fun W (e:Ext w1 W)=>ft.ext (hE1.trans e));have FP:=mK (fun W (e:Ext w1 W)=>fp.ext (hE1.trans e));have G2:=mK (fun W (e:Ext w1 W)=>Ls.ext (w':=W) g2 (fun _ _ v=>v.ext (hE1.trans e)) (hE1.trans e));have G3:=mK (fun W (e:Ext w1 W)=>Ls.ext (w':=W) g3 (fun _ _ v=>v.ext (hE1.trans e)) (hE1.trans e));have G4:=mK (fun W (e:Ext w1 W)=>Ls.ext (w':=W) g4 (fun _ _ v=>v) (hE1.trans e));have I3:=mK g3.it;obtain ⟨kd,s1,y',u',m',st,s2,s3,tg,s4,pw,co⟩:=x;simp only at k1 e1 e2 e3 e4 hco ft fp;subst k1 e1 e2 e3 e4 hco;clear ft fp;simp only at FT FP;rw [List.length_map] at ok1 ok2 ok3 ok4 ok8;rw [List.length_map] at ok8;obtain ⟨n2,m2⟩:=nmE os2.length;obtain ⟨n3,m3⟩:=nmE os3.length;obtain ⟨n4,m4⟩:=nmE os4.length;rw [←m2] at ok1 ok2 ok8;rw [←m3] at ok3 ok4;rw [←m4] at ok8;rw [←m2,←m3,←m4] at zE cE hw1 KM;rw [←m2,←m3,←m4];rw [←m2] at G2;rw [←m3] at G3;rw [←m4] at G4;simp only at cE G2 G3 G4;replace m2:=mK m2;replace m3:=mK m3;replace m4:=mK m4;simp only [pfC] at hw1 zE KM ⊢;replace hw1:=mK hw1;replace KM:=mK KM;replace hE1:=mK hE1;go_enter Tryz.func8,Tryz.ntmps8;have tok:Tok 0:=.mk _
 go_upto_region 4 with (first
  | (replace tok:Tok 1:=nxT 0 tok;rw [←hw1.out];refine wpList_load_row (by rfl) 39 (.tmp 1) rfl w.heap.size rfl 39 _ (0,0) _ (zE.out _ (xR _)) Tryz.underlying39 rfl (by kernel_rfl) ?_)
  | (replace tok:Tok 2:=nxT 1 tok;go_at_call 24;refine KM.out.mono ?_;rintro e w2 ⟨rfl,hx2⟩))
 obtain ⟨b,hbs⟩:=nmE w2.heap.size;obtain ⟨lo,hlb⟩:=nmE (b+1);obtain ⟨w3,hw3⟩:=nmE (w2.alloc (.cells #[.pointer none,.slice none 0 0] 66));rw [←hw3,←hbs];have hs3:w3.heap.size=lo:=by rw [hw3,hlb,hbs];simp
 have hb1:w1.heap.size≤b:=by rw [hbs];exact hx2.size
 have hX3:Ext w1 w3:=by rw [hw3];exact hx2.al _
 have hX:=mK (fun W (h:Kw b lo w3 W)=>Uk h hX3 hb1 (by omega));have hI:=mK (show IsWrt lo b (byteCells (Ai 32 [])) w3 from Jp (by omega) (by rw [hw3,hbs];exact heap_alloc_new _ _));have hK:=mK (Kw.refl b lo w3);have hlo:lo≤w3.heap.size:=by omega
 have HTK:Hid (∀ W,Kw b lo w3 W→Tab10 W):=fun W h=>HT.out W (hX.out W h);replace hlo:=mK hlo;replace hs3:=mK hs3;replace hlb:=mK hlb;replace hb1:=mK hb1;clear hw3 hbs KM hx2 hX3 hw1 tok;obtain ⟨y0,-⟩:=cE.out w3 (hX.out w3 (Kw.refl _ _ _));obtain ⟨W0,hW0⟩:=nmE ([Fd,An tg']:WL);have ne0:Ai 32 W0≠[]:=by rw [hW0];simp [Ai,Fd]
 have le0:lenW W0≤70000:=by
  have h1:=Bu ok5;rw [hW0];simp only [lenW,Fd,List.length_cons,List.length_nil];omega
 have KP:=Nn [] Fd (.slice (some ⟨w3.heap.size,0,none⟩) 1 1) [(tg',.agg #[.bool tg.b1,.slice tg.a1 tg.n1 tg.c1,.bool tg.b2,.slice tg.a2 tg.n2 tg.c2])] (w3.alloc (.cells #[.bool tg.b1,.slice tg.a1 tg.n1 tg.c1,.bool tg.b2,.slice tg.a2 tg.n2 tg.c2] 28)) (hI.out.ext ((xR _).al _)) (Kw.of _ _ ((xR w3).al _)) hlo.out (.inl rfl)
  (fun W' h3 h=>ls1 (h.blk (heap_alloc_new _ _) (by have:=hs3.out;have:=hlb.out;omega) (by decide)) (FT.out W' (hX.out W' h3)))
  (fun z hz=>by
   rw [List.mem_singleton.1 hz]
   exact ok5) (by simp [Ai,Fd]) HTK.out
 have KP:Calls Tryz.prog 25 #[.pointer (some ⟨b,0,none⟩),.string ⟨#[98,101,115,116]⟩,.slice (some ⟨w3.heap.size,0,none⟩) 1 1] (w3.alloc (.cells #[.bool tg.b1,.slice tg.a1 tg.n1 tg.c1,.bool tg.b2,.slice tg.a2 tg.n2 tg.c2] 28)) fun e w'=>e=.returned (.tuple #[])∧IsWrt lo b (byteCells (Ai 32 [Fd,An tg'])) w'∧Kw b lo w3 w':=KP;rw [←hW0] at KP;replace KP:=mK KP;have zE3:=mK (zE.out w3 (hX.out w3 (Kw.refl _ _ _)));have tok:Tok 2:=.mk _
 go_upto_region 12 with (first
  | (replace tok:Tok 3:=nxT 2 tok;refine Ag (by rfl) 28 (.tmp 49) rfl w.heap.size 17 rfl 39 _ #[.bool tg.b1,.slice tg.a1 tg.n1 tg.c1,.bool tg.b2,.slice tg.a2 tg.n2 tg.c2] (0,0) _ zE3.out rfl Tryz.underlying28 rfl (by kernel_rfl) ?_)
  | (replace tok:Tok 4:=nxT 3 tok;go_at_call 25;refine KP.out.mono ?_;rintro e w5 ⟨rfl,hI5,hK5⟩;(clear hI;have hI:=mK hI5);(clear hK;have hK:=mK hK5);clear hI5 hK5))
 clear KP zE3 tok y0 FT
 -- the number of the picks,and the spaces
 obtain ⟨W1,hW1⟩:=nmE ((W0++Lib.itoa n4::txtO os2):WL);have ne1:Ai 32 W1≠[]:=by rw [hW1];exact Gm ne0 _
 have l4:(Lib.itoa (n4:Int)).length≤10:=Eh (by omega) (by omega)
 have le1:lenW W1≤1000000:=by
  have h1:=Me (os2.map (·.1)) fun x hx=>(ok6 x hx).1;have h2:lenW (txtO os2)=lenW ((os2.map (·.1)).map An):=by simp [txtO,List.map_map,Function.comp_def]
  rw [List.length_map,←m2.out] at h1;have h3:n2*65537≤13*65537:=Nat.mul_le_mul_right _ ok2;rw [hW1,Cr];simp only [lenW];omega
 have KQ:=fun (W:World) (hI:IsWrt lo b (byteCells (Ai 32 W0)) W) (hK:Kw b lo w3 W)=>Nn W0 (Lib.itoa (n4:Int)) (.slice a2 n2 c2) os2 W hI hK hlo.out (.inr ne0) (fun W' h3 _=>G2.out W' (hX.out W' h3)) (fun z hz=>(ok6 _ (List.mem_map_of_mem hz)).1) (by
  have h1:=Eb W0;have h3:n2*65537≤13*65537:=Nat.mul_le_mul_right _ ok2;rw [←m2.out]
  omega) HTK.out
 rw [←hW1] at KQ;have KI:=mK (fun W (e:Ext w1 W)=>Je (n4:Int) W (by omega) (by omega) (HT.out W e));obtain ⟨-,-,-,y15,y16,y21,y26⟩:=cE.out w5 (hX.out w5 hK.out);replace KQ:=mK KQ;replace hW1:=mK hW1;replace hW0:=mK hW0;replace ne0:=mK ne0;replace ne1:=mK ne1;go_cut [] from 53 to 61 (fun wx=>IsWrt lo b (byteCells (Ai 32 W1)) wx∧Kw b lo w3 wx)
 case first=>
  go_region_with (first
   | (go_at_call 26;refine (KI.out _ (by first|exact hX.out _ hK.out|exact Below.drew (hX.out _ hK.out))).mono ?_;rintro e w6 ⟨rfl,hx6⟩;(have y15':=hx6.cell y15);(have hx5:Ext w5 w6:=Below.trans (Below.drew (Below.refl _ _)) hx6);(replace hx5:=mK hx5);clear hx6)
   | (go_at_call 25;refine (KQ.out _ (hI.out.ext hx5.out) (hK.out.trans (Kw.of _ _ hx5.out))).mono ?_;rintro e w7 ⟨rfl,hI7,hK7⟩))
  all_goals (go_wp2_with fail;go_meet;exact ⟨hI7,hK7⟩)
 case rest=>
  clear KQ KI y15 y16 y21 y26 hI hK;obtain ⟨hI1,hK1⟩:=hcut;obtain ⟨-,-,-,y15,y16,y21,y26⟩:=cE.out wc (hX.out wc hK1);clear y15 y16 y26;obtain ⟨C,hC⟩:∃ C:Nat→WL,C=fun k=>W1++((os4.map (·.1)).take k).map itoa:=⟨_,rfl⟩
  have hkb:∀ k∈os4.map (·.1),0≤k∧k≤1073741824:=fun k hk=>by have:=ok9 k hk;rw [List.length_map,←m3.out] at this;omega
  have hC0:W1=C 0:=by rw [hC];simp
  have hCs:∀ k,(hk:k<os4.length)→C k++[itoa os4[k].1]=C (k+1):=fun k hk=>by
   rw [hC];show W1++((os4.map (·.1)).take k).map itoa++[itoa os4[k].1]=W1++((os4.map (·.1)).take (k+1)).map itoa
   rw [List.take_succ_eq_append_getElem (by simpa using hk),List.map_append,←List.append_assoc];simp
  have hCn:C n4=W1++(os4.map (·.1)).map itoa:=by
   rw [hC];show W1++((os4.map (·.1)).take n4).map itoa=_
   rw [List.take_of_length_le (by rw [List.length_map,←m4.out];exact nR _)]
  have hCl:∀ k,lenW (C k)≤2000000:=fun k=>by
   rw [hC];show lenW (W1++((os4.map (·.1)).take k).map itoa)≤_
   have h1:=Abt ((os4.map (·.1)).take k) fun z hz=>hkb z (List.mem_of_mem_take hz);have h2:((os4.map (·.1)).take k).length≤n4:=by rw [List.length_take,List.length_map,←m4.out];omega
   have h3:((os4.map (·.1)).take k).length*11≤n4*11:=Nat.mul_le_mul_right _ h2;rw [Cr];omega
  have hCe:∀ k,Ai 32 (C k)≠[]:=fun k=>by rw [hC];exact Gm ne1.out _
  have st:∃ k:Nat,k≤n4∧Value.int .i64 0=.int .i64 k∧IsWrt lo b (byteCells (Ai 32 (C k))) wc∧Kw b lo w3 wc:=⟨0,Nat.zero_le _,rfl,by rw [←hC0];exact hI1,hK1⟩
  have hnb:n4≤12:=by omega
  replace st:=mK st;replace hC:=mK hC;replace hCs:=mK hCs;replace hCn:=mK hCn;replace hCl:=mK hCl;replace hCe:=mK hCe;replace hkb:=mK hkb;clear hC0 hI1 hK1 le0 le1 l4;go_wp2_with fail;clear y21;go_loopw [66] (fun i wr=>∃ k:Nat,k≤n4∧i=.int .i64 k∧IsWrt lo b (byteCells (Ai 32 (C k))) wr∧Kw b lo w3 wr) (fun i _=>n4-(RowKit.intOf i).toNat)
  case atStart=>exact st.out
  case round=>
   clear st;obtain ⟨k,hk,rfl,hI,hK⟩:=hrel;obtain ⟨w6,rfl⟩:=nmE (wr:World);by_cases hlt:k<n4
   ·have hkl:k<os4.length:=by rw [←m4.out];exact hlt
    obtain ⟨bb,o,c',x1,-,hrg,hv⟩:=(G4.out w6 (hX.out w6 hK)).get (by decide) hkl;rw [←m4.out] at x1;simp only [Value.slice.injEq,true_and] at x1;obtain ⟨rfl,rfl⟩:=x1;have hcs:=hCs.out k hkl;have hkk:=hkb.out _ (List.mem_map_of_mem (List.getElem_mem hkl));obtain ⟨q,hq⟩:=nmE (os4[k].1);unfold NumA at hv;rw [hv,←hq] at hrg;simp only [←hq] at hkk;rw [←hq] at hcs
    have hcell:w6.cell? ⟨bb,o+k,none⟩=some (.int .i64 q):=by
     have:=hrg 0 (.int .i64 q) rfl;simpa using this
    have hil:=Eh hkk.1 hkk.2;have KI:=mK (Je q w6 (by omega) (by omega) (HTK.out w6 hK));have KQ:=fun (W:World) (hI:IsWrt lo b (byteCells (Ai 32 (C k))) W) (hK:Kw b lo w3 W)=>Lx (C k) (itoa q) W hI hK hlo.out (hCe.out k) (by have h1:=Eb (C k);have h2:=hCl.out k;omega) HTK.out;rw [hcs] at KQ;replace KQ:=mK KQ;replace hI:=mK hI;replace hK:=mK hK;clear hq hv hrg hcs hil hkk
    go_wp2_with (first
     | (go_at_call 26;refine KI.out.mono ?_;rintro e w7 ⟨rfl,hx6⟩;(replace hx6:=mK hx6))
     | (go_at_call 25;refine (KQ.out _ (hI.out.ext hx6.out) (hK.out.trans (Kw.of _ _ hx6.out))).mono ?_;rintro e w8 ⟨rfl,hI8,hK8⟩;(replace hI8:=mK hI8);(replace hK8:=mK hK8)))
    go_roundw
    case rel=>exact ⟨k+1,by omega,by go_num,hI8.out,hK8.out⟩
    case measure=>simp [RowKit.intOf]<;>omega
   ·obtain rfl:n4=k:=by omega
    obtain ⟨W2,hW2⟩:=nmE (C n4:WL);obtain ⟨W3,hW3⟩:=nmE (W2++[An pw']:WL);obtain ⟨W4,hW4⟩:=nmE (W3++[itoa co]:WL);have le2:lenW W2≤2000000:=by rw [hW2];exact hCl.out _
    have ne2:Ai 32 W2≠[]:=by rw [hW2];exact hCe.out _
    have hpl:=Bu ok10;have hcl:=Ad5 ok11 ok12;have le3:lenW W3≤2100000:=by rw [hW3,Cr];simp only [lenW];omega
    have ne3:Ai 32 W3≠[]:=by rw [hW3];exact Gm ne2 _
    have le4:lenW W4≤2200000:=by rw [hW4,Cr];simp only [lenW];omega
    have ne4:Ai 32 W4≠[]:=by rw [hW4];exact Gm ne3 _
    rw [←hW2] at hI hCn;have KT:=mK (fun W (e:Ext w1 W)=>Ml (.agg #[.bool pw.b1,.slice pw.a1 pw.n1 pw.c1,.bool pw.b2,.slice pw.a2 pw.n2 pw.c2]) pw' W ok10 (FP.out W e) (HT.out W e));have KQ2:=fun (W:World) (hI:IsWrt lo b (byteCells (Ai 32 W2)) W) (hK:Kw b lo w3 W)=>Lx W2 (An pw') W hI hK hlo.out ne2 (by have h1:=Eb W2;omega) HTK.out;have KQ3:=fun (W:World) (hI:IsWrt lo b (byteCells (Ai 32 W3)) W) (hK:Kw b lo w3 W)=>Lx W3 (itoa co) W hI hK hlo.out ne3 (by have h1:=Eb W3;omega) HTK.out;rw [←hW3] at KQ2;rw [←hW4] at KQ3;have KI:=mK (fun W (hK:Kw b lo w3 W)=>Je co W (by omega) ok12 (HTK.out W hK));replace KQ2:=mK KQ2;replace KQ3:=mK KQ3;replace hW2:=mK hW2;replace hW3:=mK hW3;replace hW4:=mK hW4;replace ne4:=mK ne4;replace hI:=mK hI;replace hK:=mK hK;have tok:Tok 30:=.mk _;clear hpl hcl le2 ne2 le3 ne3 hCl hCe hCs
    go_upto_region 21 with (first
     | (replace tok:Tok 31:=nxT 30 tok;refine Ag (by rfl) 28 (.tmp 76) rfl w.heap.size 22 rfl 39 _ #[.bool pw.b1,.slice pw.a1 pw.n1 pw.c1,.bool pw.b2,.slice pw.a2 pw.n2 pw.c2] (0,0) _ (zE.out _ (hX.out _ hK.out)) rfl Tryz.underlying28 rfl (by kernel_rfl) ?_)
     | (replace tok:Tok 32:=nxT 31 tok;go_at_call 27;refine (KT.out _ (hX.out _ hK.out)).mono ?_;rintro e w7 ⟨rfl,hx7⟩;(have hI7:=mK (hI.out.ext hx7));(have hK7:=mK (hK.out.trans (Kw.of _ _ hx7)));clear hx7)
     | (replace tok:Tok 33:=nxT 32 tok;go_at_call 25;refine (KQ2.out _ hI7.out hK7.out).mono ?_;rintro e w8 ⟨rfl,hI8,hK8⟩;(obtain ⟨-,-,-,-,-,-,x26⟩:=cE.out w8 (hX.out w8 hK8));(replace hI8:=mK hI8);(replace hK8:=mK hK8))
     | (replace tok:Tok 34:=nxT 33 tok;go_at_call 26;refine (KI.out _ hK8.out).mono ?_;rintro e w9 ⟨rfl,hx9⟩;(have hI9:=mK (hI8.out.ext hx9));(have hK9:=mK (hK8.out.trans (Kw.of _ _ hx9)));clear hx9 x26)
     | (replace tok:Tok 35:=nxT 34 tok;go_at_call 25;refine (KQ3.out _ hI9.out hK9.out).mono ?_;rintro e v1 ⟨rfl,hIA,hKA⟩;(obtain ⟨-,-,-,-,x16,-,-⟩:=cE.out v1 (hX.out v1 hKA));(replace hIA:=mK hIA);(replace hKA:=mK hKA)))
    clear KT KQ2 KQ3 KI hI hK hI7 hK7 hI8 hK8 hI9 hK9 tok;obtain ⟨D,hD⟩:∃ D:Nat→WL,D=fun k=>W4++((os3.map (·.1)).take k).flatMap wdP:=⟨_,rfl⟩
    have hD0:W4=D 0:=by rw [hD];simp
    have hDs:∀ k,(hk:k<os3.length)→D k++wdP os3[k].1=D (k+1):=fun k hk=>by
     rw [hD];show W4++((os3.map (·.1)).take k).flatMap wdP++wdP os3[k].1=W4++((os3.map (·.1)).take (k+1)).flatMap wdP
     rw [List.take_succ_eq_append_getElem (by simpa using hk),List.flatMap_append,←List.append_assoc];simp
    have hDn:D n3=W4++(os3.map (·.1)).flatMap wdP:=by
     rw [hD];show W4++((os3.map (·.1)).take n3).flatMap wdP=_
     rw [List.take_of_length_le (by rw [List.length_map,←m3.out];exact nR _)]
    have hDl:∀ k,lenW (D k)≤20000000:=fun k=>by
     rw [hD];show lenW (W4++((os3.map (·.1)).take k).flatMap wdP)≤_
     have h1:=Wl ((os3.map (·.1)).take k) fun z hz=>ok7 z (List.mem_of_mem_take hz);have h2:((os3.map (·.1)).take k).length≤n3:=by rw [List.length_take,List.length_map,←m3.out];omega
     have h3:((os3.map (·.1)).take k).length*131130≤n3*131130:=Nat.mul_le_mul_right _ h2;rw [Cr];omega
    have hDe:Hid (∀ k,Ai 32 (D k)≠[]):=fun k=>by rw [hD];exact Gm ne4.out _
    have st:Hid (∃ k:Nat,k≤n3∧Value.int .i64 0=.int .i64 k∧IsWrt lo b (byteCells (Ai 32 (D k))) v1∧Kw b lo w3 v1):=⟨0,Nat.zero_le _,rfl,by rw [←hD0];exact hIA.out,hKA.out⟩
    replace hD:=mK hD;replace hDs:=mK hDs;replace hDn:=mK hDn;replace hDl:=mK hDl;replace ok7:=mK ok7;clear hD0 hIA hKA le4;go_wp2_with fail;clear x16;go_loopw [92] (fun i wr=>∃ k:Nat,k≤n3∧i=.int .i64 k∧IsWrt lo b (byteCells (Ai 32 (D k))) wr∧Kw b lo w3 wr) (fun i _=>n3-(RowKit.intOf i).toNat)
    case atStart=>exact st.out
    case round=>
     clear st;obtain ⟨k,hk,rfl,hI,hK⟩:=hrel;obtain ⟨v2,rfl⟩:=nmE (wr:World);by_cases hlt:k<n3
     ·have hkl:k<os3.length:=by rw [←m3.out];exact hlt
      obtain ⟨p,q,e0,g1,g2⟩:=I3.out _ (List.getElem_mem hkl);obtain ⟨bb,o,c',x1,-,hrg,-⟩:=(G3.out v2 (hX.out v2 hK)).get (by decide) hkl;rw [←m3.out] at x1;simp only [Value.slice.injEq,true_and] at x1;obtain ⟨rfl,rfl⟩:=x1;rw [e0] at hrg;have hds:=hDs.out k hkl;have hok:=ok7.out _ (List.mem_map_of_mem (List.getElem_mem hkl));obtain ⟨E,hE⟩:=nmE (os3[k].1);simp only [←hE] at hrg g1 g2 hds hok;obtain ⟨nm,kd,px,qx,cx⟩:=E;simp only at hrg g1 g2;replace hrg:v2.rangeAt bb (o+k*11) [.string nm,.int .u8 kd,.bool p.b1,.slice p.a1 p.n1 p.c1,.bool p.b2,.slice p.a2 p.n2 p.c2,.bool q.b1,.slice q.a1 q.n1 q.c1,.bool q.b2,.slice q.a2 q.n2 q.c2,.int .i64 cx]:=hrg;have hcx:=La hok;have hoE:=Ts hok;have hnl:=Vy hok;simp only at hcx;have hil:=Eh hcx.1 hcx.2;obtain ⟨v3,hv3⟩:=nmE (v2.alloc (.cells #[.string nm,.int .u8 kd,.bool p.b1,.slice p.a1 p.n1 p.c1,.bool p.b2,.slice p.a2 p.n2 p.c2,.bool q.b1,.slice q.a1 q.n1 q.c1,.bool q.b2,.slice q.a2 q.n2 q.c2,.int .i64 cx] 74));have hE3:=aLe1 hv3;have zV:=aL10 hv3;have hvb:v2.heap.size≠b:=by have:=hK.size;have:=hs3.out;have:=hlb.out;omega
      have zK:=mK (fun W (h:Kw b lo v3 W)=>h.blk zV hvb (by decide));have y0:=ceL0 zV;have y10:=mK (fun W (h:Kw b lo v3 W)=>show W.cell? ⟨v2.heap.size,10,none⟩=some (.int .i64 cx) by simp [World.cell?,h.blk zV hvb (by decide)]);have hK3:Kw b lo w3 v3:=hK.trans (Kw.of _ _ hE3);have hI3:=hI.ext hE3;have heb:(⟨(nmL ⟨nm,kd,px,qx,cx⟩).toArray⟩:ByteArray)=nm:=rfl;have KQ1:=fun (W:World) (hI:IsWrt lo b (byteCells (Ai 32 (D k))) W) (h0:Kw b lo v3 W)=>(Nn (w3:=v3) (D k) (nmL ⟨nm,kd,px,qx,cx⟩) (.slice none 0 0) [] W hI h0 (nT hlo.out hK3.size) (.inr (hDe.out k)) (fun W' _ _=>Ii 4 FracR W' none 0) (fun x hx=>by cases hx) (by have h1:=Eb (D k);have h2:=hDl.out k;simp only [List.length_nil];omega) (fun W' h=>HTK.out W' (hK3.trans h)))
      rw [heb] at KQ1;obtain ⟨D1,hD1⟩:=nmE (D k++[nmL ⟨nm,kd,px,qx,cx⟩]:WL);obtain ⟨D2,hD2⟩:=nmE (D1++[itoa cx]:WL)
      have hd3:D2++wdE (elP ⟨nm,kd,px,qx,cx⟩)=D (k+1):=by
       rw [←hds,hD2,hD1];simp [wdP]
      have led1:lenW D1≤20000040:=by rw [hD1,Cr];simp only [lenW];have:=hDl.out k;omega
      have ned1:Ai 32 D1≠[]:=by rw [hD1];exact Gm (hDe.out k) _
      have led2:lenW D2≤20000060:=by rw [hD2,Cr];simp only [lenW];omega
      have ned2:Ai 32 D2≠[]:=by rw [hD2];exact Gm ned1 _
      have KQ2:=fun (W:World) (hI:IsWrt lo b (byteCells (Ai 32 D1)) W) (h0:Kw b lo v3 W)=>Lx (w3:=v3) D1 (itoa cx) W hI h0 (nT hlo.out hK3.size) ned1 (by have h1:=Eb D1;omega) (fun W' h=>HTK.out W' (hK3.trans h));have KE:=fun (W:World) (hI:IsWrt lo b (byteCells (Ai 32 D2)) W) (h0:Kw b lo v3 W)=>el_k (w3:=v3) D2 p q (elP ⟨nm,kd,px,qx,cx⟩) W hI h0 (nT hlo.out hK3.size) ned2 (fun W' h=>⟨g1.ext (hE1.out.trans (hX.out W' (hK3.trans h))),g2.ext (hE1.out.trans (hX.out W' (hK3.trans h)))⟩) hoE (by have h1:=Eb D2;omega) (fun W' h=>HTK.out W' (hK3.trans h));have KQ1:∀ (W:World) (hI:IsWrt lo b (byteCells (Ai 32 (D k))) W) (h0:Kw b lo v3 W),Calls Tryz.prog 25 #[.pointer (some ⟨b,0,none⟩),.string nm,.slice none 0 0] W fun e w'=>e=.returned (.tuple #[])∧IsWrt lo b (byteCells (Ai 32 (D k++[nmL ⟨nm,kd,px,qx,cx⟩]))) w'∧Kw b lo v3 w':=KQ1;rw [←hD1] at KQ1;rw [←hD2] at KQ2;rw [hd3] at KE;have KI:=mK (fun W (hK:Kw b lo v3 W)=>Je cx W (by omega) (by omega) (HTK.out W (hK3.trans hK)));replace KQ1:=mK KQ1;replace KQ2:=mK KQ2;replace KE:=mK KE;replace hI3:=mK hI3;replace hK3:=mK hK3;replace hrg:=mK hrg;replace hv3:=mK hv3;clear hI hK hE3 zV hvb e0 g1 g2 hds hok hE hcx hoE hnl hil heb hD1 hD2 hd3 led1 ned1 led2 ned2;have tok:Tok 40:=.mk _
      go_wp2_with (first
       | (replace tok:Tok 41:=nxT 40 tok;refine wpList_load_mid (by rfl) 74 (.tmp 94) rfl bb (o+k*11) rfl [.string nm,.int .u8 kd,.bool p.b1,.slice p.a1 p.n1 p.c1,.bool p.b2,.slice p.a2 p.n2 p.c2,.bool q.b1,.slice q.a1 q.n1 q.c1,.bool q.b2,.slice q.a2 q.n2 q.c2,.int .i64 cx] _ hrg.out Tryz.underlying74 rfl (by kernel_rfl) ?_)
       | (replace tok:Tok 42:=nxT 41 tok;rw [←hv3.out])
       | (replace tok:Tok 43:=nxT 42 tok;go_at_call 25;refine (KQ1.out _ hI3.out (Kw.refl _ _ _)).mono ?_;rintro e v4 ⟨rfl,hI4,hK4⟩;(have y10':=y10.out _ hK4);(replace hI4:=mK hI4);(replace hK4:=mK hK4))
       | (replace tok:Tok 44:=nxT 43 tok;go_at_call 26;refine (KI.out _ hK4.out).mono ?_;rintro e v5 ⟨rfl,hx5⟩;(have hI5:=mK (hI4.out.ext hx5));(have hK5:=mK (hK4.out.trans (Kw.of _ _ hx5)));clear hx5 y10')
       | (replace tok:Tok 45:=nxT 44 tok;go_at_call 25;refine (KQ2.out _ hI5.out hK5.out).mono ?_;rintro e v6 ⟨rfl,hI6,hK6⟩;(have z6:=mK (zK.out _ hK6));(replace hI6:=mK hI6);(replace hK6:=mK hK6))
       | (replace tok:Tok 46:=nxT 45 tok;refine Ap (by rfl) 72 (.tmp 103) rfl (v2.heap.size) 1 rfl 74 _ #[.int .u8 kd,.bool p.b1,.slice p.a1 p.n1 p.c1,.bool p.b2,.slice p.a2 p.n2 p.c2,.bool q.b1,.slice q.a1 q.n1 q.c1,.bool q.b2,.slice q.a2 q.n2 q.c2] (0,0) _ z6.out rfl Tryz.underlying72 rfl (by kernel_rfl) ?_)
       | (replace tok:Tok 47:=nxT 46 tok;go_at_call 28;refine (KE.out _ hI6.out hK6.out).mono ?_;rintro e v7 ⟨rfl,hI7,hK7⟩;(replace hI7:=mK hI7);(replace hK7:=mK (hK3.out.trans hK7))))
      go_roundw
      case rel=>exact ⟨k+1,by omega,by go_num,hI7.out,hK7.out⟩
      case measure=>simp [RowKit.intOf]<;>omega
     ·obtain rfl:n3=k:=by omega
      have hTX:Aw (.best ⟨os2.map (·.1),os3.map (·.1),tg'⟩ (os4.map (·.1)) pw' co)=Ai 32 (D n3):=by
       rw [hDn.out,hW4.out,hW3.out,hCn.out,hW1.out,hW0.out];unfold Aw Cj;simp only [List.length_map,←m4.out];simp [txtO,List.map_map,Function.comp_def]
      obtain ⟨-,yb,-⟩:=cE.out v2 (hX.out v2 hK);have KL:=Gt lo b _ _ hI;have KS:=Jo lo b _ _ hI (hDe.out n3);rw [←hTX] at KS;rw [lenC,←hTX] at KL;obtain ⟨L1,hL1⟩:=nmE ((Aw (.best ⟨os2.map (·.1),os3.map (·.1),tg'⟩ (os4.map (·.1)) pw' co)).length);rw [←hL1] at KL;replace KL:=mK KL;replace KS:=mK KS;replace hK:=mK hK;replace hL1:=mK hL1;replace hTX:=mK hTX;clear hI;go_wp2_with fail;clear yb;have st:Hid (Value.int .i64 0=.int .i64 0∧v2=v2):=⟨rfl,rfl⟩
      go_loopw [110] (fun i wr=>i=.int .i64 0∧wr=v2) (fun _ _=>0)
      case atStart=>exact st.out
      case round=>
       obtain ⟨rfl,rfl⟩:=hrel;have tok:Tok 50:=.mk _;by_cases hbig:65536<L1
       ·have hbi:(65536:Int)<(L1:Int):=by omega
        go_wp2_with (go_at_call 29;refine KL.out.mono ?_;rintro e w8 ⟨rfl,rfl⟩);go_ret2;have hq:(if (Aw (.best ⟨os2.map (·.1),os3.map (·.1),tg'⟩ (os4.map (·.1)) pw' co)).length≤65536 then Ending.returned (.tuple #[.string ⟨(Aw (.best ⟨os2.map (·.1),os3.map (·.1),tg'⟩ (os4.map (·.1)) pw' co)).toArray⟩,.int .i64 0]) else .returned (.tuple #[.string ⟨#[]⟩,.int .i64 4]))=.returned (.tuple #[.string ⟨#[]⟩,.int .i64 4]):=if_neg (by have:=hL1.out;omega);exact ⟨hq.symm,hE1.out.trans (hX.out _ hK.out)⟩
       ·have hbi:¬(65536:Int)<(L1:Int):=by omega
        go_wp2_with (first
         | (replace tok:Tok 51:=nxT 50 tok;go_at_call 29;refine KL.out.mono ?_;rintro e w8 ⟨rfl,rfl⟩)
         | (replace tok:Tok 52:=nxT 51 tok;go_at_call 30;refine KS.out.mono ?_;rintro e w9 ⟨rfl,hBl⟩))
        go_ret2;have hq:(if (Aw (.best ⟨os2.map (·.1),os3.map (·.1),tg'⟩ (os4.map (·.1)) pw' co)).length≤65536 then Ending.returned (.tuple #[.string ⟨(Aw (.best ⟨os2.map (·.1),os3.map (·.1),tg'⟩ (os4.map (·.1)) pw' co)).toArray⟩,.int .i64 0]) else .returned (.tuple #[.string ⟨#[]⟩,.int .i64 4]))=.returned (.tuple #[.string ⟨(Aw (.best ⟨os2.map (·.1),os3.map (·.1),tg'⟩ (os4.map (·.1)) pw' co)).toArray⟩,.int .i64 0]):=if_pos (by have:=hL1.out;omega);exact ⟨hq.symm,hE1.out.trans (Below.trans (hX.out _ hK.out) (hBl.mono hb1.out))⟩
theorem Agc (x:PVd)(d:AD)(w:World)(h:AnyPf w x d)(hb:d.be.length≤1099511627776∧d.sp.length≤1099511627776∧d.pt.length≤1099511627776∧d.pk.length≤1099511627776)(hm:Bw x d=false) :
  Calls Tryz.prog 8 #[.agg (pfC x)] w fun e w'=>e=.returned (.tuple #[.string ⟨#[]⟩,.int .i64 1])∧Ext w w':=by
 have hT:True:=trivial;obtain ⟨w1,hw1⟩:=nmE (w.alloc (.cells (pfC x) 39));have hE1:=aLe1 hw1;have zP:=aL10 hw1;have KM:=Jx x d w1 (h.ext hE1) hb;rw [hm] at KM;clear h hb hm hT;simp only [pfC] at hw1 zP KM ⊢;replace hw1:=mK hw1;replace KM:=mK KM;replace hE1:=mK hE1;replace zP:=mK zP;go_enter Tryz.func8,Tryz.ntmps8;have tok:Tok 0:=.mk _
 go_wp2_with (first
  | (replace tok:Tok 1:=nxT 0 tok;rw [←hw1.out];refine wpList_load_row (by rfl) 39 (.tmp 1) rfl w.heap.size rfl 39 _ (0,0) _ zP.out Tryz.underlying39 rfl (by kernel_rfl) ?_)
  | (replace tok:Tok 2:=nxT 1 tok;go_at_call 24;refine KM.out.mono ?_;rintro e w2 ⟨rfl,hx2⟩))
 go_ret2;exact ⟨rfl,hE1.out.trans hx2⟩
theorem Hg (x:PVd)(d:AD)(f:PF)(w:World)(h:AnyPf w x d)(hb:d.be.length≤1099511627776∧d.sp.length≤1099511627776∧d.pt.length≤1099511627776∧d.pk.length≤1099511627776)(hm:Bw x d=true)
  (hf:PfR w x f) (hok:okPF f) (hT:∀ W,Ext w W→Tab10 W) :
  Calls Tryz.prog 8 #[.agg (pfC x)] w (EncQ f w):=by
 cases f with
 | bound l y u m=>exact Ze x d l y u m w h hb hm hf hok hT
 | leaves l y u m n=>exact Uu x d l y u m n w h hb hm hf hok hT
 | best t pk pw co=>exact Ab6 x d t pk pw co w h hb hm hf hok hT
end Go.Proofs.YtlknpnommcohkaaGreatDoor
namespace Go.Proofs.YtlknpnommcohkaaGreatDoor
set_option maxRecDepth 100000
open Go Go.RowKit Go.Proofs
theorem Rz:∀ ws:WL,ws≠[]→(Ai 32 ws).length+1=lenW ws
 | [],h=>absurd rfl h
 | [x],_=>by simp [Ai,lenW]
 | x::y::r,_=>by
  have:=Rz (y::r) (by simp)
  show (x++32::Ai 32 (y::r)).length+1=_
  simp only [List.length_append,List.length_cons,lenW] at this ⊢
  omega
theorem Wk:∀ ws:WL,ws.length≤lenW ws∧∀ x∈ws,x.length+1≤lenW ws
 | []=>by simp [lenW]
 | x::r=>by
  obtain ⟨h1,h2⟩:=Wk r
  refine ⟨by simp only [lenW,List.length_cons];omega,fun y hy=>?_⟩
  simp only [lenW]
  rcases List.mem_cons.1 hy with rfl|hy
  ·omega
  ·have:=h2 y hy
   omega
theorem Xd (s:List UInt8):(Ar 32 s).length≤s.length+1∧∀ x∈Ar 32 s,x.length≤s.length:=by
 have h1:=Rz (Ar 32 s) (Jq 32 s);rw [Hf] at h1;obtain ⟨h2,h3⟩:=Wk (Ar 32 s);exact ⟨by omega,fun x hx=>by have:=h3 x hx;omega⟩
theorem Np:∀ {a b:List ByteArray},a.map (·.data.toList)=b.map (·.data.toList)→a=b
 | [],[],_=>rfl
 | [],_::_,h=>by cases h
 | _::_,[],h=>by cases h
 | x::a,y::b,h=>by
  simp only [List.map_cons,List.cons.injEq] at h
  obtain ⟨h1,h2⟩:=h
  have e:x=y:=ByteArray.ext (Array.ext' h1)
  rw [e,Np h2]
theorem psplit (s:ByteArray)(W:World)(hs:s.size≤65536)(hm:Max0 W) :
  Calls Tryz.prog 33 #[.string s,.string ⟨#[32]⟩] W fun e w2=>e=.returned (.slice (some ⟨W.heap.size,0,none⟩) (Ar 32 s.data.toList).length (Ar 32 s.data.toList).length)∧w2.heap[W.heap.size]? = some (.cells ((Ar 32 s.data.toList).map strV).toArray 9 (0,0))∧Ext W w2:=by
 obtain ⟨m,hm⟩:=hm;obtain ⟨ws,hws⟩:=nmE ((Ar 32 s.data.toList).map fun l=>⟨l.toArray⟩:List ByteArray)
 have hw:Ar 32 s.data.toList=ws.map (·.data.toList):=by
  rw [hws,List.map_map];exact ((List.map_congr_left fun e _=>rfl).trans (List.map_id _)).symm
 have e1:Lib.splitB ⟨#[32]⟩ 0 (Lib.countB s ⟨#[32]⟩) s=ws:=Np ((Oo 32 s).trans hw);have e2:Lib.countB s ⟨#[32]⟩+1=ws.length:=by rw [←e1];exact (Lib.splitB_all ⟨#[32]⟩ (by decide) 0 _ s rfl).symm
 have e3:ws.length=(Ar 32 s.data.toList).length:=by rw [hws,List.length_map]
 have e4:ws.map Value.string=(Ar 32 s.data.toList).map strV:=by
  rw [hws,List.map_map];rfl
 refine (Tryz.strings_Split s ⟨#[32]⟩ m W (by omega) hm (by decide)).mono ?_;rintro e w2 ⟨rfl,rfl⟩;rw [e1,e2,e3,e4];exact ⟨rfl,heap_alloc_new _ _,(xR W).al _⟩
/-! The reader. -/
theorem RdS.cells {rp:Nat}{R:WL}{bad:Bool}{w:World}(h:RdS rp R bad w):∃ a c,w.cell? ⟨rp,0,none⟩=some (.slice a R.length c)∧w.cell? ⟨rp,1,none⟩=some (.bool bad):=by
 obtain ⟨g,pre,a,c,h1,-⟩:=h;exact ⟨a,c,by simp [World.cell?,h1],by simp [World.cell?,h1]⟩
def Gs (rp:Nat)(w:World):Nat:=match w.cell? ⟨rp,0,none⟩ with
 | some (.slice _ n _)=>n
 | _=>0
theorem RdS.len {rp:Nat}{R:WL}{bad:Bool}{w:World}(h:RdS rp R bad w):Gs rp w=R.length:=by
 obtain ⟨a,c,h1,-⟩:=h.cells;unfold Gs;rw [h1]
theorem RdS.grown {rp:Nat}{R:WL}{bad:Bool}{w w':World}{row:Option Nat}{E:TypeId}(h:RdS rp R bad w)(k:w.grownBy w' row)(hr:∀ g,row=some g→∃ cs,w.heap[g]? = some (.cells cs E (0,0)))(h1:E≠9)(h2:E≠82):RdS rp R bad w':=by
 obtain ⟨g,pre,a,c,a1,a2,a3,a4,a5⟩:=h;refine ⟨g,pre,a,c,(k.block rp (Array.getElem?_eq_some_iff.1 a1).1 fun e=>?_).trans a1,a2,a3,(k.block g (Array.getElem?_eq_some_iff.1 a4).1 fun e=>?_).trans a4,a5⟩
 ·obtain ⟨cs,hc⟩:=hr rp e.symm
  rw [a1] at hc;cases hc;exact h2 rfl
 ·obtain ⟨cs,hc⟩:=hr g e.symm
  rw [a4] at hc;cases hc;exact h1 rfl
theorem Hx {w w':World}{row:Option Nat}{E T:TypeId}{k:Nat}{cs:Array Value}(h:w.heap[k]? = some (.cells cs T (0,0)))(g:w.grownBy w' row)(hr:∀ g,row=some g→∃ cs,w.heap[g]? = some (.cells cs E (0,0)))(hE:E≠T):w'.heap[k]? = some (.cells cs T (0,0)):=
 (g.block k (Array.getElem?_eq_some_iff.1 h).1 fun e=>by
  obtain ⟨cs',hc⟩:=hr k e.symm
  rw [h] at hc
  cases hc
  exact hE rfl).trans h
theorem TyA.elt {b:Nat}{w w':World}{row:Option Nat}(h:w.grownBy w' row)(hr:∀ g,row=some g→∃ cs,w.heap[g]? = some (.cells cs 72 (0,0))):TyA b w w':=
 ⟨.grown h hr (by decide),.grown h hr (by decide),.grown h hr (by decide),.grown h hr (by decide)⟩
def zPV:PVd:=⟨0,.slice none 0 0,⟨false,none,0,0,false,none,0,0⟩,⟨false,none,0,0,false,none,0,0⟩,⟨false,none,0,0,false,none,0,0⟩,0,.slice none 0 0,.slice none 0 0,⟨false,none,0,0,false,none,0,0⟩,.slice none 0 0,⟨false,none,0,0,false,none,0,0⟩,0⟩
def Bp (x:PVd)(s:Value):PVd:={ x with s1:=s }
theorem Yc {b:Nat}{w:World}{x:PVd}{d:AD}(s:Value)(l:List RE)(h:OwnPf b w x d):OwnPf b w (Bp x s) { d with be:=l }:=
 ⟨h.sp,h.pt,h.pk,h.fy,h.fu,h.fm,h.ft,h.fp,h.co⟩
theorem Ade (x:PVd)(s s':Value):(pfC (Bp x s)).setIfInBounds 1 s'=pfC (Bp x s'):=rfl
def SwQ (rp pp b:Nat)(ws:WL)(w4 W:World):Prop:=
 ∃ (R:WL) (bad:Bool),RdS rp R bad W∧Chg w4 W (fun k=>k=rp∨k=pp)∧(∀ z∈R,z.length≤65536)∧R.length≤65537∧(bad=true→tPF ws=none) ∧
  (bad=false→∃ (x:PVd) (d:AD),W.heap[pp]? = some (.cells (pfC (Bp x (.slice none 0 0))) 39 (0,0))∧OwnPf b W x d∧(∀ es,tEs R.length R=some es→ZPf ws x { d with be:=es.map embE })∧(tEs R.length R=none→tPF ws=none) ∧
   (d.sp.length≤70000∧d.pt.length≤70000∧d.pk.length≤70000))
def BnQ (rp pp b:Nat)(ws:WL)(w4 W:World):Prop:=
 ∃ (R:WL) (bad:Bool),RdS rp R bad W∧Chg w4 W (fun k=>k=rp∨k=pp)∧(∀ z∈R,z.length≤65536)∧R.length≤65537∧(bad=true→tPF ws=none) ∧
  (bad=false→∃ (x:PVd) (d:AD) (s:Value) (os:List (EL×Value)),W.heap[pp]? = some (.cells (pfC (Bp x s)) 39 (0,0))∧OwnPf b W x d∧Lo 9 72 (ElI b) b W s os∧os.length+R.length≤65537 ∧
   (∀ es,tEs R.length R=some es→ZPf ws x { d with be:=(os.map (·.1)++es).map embE })∧(tEs R.length R=none→tPF ws=none)∧(d.sp.length≤70000∧d.pt.length≤70000∧d.pk.length≤70000))
theorem SwQ.bn {rp pp b:Nat}{ws:WL}{w4 W:World}(h:SwQ rp pp b ws w4 W):BnQ rp pp b ws w4 W:=by
 obtain ⟨R,bad,h1,h2,h3,h4,h5,h6⟩:=h;refine ⟨R,bad,h1,h2,h3,h4,h5,fun hb=>?_⟩;obtain ⟨x,d,g1,g2,g3,g4,g5⟩:=h6 hb;exact ⟨x,d,_,[],g1,g2,Fk _ _ _ _ _,by simpa using h4,fun es he=>by simpa using g3 es he,g4,g5⟩
def DecQ (ws:WL)(w:World)(e:Ending)(w':World):Prop:=
 ((∃ f x d,tPF ws=some f∧okPF f∧e=.returned (.tuple #[.agg (pfC x),.int .i64 0])∧AnyPf w' x d∧Bw x d=true∧PfR w' x f∧(d.be.length≤1099511627776∧d.sp.length≤1099511627776∧d.pt.length≤1099511627776∧d.pk.length≤1099511627776)) ∨
  ((∀ f,tPF ws=some f→¬okPF f)∧e=.returned (.tuple #[.agg (pfC zPV),.int .i64 5])))∧Ext w w'
def Oj (R:WL)(rp pp:Nat)(w:World)(e:Ending)(w':World):Prop:=
 e=.returned (.tuple #[])∧Chg w w' (fun k=>k=rp∨k=pp)∧∃ (R':WL) (bad:Bool),RdS rp R' bad w'∧(∀ z∈R',z.length≤65536)∧R'.length≤R.length∧(bad=true→Ce R=none) ∧
  (bad=false→R'=[]∧∃ (t:TK) (pk:List Int) (pw:Rat) (co:Int) (x:PVd),Ce R=some (.best t pk pw co)∧w'.heap[pp]? = some (.cells (pfC (Bp x (.slice none 0 0))) 39 (0,0))∧OwnPf w.heap.size w' x (adT t pk pw) ∧
   (x.kd=3∧x.st=0∧x.co=co∧zFV x.y=true∧zFV x.u=true∧zFV x.m=true)∧(t.sp.length≤70000∧t.pt.length≤70000∧pk.length≤70000))
theorem smE {w:World}{s s':Value}{l:List EL}(h:RdL 9 EltR w s l)(h':RdL 9 EltR w s' l)(hn:∀ e∈l,nf e.p≤2048∧nf e.q≤2048)(hl:l.length≤1099511627776):SmC 45 w s s':=by
 obtain ⟨os,e1,h⟩:=h;obtain ⟨os',e2,h'⟩:=h';exact fun W e=>Xp s s' os os' W (h.ext (fun _ _ v=>v.ext e) e) (h'.ext (fun _ _ v=>v.ext e) e) (e1.trans e2.symm) (fun x hx=>hn _ (by rw [←e1];exact List.mem_map_of_mem hx)) (by rw [←e1,List.length_map] at hl;exact hl)
theorem smF {w:World}{s s':Value}{l:List Rat}(h:RdL 4 FracR w s l)(h':RdL 4 FracR w s' l)(hn:∀ e∈l,nf e≤2048)(hl:l.length≤1099511627776):SmC 101 w s s':=by
 obtain ⟨os,e1,h⟩:=h;obtain ⟨os',e2,h'⟩:=h';exact fun W e=>Xo s s' os os' W (h.ext (fun _ _ v=>v.ext e) e) (h'.ext (fun _ _ v=>v.ext e) e) (e1.trans e2.symm) (fun x hx=>hn _ (by rw [←e1];exact List.mem_map_of_mem hx)) (by rw [←e1,List.length_map] at hl;exact hl)
theorem smQ {w:World}{s s':Value}{l:List PD}(h:RdL 11 PrtR w s l)(h':RdL 11 PrtR w s' l)(hn:∀ e∈l,nf e.p≤2048∧nf e.q≤2048)(hl:l.length≤1099511627776):SmC 102 w s s':=by
 obtain ⟨os,e1,h⟩:=h;obtain ⟨os',e2,h'⟩:=h';exact fun W e=>Xn s s' os os' W (h.ext (fun _ _ v=>v.ext e) e) (h'.ext (fun _ _ v=>v.ext e) e) (e1.trans e2.symm) (fun x hx=>hn _ (by rw [←e1];exact List.mem_map_of_mem hx)) (by rw [←e1,List.length_map] at hl;exact hl)
theorem smN {w:World}{s s':Value}{l:List Int}(h:RdL 1 NumA w s l)(h':RdL 1 NumA w s' l)(hl:l.length≤1099511627776):SmC 103 w s s':=by
 obtain ⟨os,e1,h⟩:=h;obtain ⟨os',e2,h'⟩:=h';exact fun W e=>Ti s s' os os' W (h.ext (fun _ _ v=>v) e) (h'.ext (fun _ _ v=>v) e) (e1.trans e2.symm) (by rw [←e1,List.length_map] at hl;exact hl)
theorem rdN {α:Type}(n:Nat)(R:World→Value→α→Prop)(w:World){s:Value}(h:nilS s):RdL n R w s []:=by
 obtain ⟨a,c,rfl⟩:=h;exact ⟨[],rfl,Ii _ _ _ _ _⟩
theorem Afq {w:World}{x x':PVd}{f:PF}(h:PfR w x f)(h':PfR w x' f)(hok:okPF f):SmP w x x':=by
 have hz:(0:Nat)≤1099511627776:=by decide
 cases f with
 | bound l y u m=>
  obtain ⟨a1,a2,a3,a4,a5,a6,a7,a8,a9,a10,a11,a12⟩:=h;obtain ⟨b1,b2,b3,b4,b5,b6,b7,b8,b9,b10,b11,b12⟩:=h';obtain ⟨⟨c1,c2⟩,c3,c4,c5⟩:=hok
  exact ⟨a1.trans b1.symm,a6.trans b6.symm,a12.trans b12.symm,smE a2 b2 (fun e he=>⟨(c2 e he).1,(c2 e he).2.1⟩) (by omega),smF (rdN _ _ _ a7) (rdN _ _ _ b7) (fun e he=>by cases he) hz,smQ (rdN _ _ _ a8) (rdN _ _ _ b8) (fun e he=>by cases he) hz,smN (rdN _ _ _ a10) (rdN _ _ _ b10) hz,
   .inl ⟨y,a3,b3,c3⟩,.inl ⟨u,a4,b4,c4⟩,.inl ⟨m,a5,b5,c5⟩,.inr ⟨a9,b9⟩,.inr ⟨a11,b11⟩⟩
 | leaves l y u m n=>
  obtain ⟨a1,a2,a3,a4,a5,a6,a7,a8,a9,a10,a11,a12⟩:=h;obtain ⟨b1,b2,b3,b4,b5,b6,b7,b8,b9,b10,b11,b12⟩:=h';obtain ⟨⟨c1,c2⟩,c3,c4,c5,-⟩:=hok
  exact ⟨a1.trans b1.symm,a6.trans b6.symm,a12.trans b12.symm,smE a2 b2 (fun e he=>⟨(c2 e he).1,(c2 e he).2.1⟩) (by omega),smF (rdN _ _ _ a7) (rdN _ _ _ b7) (fun e he=>by cases he) hz,smQ (rdN _ _ _ a8) (rdN _ _ _ b8) (fun e he=>by cases he) hz,smN (rdN _ _ _ a10) (rdN _ _ _ b10) hz,
   .inl ⟨y,a3,b3,c3⟩,.inl ⟨u,a4,b4,c4⟩,.inl ⟨m,a5,b5,c5⟩,.inr ⟨a9,b9⟩,.inr ⟨a11,b11⟩⟩
 | best t pk pw co=>
  obtain ⟨a1,a2,a3,a4,a5,a6,a7,a8,a9,a10,a11,a12⟩:=h;obtain ⟨b1,b2,b3,b4,b5,b6,b7,b8,b9,b10,b11,b12⟩:=h';obtain ⟨⟨d1,d2,d3,d4,d5,d6,d7,d8,d9⟩,c2,c3,c4,c5,c6⟩:=hok
  exact ⟨a1.trans b1.symm,a6.trans b6.symm,a12.trans b12.symm,smE (rdN _ _ _ a2) (rdN _ _ _ b2) (fun e he=>by cases he) hz,smF a7 b7 (fun e he=>(d6 e he).1) (by omega),smQ a8 b8 (fun e he=>⟨(d7 e he).1,(d7 e he).2.1⟩) (by omega),smN a10 b10 (by omega),
   .inr ⟨a3,b3⟩,.inr ⟨a4,b4⟩,.inr ⟨a5,b5⟩,.inl ⟨_,a9,b9,d5⟩,.inl ⟨pw,a11,b11,c4⟩⟩
theorem Lq (w:World):SmP w zPV zPV:=by
 have hz:(0:Nat)≤1099511627776:=by decide
 have hn:nilS (.slice none 0 0):=⟨none,0,rfl⟩
 exact ⟨rfl,rfl,rfl,smE (rdN _ _ _ hn) (rdN _ _ _ hn) (fun e he=>by cases he) hz,smF (rdN _ _ _ hn) (rdN _ _ _ hn) (fun e he=>by cases he) hz,smQ (rdN _ _ _ hn) (rdN _ _ _ hn) (fun e he=>by cases he) hz,smN (rdN _ _ _ hn) (rdN _ _ _ hn) hz,
  .inr ⟨rfl,rfl⟩,.inr ⟨rfl,rfl⟩,.inr ⟨rfl,rfl⟩,.inr ⟨rfl,rfl⟩,.inr ⟨rfl,rfl⟩⟩
theorem PfR.ext {w w':World}{x:PVd}{f:PF}(h:PfR w x f)(e:Ext w w'):PfR w' x f:=by
 have hE:∀ {s l},RdL 9 EltR w s l→RdL 9 EltR w' s l:=fun ⟨os,e1,h⟩=>⟨os,e1,h.ext (fun _ _ v=>v.ext e) e⟩
 have hF:∀ {s l},RdL 4 FracR w s l→RdL 4 FracR w' s l:=fun ⟨os,e1,h⟩=>⟨os,e1,h.ext (fun _ _ v=>v.ext e) e⟩
 have hQ:∀ {s l},RdL 11 PrtR w s l→RdL 11 PrtR w' s l:=fun ⟨os,e1,h⟩=>⟨os,e1,h.ext (fun _ _ v=>v.ext e) e⟩
 have hN:∀ {s l},RdL 1 NumA w s l→RdL 1 NumA w' s l:=fun ⟨os,e1,h⟩=>⟨os,e1,h.ext (fun _ _ v=>v) e⟩
 cases f with
 | bound l y u m=>
  obtain ⟨a1,a2,a3,a4,a5,a6,a7,a8,a9,a10,a11,a12⟩:=h;exact ⟨a1,hE a2,a3.ext e,a4.ext e,a5.ext e,a6,a7,a8,a9,a10,a11,a12⟩
 | leaves l y u m n=>
  obtain ⟨a1,a2,a3,a4,a5,a6,a7,a8,a9,a10,a11,a12⟩:=h;exact ⟨a1,hE a2,a3.ext e,a4.ext e,a5.ext e,a6,a7,a8,a9,a10,a11,a12⟩
 | best t pk pw co=>
  obtain ⟨a1,a2,a3,a4,a5,a6,a7,a8,a9,a10,a11,a12⟩:=h;exact ⟨a1,a2,a3,a4,a5,a6,hF a7,hQ a8,a9.ext e,hN a10,a11.ext e,a12⟩
theorem Js {R:WL}{y u m:Rat}(h1:tF R=some (y,R.tail))(h2:tF R.tail=some (u,R.tail.tail))(h3:tF R.tail.tail=some (m,R.tail.tail.tail)):tFs 3 R=some ([y,u,m],R.tail.tail.tail):=by
 simp only [tFs,h1,h2,h3,Option.bind_some,Option.map_some]
theorem Acz {R r:WL}{x:Rat}(h:tF R=some (x,r)):tF R=some (x,R.tail):=by
 rw [h,(De h).2.2]
theorem Gq {R:WL}(h:(tF R).isSome=true):∃ x,tF R=some (x,R.tail):=by
 obtain ⟨⟨x,r⟩,e⟩:=Option.isSome_iff_exists.1 h;exact ⟨x,Acz e⟩
theorem Nf {R:WL}(h:¬((tF R).isSome=true∧(tF R.tail).isSome=true∧(tF R.tail.tail).isSome=true)):tFs 3 R=none:=by
 cases h3:tFs 3 R with
 | none=>rfl
 | some z=>
  exfalso;apply h;simp only [tFs,Option.bind_eq_some_iff,Option.map_eq_some_iff] at h3;obtain ⟨⟨x1,r1⟩,e1,_,⟨⟨x2,r2⟩,e2,_,⟨⟨x3,r3⟩,e3,-⟩,-⟩,-⟩:=h3;simp only at e2 e3;have t1:=(De e1).2.2;subst t1;have t2:=(De e2).2.2;subst t2;exact ⟨by rw [e1];rfl,by rw [e2];rfl,by rw [e3];rfl⟩
theorem Hm {R r:WL}{x:Int}(h:tN R=some (x,r)):r=R.tail:=by
 cases R with
 | nil=>cases h
 | cons w t=>
  simp only [tN,Option.map_eq_some_iff,Prod.mk.injEq] at h;obtain ⟨n,-,-,h⟩:=h;exact h.symm
theorem Ax {w w':World}{rp:Nat}(h:Chg w w' (· = rp))(pp:Nat):Chg w w' (fun k=>k=rp∨k=pp):=h.mono fun _ _ h=>.inl h
theorem Dp {P:Program}{ops:Array Oper}{o:Oper}{a:Act}{w:World}{K:Act→World→Prop}{Q:Exit→Act→World→Prop}{E:Prop}(hgd:o.guard=none)(s x:Operand)(t:TypeId)
  (ho:o.op=.call { callee:=.builtin .append,args:=#[s,x],argTypes:=#[t,t] }) (v y v':Value) (w':World) (hs:a.eval s=v) (hx:a.eval x=y) (hrun:(Builtin.append_ #[t,t] o.type #[v,y]).run P w=.ok v' w')
  (h:K (a.put o.dst v') w'):if Region.wanted o (yielded ops a.tmps)=true then Oper.wp P o a w K Q else E:=by
 have hw:Region.wanted o (yielded ops a.tmps)=true:=by simp [Region.wanted,hgd]
 rw [if_pos hw];unfold Oper.wp execOp;simp only [ho,resolve,invoke,builtin,Sem.run_bind,Sem.run_pure,Result.andThen_ok,List.map_toArray,List.map_cons,List.map_nil,hs,hx,hrun];exact h
theorem So {a b c:World}{S S':Nat→Prop}(h:Chg a b S)(k:Chg b c S')(hs:∀ j,S' j→S j∨a.heap.size≤j):Chg a c S:=
 ⟨k.os.trans h.os,k.tape.trans h.tape,k.output.trans h.output,nT h.size k.size,fun j hj hn=>(k.block j (Nat.lt_of_lt_of_le hj h.size) fun x=>by
  rcases hs j x with h1|h1
  ·exact hn h1
  ·omega).trans (h.block j hj hn)⟩
theorem Adg {b:Nat}{w:World}{x:PVd}{d:AD}{s:Value}{os:List (EL×Value)}(h:OwnPf b w x d)(hL:Lo 9 72 (ElI b) b w s os):(pfC (Bp x s)).all (·.oneCell')=true:=by
 obtain ⟨⟨o1,-,h1⟩,⟨o2,-,h2⟩,⟨o3,-,h3⟩,-⟩:=h;obtain ⟨a1,c1,e1,-⟩:=Fr h1.row;obtain ⟨a2,c2,e2,-⟩:=Fr h2.row;obtain ⟨a3,c3,e3,-⟩:=Fr h3.row;obtain ⟨a4,c4,e4,-⟩:=Fr hL.row;obtain ⟨kd,s1,y,u,m,st,s2,s3,tg,s4,pw,co⟩:=x;simp only at e1 e2 e3;subst e1 e2 e3 e4;simp [pfC,Bp,Value.oneCell']
theorem Nr {b:Nat}{w:World}{x:PVd}{d:AD}{s:Value}{os:List (EL×Value)}(h:OwnPf b w x d)(hL:Lo 9 72 (ElI b) b w s os):AnyPf w (Bp x s) { d with be:=(os.map (·.1)).map embE }:=by
 have h2:Ls 9 EltA w s (os.map fun z=>(embE z.1,z.2)):=hL.ls.map embE fun _ _ hr=>hr.any;refine (Yc s _ h).any ⟨_,?_,h2⟩;rw [List.map_map,List.map_map];rfl
theorem Ael {rp pp b:Nat}{ws:WL}{w4 wr v2 v4:World}{R:WL}{x:PVd}{d:AD}{s' s2:Value}{os:List (EL×Value)}{kd:Int}{p q:FV}{j:Nat}
  (hb:b=w4.heap.size) (hlr:rp<b) (hlp:pp<b) (hnp:pp≠rp) (hC:Chg w4 wr (fun k=>k=rp∨k=pp)) (hRx:∀ z∈R,z.length≤65536) (hne:R≠[]) (hRl:R.length≤65537) (hR:Gs rp wr=R.length)
  (hO:OwnPf b wr x d) (hLl:os.length+R.length≤65537) (hfin:∀ es,tEs R.length R=some es→ZPf ws x { d with be:=(os.map (·.1)++es).map embE }) (hno:tEs R.length R=none→tPF ws=none) (hdl:d.sp.length≤70000∧d.pt.length≤70000∧d.pk.length≤70000)
  (hR2:RdS rp (R.tail.drop j) (false || !(tE R).isSome) v2) (hC2:Chg wr v2 (· = rp))
  (hok:∀ x r,tE R=some (x,r)→r=R.tail.drop j∧kd=x.kd∧FracO v2 wr.heap.size (.agg #[.bool p.b1,.slice p.a1 p.n1 p.c1,.bool p.b2,.slice p.a2 p.n2 p.c2]) x.p∧FracO v2 wr.heap.size (.agg #[.bool q.b1,.slice q.a1 q.n1 q.c1,.bool q.b2,.slice q.a2 q.n2 q.c2]) x.q)
  (hL2:Lo 9 72 (ElI b) b v2 s' os) (hown:v4.ownsRow b 72 9 s2 (os.length+1) (cv (os.map (·.2))++(Value.agg #[.int .u8 kd,.bool p.b1,.slice p.a1 p.n1 p.c1,.bool p.b2,.slice p.a2 p.n2 p.c2,.bool q.b1,.slice q.a1 q.n1 q.c1,.bool q.b2,.slice q.a2 q.n2 q.c2]).cells.toList))
  (hgrow:(v2.alloc (.cells #[.int .u8 kd,.bool p.b1,.slice p.a1 p.n1 p.c1,.bool p.b2,.slice p.a2 p.n2 p.c2,.bool q.b1,.slice q.a1 q.n1 q.c1,.bool q.b2,.slice q.a2 q.n2 q.c2] 72)).grownBy v4 s'.ownBlock)
  (hblk:∀ g,s'.ownBlock=some g→(∃ cs,(v2.alloc (.cells #[.int .u8 kd,.bool p.b1,.slice p.a1 p.n1 p.c1,.bool p.b2,.slice p.a2 p.n2 p.c2,.bool q.b1,.slice q.a1 q.n1 q.c1,.bool q.b2,.slice q.a2 q.n2 q.c2] 72)).heap[g]? = some (.cells cs 72 (0,0)))∧b≤g)
  (zp4:v4.heap[pp]? = some (.cells (pfC (Bp x s')) 39 (0,0))) :
  BnQ rp pp b ws w4 (v4.setCell ⟨pp,1,none⟩ s2)∧Gs rp (v4.setCell ⟨pp,1,none⟩ s2)<Gs rp wr:=by
 have he:v4.setCell ⟨pp,1,none⟩ s2=v4.setRow pp (pfC (Bp x s2)):=(setCell_eq_setRow v4 pp 1 _ _ _ s2 zp4).trans (by rw [Ade]);rw [he];have hx3:=(xR v2).al (.cells #[.int .u8 kd,.bool p.b1,.slice p.a1 p.n1 p.c1,.bool p.b2,.slice p.a2 p.n2 p.c2,.bool q.b1,.slice q.a1 q.n1 q.c1,.bool q.b2,.slice q.a2 q.n2 q.c2] 72);have hR4:=(hR2.ext hx3).grown hgrow (fun g hg=>(hblk g hg).1) (by decide) (by decide);have hR5:=hR4.set zp4 (by decide) hnp (pfC (Bp x s2));have hT2:TyA b wr v2:=TyA.of_chg hC2 fun k hk=>by rw [hk];exact hlr
 have hT4:TyA b v2 v4:=(TyA.of_ext hx3).trans (TyA.elt hgrow fun g hg=>(hblk g hg).1);have hT5:TyA b v4 (v4.setRow pp (pfC (Bp x s2))):=TyA.of_chg (Aq v4 pp _) fun k hk=>by rw [hk];exact hlp
 have hC3:Chg w4 (v2.alloc (.cells #[.int .u8 kd,.bool p.b1,.slice p.a1 p.n1 p.c1,.bool p.b2,.slice p.a2 p.n2 p.c2,.bool q.b1,.slice q.a1 q.n1 q.c1,.bool q.b2,.slice q.a2 q.n2 q.c2] 72)) (fun k=>k=rp∨k=pp):=(hC.trans (Ax hC2 pp)).trans (Chg.of_ext hx3 _);have hC4:Chg w4 v4 (fun k=>k=rp∨k=pp):=So hC3 (Chg.grown hgrow) fun k hk=>.inr (by rw [←hb];exact (hblk k hk.symm).2);have hC5:Chg w4 (v4.setRow pp (pfC (Bp x s2))) (fun k=>k=rp∨k=pp):=hC4.trans ((Aq v4 pp _).mono fun k _ h=>.inr h)
 have hlen:(R.tail.drop j).length+1≤R.length:=by
  have:1≤R.length:=List.length_pos_iff.2 hne;rw [List.length_drop,List.length_tail];omega
 refine ⟨⟨_,_,hR5,hC5,fun z hz=>hRx z (List.mem_of_mem_tail (List.mem_of_mem_drop hz)),by omega,fun hbad=>?_,fun hgood=>?_⟩,by rw [hR5.len,hR];omega⟩
 ·cases hE:tE R with
  | none=>exact hno (Aff hne hE)
  | some z=>rw [hE] at hbad;cases hbad
 ·cases hE:tE R with
  | none=>rw [hE] at hgood;cases hgood
  | some z=>
   obtain ⟨e,r⟩:=z;obtain ⟨h1,h2,h3,h4⟩:=hok e r hE;obtain ⟨-,n1,n2,-⟩:=Is hE;have hst:=Aak hE;rw [←h1];have hbw:b≤wr.heap.size:=by rw [hb];exact hC.size
   have hv:ElI b v4 (.agg #[.int .u8 kd,.bool p.b1,.slice p.a1 p.n1 p.c1,.bool p.b2,.slice p.a2 p.n2 p.c2,.bool q.b1,.slice q.a1 q.n1 q.c1,.bool q.b2,.slice q.a2 q.n2 q.c2]) e:=⟨p,q,by rw [h2],⟨(h3.mono hbw).ty hT4.u,n1⟩,⟨(h4.mono hbw).ty hT4.u,n2⟩⟩
   have hL4:Lo 9 72 (ElI b) b v4 s2 (os++[(e,.agg #[.int .u8 kd,.bool p.b1,.slice p.a1 p.n1 p.c1,.bool p.b2,.slice p.a2 p.n2 p.c2,.bool q.b1,.slice q.a1 q.n1 q.c1,.bool q.b2,.slice q.a2 q.n2 q.c2])]):=hL2.snoc hown (fun _ _ h=>h.ty hT4.u) hv rfl;refine ⟨x,d,s2,_,setRow_heap _ _ _ _ _ _ zp4,hO.ty ((hT2.trans hT4).trans hT5),hL4.ty (Ty.of_chg (Aq v4 pp _) fun k hk=>by rw [hk];exact hlp) fun _ _ h=>h.ty hT5.u,?_,fun es hes=>?_,fun hn=>?_,hdl⟩
   ·rw [List.length_append,List.length_singleton,h1]
    omega
   ·have:=hfin (e::es) (by rw [hst,hes];rfl)
    simpa using this
   ·exact hno (by rw [hst,hn];rfl)
theorem Lo.mono {α:Type}{n:Nat}{E:TypeId}{R R':World→Value→α→Prop}{lo lo':Nat}{w:World}{s:Value}{os:List (α×Value)}(h:Lo n E R lo w s os)(hl:lo'≤lo)(hR:∀ v a,R w v a→R' w v a):Lo n E R' lo' w s os:=
 ⟨Eu h.row hl,fun x hx=>hR _ _ (h.it x hx),h.sz⟩
theorem FrI.mono {b b':Nat}{w:World}{v:Value}{q:Rat}(h:FrI b w v q)(hl:b'≤b):FrI b' w v q:=⟨h.1.mono hl,h.2⟩
theorem FrS.mono {b b':Nat}{w:World}{f:FV}{o:Option Rat}(h:FrS b w f o)(hl:b'≤b):FrS b' w f o:=by
 rcases h with h|⟨q,e,h⟩
 ·exact .inl h
 ·exact .inr ⟨q,e,h.mono hl⟩
theorem OwnPf.mono {b b':Nat}{w:World}{x:PVd}{d:AD}(h:OwnPf b w x d)(hl:b'≤b):OwnPf b' w x d:=by
 obtain ⟨⟨o1,e1,h1⟩,⟨o2,e2,h2⟩,⟨o3,e3,h3⟩,h4,h5,h6,h7,h8,h9⟩:=h;exact ⟨⟨o1,e1,h1.mono hl fun _ _ h=>h.mono hl⟩,⟨o2,e2,h2.mono hl fun _ _ ⟨p,q,e,g1,g2,g3⟩=>⟨p,q,e,g1.mono hl,g2.mono hl,g3⟩⟩,⟨o3,e3,h3.mono hl fun _ _ h=>h⟩,h4.mono hl,h5.mono hl,h6.mono hl,h7.mono hl,h8.mono hl,h9⟩
def zFd:FV:=⟨false,none,0,0,false,none,0,0⟩
def pvB (kd:Int)(f1 f2 f3:FV)(n:Int):PVd:=⟨kd,.slice none 0 0,f1,f2,f3,n,.slice none 0 0,.slice none 0 0,zFd,.slice none 0 0,zFd,0⟩
theorem ownB {b:Nat}{w:World}{f1 f2 f3:FV}{y u m:Rat}(kd n:Int)(l:List EL)(h1:FrI b w (.agg #[.bool f1.b1,.slice f1.a1 f1.n1 f1.c1,.bool f1.b2,.slice f1.a2 f1.n2 f1.c2]) y)(h2:FrI b w (.agg #[.bool f2.b1,.slice f2.a1 f2.n1 f2.c1,.bool f2.b2,.slice f2.a2 f2.n2 f2.c2]) u)(h3:FrI b w (.agg #[.bool f3.b1,.slice f3.a1 f3.n1 f3.c1,.bool f3.b2,.slice f3.a2 f3.n2 f3.c2]) m):OwnPf b w (pvB kd f1 f2 f3 n) (adB l y u m):=
 ⟨⟨[],rfl,Fk _ _ _ _ _⟩,⟨[],rfl,Fk _ _ _ _ _⟩,⟨[],rfl,Fk _ _ _ _ _⟩,.inr ⟨y,rfl,h1⟩,.inr ⟨u,rfl,h2⟩,.inr ⟨m,rfl,h3⟩,.inl ⟨rfl,rfl⟩,.inl ⟨rfl,rfl⟩,by show (0:Int)≤_;decide⟩
theorem Zu:zFV zFd=true:=rfl
theorem mem3 {R:WL}{P:List UInt8→Prop}(h:∀ z∈R,P z):∀ z∈R.tail,P z:=fun z hz=>h z (List.mem_of_mem_tail hz)
theorem Aal {rp pp b:Nat}{R1:WL}{w4 w5 w6 w7 w8:World}{f1 f2 f3:FV}(hb:b=w4.heap.size)(hlr:rp<b)(hlp:pp<b)(hnp:pp≠rp)(hC5:Chg w4 w5 (· = rp))(hs:∀ z∈R1,z.length≤65536)(hlen:R1.length≤65537)
  (hR8:RdS rp R1.tail.tail.tail (((false || !(tF R1).isSome) || !(tF R1.tail).isSome) || !(tF R1.tail.tail).isSome) w8) (hC6:Chg w5 w6 (· = rp)) (hC7:Chg w6 w7 (· = rp)) (hC8:Chg w7 w8 (· = rp))
  (hF6:∀ x r,tF R1=some (x,r)→FracO w6 w5.heap.size (.agg #[.bool f1.b1,.slice f1.a1 f1.n1 f1.c1,.bool f1.b2,.slice f1.a2 f1.n2 f1.c2]) x) (hF7:∀ x r,tF R1.tail=some (x,r)→FracO w7 w6.heap.size (.agg #[.bool f2.b1,.slice f2.a1 f2.n1 f2.c1,.bool f2.b2,.slice f2.a2 f2.n2 f2.c2]) x) (hF8:∀ x r,tF R1.tail.tail=some (x,r)→FracO w8 w7.heap.size (.agg #[.bool f3.b1,.slice f3.a1 f3.n1 f3.c1,.bool f3.b2,.slice f3.a2 f3.n2 f3.c2]) x)
  (zp8:w8.heap[pp]? = some (.cells (pfC zPV) 39 (0,0))):SwQ rp pp b (wStays::R1) w4 (w8.setRow pp (pfC (pvB 1 f1 f2 f3 0))):=by
 have hT:∀ {W W':World},Chg W W' (· = rp)→TyA b W W':=fun h=>TyA.of_chg h fun k hk=>by rw [hk];exact hlr
 have hT9:TyA b w8 (w8.setRow pp (pfC (pvB 1 f1 f2 f3 0))):=TyA.of_chg (Aq w8 pp _) fun k hk=>by rw [hk];exact hlp
 have hC:Chg w4 (w8.setRow pp (pfC (pvB 1 f1 f2 f3 0))) (fun k=>k=rp∨k=pp):=((((Ax hC5 pp).trans (Ax hC6 pp)).trans (Ax hC7 pp)).trans (Ax hC8 pp)).trans ((Aq w8 pp _).mono fun k _ h=>.inr h);refine ⟨_,_,hR8.set zp8 (by decide) hnp _,hC,mem3 (mem3 (mem3 hs)),by simp only [List.length_tail];omega,fun hbad=>?_,fun hgood=>?_⟩
 ·have:tFs 3 R1=none:=Nf fun ⟨h1,h2,h3⟩=>by rw [h1,h2,h3] at hbad;cases hbad
  simp only [tPF,if_true,this,Option.bind_none]
 ·simp only [Bool.or_eq_false_iff,Bool.not_eq_eq_eq_not,Bool.not_false,true_and] at hgood
  obtain ⟨⟨g1,g2⟩,g3⟩:=hgood;obtain ⟨y,e1⟩:=Gq (by simpa using g1);obtain ⟨u,e2⟩:=Gq (by simpa using g2);obtain ⟨m,e3⟩:=Gq (by simpa using g3);have e4:=Js e1 e2 e3;have b5:b≤w5.heap.size:=by rw [hb];exact hC5.size
  have b6:=nT b5 hC6.size;have b7:=nT b6 hC7.size;have k1:FrI b w8 (.agg #[.bool f1.b1,.slice f1.a1 f1.n1 f1.c1,.bool f1.b2,.slice f1.a2 f1.n2 f1.c2]) y:=(FrI.ty (b:=b) ⟨(hF6 _ _ e1).mono b5,(Do e1).2⟩ (hT hC7).u).ty (hT hC8).u;have k2:FrI b w8 (.agg #[.bool f2.b1,.slice f2.a1 f2.n1 f2.c1,.bool f2.b2,.slice f2.a2 f2.n2 f2.c2]) u:=FrI.ty (b:=b) ⟨(hF7 _ _ e2).mono b6,(Do e2).2⟩ (hT hC8).u;have k3:FrI b w8 (.agg #[.bool f3.b1,.slice f3.a1 f3.n1 f3.c1,.bool f3.b2,.slice f3.a2 f3.n2 f3.c2]) m:=⟨(hF8 _ _ e3).mono b7,(Do e3).2⟩
  refine ⟨pvB 1 f1 f2 f3 0,adB [] y u m,setRow_heap _ _ _ _ _ _ zp8,(ownB 1 0 [] k1 k2 k3).ty hT9,fun es hes=>.inr ?_,fun hn=>?_,by simp [adB]⟩
  ·obtain ⟨m1,m2⟩:=Nu (x:=pvB 1 f1 f2 f3 0) (l:=es) (y:=y) (u:=u) (m:=m) rfl rfl rfl rfl rfl
   refine ⟨?_,fun hok=>m2 (m1 ▸ hok)⟩;rw [show ({ adB [] y u m with be:=es.map embE }:AD)=adB es y u m from rfl,m1];simp only [tPF,if_true,e4,Option.bind_some,hes,Option.map_some];rfl
  ·simp only [tPF,if_true,e4,Option.bind_some,hn,Option.map_none]
theorem Xj {rp pp b:Nat}{R1:WL}{w4 w5 w6 w7 w8 w9:World}{f1 f2 f3:FV}{n:Int}(hb:b=w4.heap.size)(hlr:rp<b)(hlp:pp<b)(hnp:pp≠rp)(hC5:Chg w4 w5 (· = rp))(hs:∀ z∈R1,z.length≤65536)(hlen:R1.length≤65537)
  (hR9:RdS rp R1.tail.tail.tail.tail ((((false || !(tF R1).isSome) || !(tF R1.tail).isSome) || !(tF R1.tail.tail).isSome) || !(tN R1.tail.tail.tail).isSome) w9) (hC6:Chg w5 w6 (· = rp)) (hC7:Chg w6 w7 (· = rp)) (hC8:Chg w7 w8 (· = rp)) (hC9:Chg w8 w9 (· = rp))
  (hF6:∀ x r,tF R1=some (x,r)→FracO w6 w5.heap.size (.agg #[.bool f1.b1,.slice f1.a1 f1.n1 f1.c1,.bool f1.b2,.slice f1.a2 f1.n2 f1.c2]) x) (hF7:∀ x r,tF R1.tail=some (x,r)→FracO w7 w6.heap.size (.agg #[.bool f2.b1,.slice f2.a1 f2.n1 f2.c1,.bool f2.b2,.slice f2.a2 f2.n2 f2.c2]) x) (hF8:∀ x r,tF R1.tail.tail=some (x,r)→FracO w8 w7.heap.size (.agg #[.bool f3.b1,.slice f3.a1 f3.n1 f3.c1,.bool f3.b2,.slice f3.a2 f3.n2 f3.c2]) x) (hN:∀ m r,tN R1.tail.tail.tail=some (m,r)→n=m)
  (zp9:w9.heap[pp]? = some (.cells (pfC zPV) 39 (0,0))):SwQ rp pp b (Bv::R1) w4 (w9.setRow pp (pfC (pvB 2 f1 f2 f3 n))):=by
 have hwn:¬Bv=wStays:=by decide
 have hT:∀ {W W':World},Chg W W' (· = rp)→TyA b W W':=fun h=>TyA.of_chg h fun k hk=>by rw [hk];exact hlr
 have hT9:TyA b w9 (w9.setRow pp (pfC (pvB 2 f1 f2 f3 n))):=TyA.of_chg (Aq w9 pp _) fun k hk=>by rw [hk];exact hlp
 have hC:Chg w4 (w9.setRow pp (pfC (pvB 2 f1 f2 f3 n))) (fun k=>k=rp∨k=pp):=(((((Ax hC5 pp).trans (Ax hC6 pp)).trans (Ax hC7 pp)).trans (Ax hC8 pp)).trans (Ax hC9 pp)).trans ((Aq w9 pp _).mono fun k _ h=>.inr h);refine ⟨_,_,hR9.set zp9 (by decide) hnp _,hC,mem3 (mem3 (mem3 (mem3 hs))),by simp only [List.length_tail];omega,fun hbad=>?_,fun hgood=>?_⟩
 ·by_cases h3:(tF R1).isSome=true∧(tF R1.tail).isSome=true∧(tF R1.tail.tail).isSome=true
  ·obtain ⟨h1,h2,h3⟩:=h3
   rw [h1,h2,h3] at hbad;obtain ⟨y,e1⟩:=Gq h1;obtain ⟨u,e2⟩:=Gq h2;obtain ⟨m,e3⟩:=Gq h3;have e4:=Js e1 e2 e3
   have e5:tN R1.tail.tail.tail=none:=by
    cases h:tN R1.tail.tail.tail with
    | none=>rfl
    | some z=>rw [h] at hbad;cases hbad
   simp only [tPF,if_neg hwn,if_true,e4,Option.bind_some,e5,Option.bind_none]
  ·have:=Nf h3
   simp only [tPF,if_neg hwn,if_true,this,Option.bind_none]
 ·simp only [Bool.or_eq_false_iff,Bool.not_eq_eq_eq_not,Bool.not_false,true_and] at hgood
  obtain ⟨⟨⟨g1,g2⟩,g3⟩,g4⟩:=hgood;obtain ⟨y,e1⟩:=Gq g1;obtain ⟨u,e2⟩:=Gq g2;obtain ⟨m,e3⟩:=Gq g3;obtain ⟨⟨n',r'⟩,e5⟩:=Option.isSome_iff_exists.1 g4;obtain rfl:=Hm e5;obtain rfl:=hN _ _ e5;have e4:=Js e1 e2 e3;have b5:b≤w5.heap.size:=by rw [hb];exact hC5.size
  have b6:=nT b5 hC6.size;have b7:=nT b6 hC7.size;have k1:FrI b w9 (.agg #[.bool f1.b1,.slice f1.a1 f1.n1 f1.c1,.bool f1.b2,.slice f1.a2 f1.n2 f1.c2]) y:=((FrI.ty (b:=b) ⟨(hF6 _ _ e1).mono b5,(Do e1).2⟩ (hT hC7).u).ty (hT hC8).u).ty (hT hC9).u;have k2:FrI b w9 (.agg #[.bool f2.b1,.slice f2.a1 f2.n1 f2.c1,.bool f2.b2,.slice f2.a2 f2.n2 f2.c2]) u:=(FrI.ty (b:=b) ⟨(hF7 _ _ e2).mono b6,(Do e2).2⟩ (hT hC8).u).ty (hT hC9).u;have k3:FrI b w9 (.agg #[.bool f3.b1,.slice f3.a1 f3.n1 f3.c1,.bool f3.b2,.slice f3.a2 f3.n2 f3.c2]) m:=FrI.ty (b:=b) ⟨(hF8 _ _ e3).mono b7,(Do e3).2⟩ (hT hC9).u;refine ⟨pvB 2 f1 f2 f3 n,adB [] y u m,setRow_heap _ _ _ _ _ _ zp9,(ownB 2 n [] k1 k2 k3).ty hT9,fun es hes=>.inr ?_,fun hn=>?_,by simp [adB]⟩
  ·obtain ⟨m1,m2⟩:=Ue (x:=pvB 2 f1 f2 f3 n) (l:=es) (y:=y) (u:=u) (m:=m) (n:=n) rfl rfl rfl rfl rfl
   refine ⟨?_,fun hok=>m2 (m1 ▸ hok)⟩;rw [show ({ adB [] y u m with be:=es.map embE }:AD)=adB es y u m from rfl,m1];simp only [tPF,if_neg hwn,if_true,e4,Option.bind_some,e5,hes,Option.map_some];rfl
  ·simp only [tPF,if_neg hwn,if_true,e4,Option.bind_some,e5,hn,Option.map_none]
theorem Ac1 {rp pp b:Nat}{R1:WL}{w4 w5 w6:World}{e:Ending}(hb:b=w4.heap.size)(hC5:Chg w4 w5 (· = rp))(hlen:R1.length≤65537)(h:Oj R1 rp pp w5 e w6):SwQ rp pp b (Fd::R1) w4 w6:=by
 obtain ⟨-,hC6,R',bad,hR,hx,hl,hbad,hgood⟩:=h
 have e1:tPF (Fd::R1)=Ce R1:=by
  simp only [tPF,if_neg (show ¬Fd=wStays by decide),if_neg (show ¬Fd=Bv by decide),if_true]
 refine ⟨R',bad,hR,(Ax hC5 pp).trans hC6,hx,by omega,fun hb'=>by rw [e1];exact hbad hb',fun hg=>?_⟩;obtain ⟨h0,t,pk,pw,co,x,h1,h2,h3,⟨q1,q2,q3,q4,q5,q6⟩,h5⟩:=hgood hg;subst h0;refine ⟨x,adT t pk pw,h2,h3.mono (by rw [hb];exact hC5.size),fun es hes=>.inr ?_,fun hn=>(by cases hn),(by simpa [adT] using h5)⟩
 obtain rfl:es=[]:=by
  have:tEs 0 []=some es:=hes;simpa [tEs,eq_comm] using this
 obtain ⟨m1,m2⟩:=Abk (x:=x) (t:=t) (pk:=pk) (pw:=pw) (co:=co) q1 q2 q3 q4 q5 q6;rw [show ({ adT t pk pw with be:=([]:List EL).map embE }:AD)=adT t pk pw from rfl,e1,m1];exact ⟨h1,fun hok=>m2 hok⟩
theorem Aam {rp pp b:Nat}{X:List UInt8}{R1:WL}{w4 w5:World}(hX1:¬X=wStays)(hX2:¬X=Bv)(hX3:¬X=Fd)(hC5:Chg w4 w5 (· = rp))(hs:∀ z∈R1,z.length≤65536)(hlen:R1.length≤65537)(hR:RdS rp R1 false w5)(zp:w5.heap[pp]? = some (.cells (pfC zPV) 39 (0,0))):SwQ rp pp b (X::R1) w4 w5:=by
 have e1:tPF (X::R1)=none:=by simp only [tPF,if_neg hX1,if_neg hX2,if_neg hX3]
 exact ⟨R1,false,hR,Ax hC5 pp,hs,hlen,fun h=>(by cases h),fun _=>⟨zPV,⟨[],[],[],[],none,none,none,none,none⟩,zp,⟨⟨[],rfl,Fk _ _ _ _ _⟩,⟨[],rfl,Fk _ _ _ _ _⟩,⟨[],rfl,Fk _ _ _ _ _⟩,.inl ⟨rfl,rfl⟩,.inl ⟨rfl,rfl⟩,.inl ⟨rfl,rfl⟩,.inl ⟨rfl,rfl⟩,.inl ⟨rfl,rfl⟩,by show (0:Int)≤_;decide⟩,
  fun es hes=>.inl ⟨e1,Wg (by decide) (by decide) (by decide)⟩,fun _=>e1,by simp⟩⟩
theorem Acb (hBest:∀ (rp pp:Nat) (R:WL) (w:World),RdS rp R false w→w.heap[pp]? = some (.cells (pfC zPV) 39 (0,0))→rp≠pp→(∀ x∈R,x.length≤65536)→R.length≤65537→(∀ W,Chg w W (fun k=>k=rp∨k=pp)→Max0 W∧Tab10 W∧ErrA W) →
   Calls Tryz.prog 37 #[.pointer (some ⟨rp,0,none⟩),.pointer (some ⟨pp,0,none⟩)] w (Oj R rp pp w))
  (s:ByteArray) (w:World) (hs:s.size≤65536) (hm:∀ W,Ext w W→Max0 W∧Tab10 W∧ErrA W) :
  Calls Tryz.prog 10 #[.string s] w (DecQ (Ar 32 s.data.toList) w):=by
 obtain ⟨w1,hw1⟩:=nmE (w.alloc (.cells (pfC zPV) 39));have hE1:=aLe1 hw1;have z1:=aL10 hw1;have KSp:=psplit s w1 hs (hm w1 hE1).1;obtain ⟨hwl,hwx⟩:=Xd s.data.toList;have hne:=Jq 32 s.data.toList;obtain ⟨WS,hWS⟩:=nmE (Ar 32 s.data.toList);rw [←hWS] at KSp hwl hwx hne ⊢;have hsl:s.data.toList.length=s.size:=by rw [Array.length_toList];rfl
 have hwx':∀ x∈WS,x.length≤65536:=fun x hx=>by have:=hwx x hx;omega
 have hwl':WS.length≤65537:=by omega
 have hsz:¬(65536:Int)<(s.size:Int):=by omega
 clear hwl hwx hsl hWS;cases WS with
 | nil=>exact absurd rfl hne
 | cons X R1=>
  clear hne;obtain ⟨n,hn⟩:=nmE (((X::R1):WL).length);rw [←hn] at KSp;simp only [pfC,zPV] at hw1;replace hw1:=mK hw1;replace KSp:=mK KSp;replace hn:=mK hn;replace hBest:=mK hBest;replace hE1:=mK hE1;replace z1:=mK z1;replace hm:=mK hm;go_enter Tryz.func10,Tryz.ntmps10;go_upto_region 5 with (go_at_call 33;rw [←hw1.out];refine KSp.out.mono ?_;rintro e w2 ⟨rfl,hz2,hx2⟩;(replace hz2:=mK hz2);(replace hx2:=mK hx2))
  obtain ⟨rp,hrp⟩:=nmE w2.heap.size;obtain ⟨pp,hpp⟩:=nmE (rp+1);obtain ⟨w3,hw3⟩:=nmE (w2.alloc (.cells #[.slice (some ⟨w1.heap.size,0,none⟩) n n,.bool false] 82));obtain ⟨w4,hw4⟩:=nmE (w3.alloc (.cells (pfC zPV) 39));have hw4':=hw4;simp only [pfC,zPV] at hw4';rw [←hw3,←hw4',←hrp,←hpp];have hx3:=aLe1 hw3;have hx4:=aLe1 hw4;have hs3:w3.heap.size=pp:=by rw [hw3,hpp,hrp];simp
  have zR:w4.heap[rp]? = some (.cells #[.slice (some ⟨w1.heap.size,0,none⟩) n n,.bool false] 82 (0,0)):=hx4.blk (by rw [hw3,hrp];exact heap_alloc_new _ _);have zP:w4.heap[pp]? = some (.cells (pfC zPV) 39 (0,0)):=by rw [hw4,←hs3];exact heap_alloc_new _ _
  have hlt1:w1.heap.size<rp:=by
   rw [hrp];exact (Array.getElem?_eq_some_iff.1 hz2.out).1
  have hE4:Ext w w4:=hE1.out.trans (hx2.out.trans (hx3.trans hx4));have hr0:w.heap.size<rp:=Nat.lt_of_le_of_lt hE1.out.size hlt1;have hR4:RdS rp (X::R1) false w4:=⟨w1.heap.size,[],some ⟨w1.heap.size,0,none⟩,n,by rw [←hn.out];exact zR,by rw [hn.out];exact nR _,fun _=>rfl,(hx3.trans hx4).blk (by simpa using hz2.out),by omega⟩
  obtain ⟨b,hb⟩:=nmE w4.heap.size;have hbp:b=pp+1:=by rw [hb,hw4,←hs3];simp
  have z0:w4.heap[w.heap.size]? = some (.cells (pfC zPV) 39 (0,0)):=(hx2.out.trans (hx3.trans hx4)).blk z1.out;have hM:=mK (fun W (h:Chg w4 W (fun k=>k=rp∨k=pp))=>hm.out W (h.ext w hE4 fun k hk hS=>by omega));have hX:=mK (fun W (h:Chg w4 W (fun k=>k=rp∨k=pp))=>h.ext w hE4 fun k hk hS=>by omega);have hZ0:=mK (fun W (h:Chg w4 W (fun k=>k=rp∨k=pp))=>(h.block w.heap.size (Array.getElem?_eq_some_iff.1 z0).1 (by omega)).trans z0);have KW:=mK (Ej rp (X::R1) false w4 hR4);replace hb:=mK hb;replace hbp:=mK hbp;replace hpp:=mK hpp;replace zP:=mK zP;clear hw3 hw4 hw4' hrp hs3 hx3 hx4 zR hlt1 hE4 hz2 hx2 hR4 z0 KSp hw1 z1 hm hn hE1;go_upto_block 0 with (go_at_call 34;refine KW.out.mono ?_;rintro e w5 ⟨rfl,hR5,hC5⟩;(replace hR5:=mK hR5);(replace hC5:=mK hC5))
  clear KW;obtain ⟨XB,hXB⟩:∃ XB:ByteArray,XB=⟨X.toArray⟩:=⟨_,rfl⟩
  rw [←hXB];replace hXB:=mK hXB;go_cut [] from 14 to 31 (fun wx=>SwQ rp pp b (X::R1) w4 wx)
  case first=>
   have hR5':RdS rp R1 false w5:=hR5.out;have hC5':Chg w4 w5 (· = rp):=hC5.out;have hlrp:rp<b:=by have:=hpp.out;have:=hbp.out;omega
   have hlpp:pp<b:=by have:=hbp.out;omega
   have hnp:pp≠rp:=by have:=hpp.out;omega
   have hR1x:∀ z∈R1,z.length≤65536:=fun z hz=>hwx' z (List.mem_cons_of_mem _ hz);have hR1l:R1.length≤65537:=by simp only [List.length_cons] at hwl';omega
   have hXl:XB.toList=X:=by rw [ByteArray.toList_eq,hXB.out]
   have zp5:w5.heap[pp]? = some (.cells (pfC zPV) 39 (0,0)):=(hC5'.block pp (Array.getElem?_eq_some_iff.1 zP.out).1 hnp).trans zP.out;have KF:=mK (fun (R:WL) (bad:Bool) (W:World) (h:RdS rp R bad W) (hC:Chg w4 W (fun k=>k=rp∨k=pp)) (hs:∀ z∈R,z.length≤65536)=>Ft rp R bad W h hs (fun W' h'=>(hM.out W' (hC.trans (Ax h' pp))).1));have KNm:=mK (fun (R:WL) (bad:Bool) (W:World) (h:RdS rp R bad W) (hC:Chg w4 W (fun k=>k=rp∨k=pp)) (hs:∀ z∈R,z.length≤65536)=>Nl rp R bad W h hs (fun W' h'=>(hM.out W' (hC.trans (Ax h' pp))).2.1) (fun W' h'=>(hM.out W' (hC.trans (Ax h' pp))).2.2));have KB:=mK (hBest.out rp pp R1 w5 hR5' zp5 (fun e=>hnp e.symm) hR1x hR1l (fun W h=>hM.out W ((Ax hC5' pp).trans h)));have hsw4:=mK (fun (h1:¬X=wStays) (h2:¬X=Bv) (h3:¬X=Fd)=>Aam (b:=b) h1 h2 h3 hC5' hR1x hR1l hR5' zp5);replace zp5:=mK zp5;replace hnp:=mK hnp;replace hR1x:=mK hR1x;clear hBest hZ0 hX hwx' hwl' hR5;have hR5:=mK hR5';clear hR5';replace hC5':=mK hC5';by_cases hx1:X=wStays
   ·have n1:(XB.toList==[115,116,97,121,115])=true:=by rw [hXl,hx1];decide
    have tok:Tok 0:=.mk _;clear hXl
    go_wp2_with (first
     | (replace tok:Tok 1:=nxT 0 tok;go_at_call 35;refine (KF.out R1 false _ hR5.out (Ax hC5'.out pp) hR1x.out).mono ?_;rintro e w6 ⟨f1,rfl,hR6,hC6,hF6⟩;(replace hR6:=mK hR6);(replace hC6:=mK hC6);(replace hF6:=mK hF6))
     | (replace tok:Tok 2:=nxT 1 tok;go_at_call 35;refine (KF.out R1.tail _ _ hR6.out ((Ax hC5'.out pp).trans (Ax hC6.out pp)) (mem3 hR1x.out)).mono ?_;rintro e w7 ⟨f2,rfl,hR7,hC7,hF7⟩;(replace hR7:=mK hR7);(replace hC7:=mK hC7);(replace hF7:=mK hF7))
     | (replace tok:Tok 3:=nxT 2 tok;go_at_call 35;refine (KF.out R1.tail.tail _ _ hR7.out (((Ax hC5'.out pp).trans (Ax hC6.out pp)).trans (Ax hC7.out pp)) (mem3 (mem3 hR1x.out))).mono ?_;rintro e w8 ⟨f3,rfl,hR8,hC8,hF8⟩;(have hC58:=(hC6.out.trans hC7.out).trans hC8);(have zp8:=mK ((hC58.block pp (Array.getElem?_eq_some_iff.1 zp5.out).1 hnp.out).trans zp5.out));(replace hR8:=mK hR8);(replace hC8:=mK hC8);(replace hF8:=mK hF8);clear hC58)
     | (replace tok:Tok 4:=nxT 3 tok;refine wpList_store_row rfl 39 (.tmp 5) (.tmp 20) rfl pp (pfC (pvB 1 f1 f2 f3 0)) rfl rfl 39 _ zp8.out (by kernel_rfl) rfl (by first|rfl|kernel_rfl|(simp [pfC,pvB,Value.oneCell'])) ?_))
    go_meet;rw [hx1];exact Aal hb.out hlrp hlpp hnp.out hC5'.out hR1x.out hR1l hR8.out hC6.out hC7.out hC8.out hF6.out hF7.out hF8.out zp8.out
   ·have n1:(XB.toList==[115,116,97,121,115])=false:=by rw [hXl,beq_eq_false_iff_ne];exact hx1
    by_cases hx2:X=Bv
    ·have n2:(XB.toList==[108,101,97,118,101,115])=true:=by rw [hXl,hx2];decide
     have tok:Tok 0:=.mk _;clear hXl
     go_wp2_with (first
      | (replace tok:Tok 1:=nxT 0 tok;go_at_call 35;refine (KF.out R1 false _ hR5.out (Ax hC5'.out pp) hR1x.out).mono ?_;rintro e w6 ⟨f1,rfl,hR6,hC6,hF6⟩;(replace hR6:=mK hR6);(replace hC6:=mK hC6);(replace hF6:=mK hF6))
      | (replace tok:Tok 2:=nxT 1 tok;go_at_call 35;refine (KF.out R1.tail _ _ hR6.out ((Ax hC5'.out pp).trans (Ax hC6.out pp)) (mem3 hR1x.out)).mono ?_;rintro e w7 ⟨f2,rfl,hR7,hC7,hF7⟩;(replace hR7:=mK hR7);(replace hC7:=mK hC7);(replace hF7:=mK hF7))
      | (replace tok:Tok 3:=nxT 2 tok;go_at_call 35;refine (KF.out R1.tail.tail _ _ hR7.out (((Ax hC5'.out pp).trans (Ax hC6.out pp)).trans (Ax hC7.out pp)) (mem3 (mem3 hR1x.out))).mono ?_;rintro e w8 ⟨f3,rfl,hR8,hC8,hF8⟩;(replace hR8:=mK hR8);(replace hC8:=mK hC8);(replace hF8:=mK hF8))
      | (replace tok:Tok 4:=nxT 3 tok;go_at_call 36;refine (KNm.out R1.tail.tail.tail _ _ hR8.out ((((Ax hC5'.out pp).trans (Ax hC6.out pp)).trans (Ax hC7.out pp)).trans (Ax hC8.out pp)) (mem3 (mem3 (mem3 hR1x.out)))).mono ?_;rintro e w9 ⟨n9,rfl,hR9,hC9,hN9⟩;(have hC59:=((hC6.out.trans hC7.out).trans hC8.out).trans hC9);(have zp9:=mK ((hC59.block pp (Array.getElem?_eq_some_iff.1 zp5.out).1 hnp.out).trans zp5.out));(replace hR9:=mK hR9);(replace hC9:=mK hC9);(replace hN9:=mK hN9);clear hC59)
      | (replace tok:Tok 5:=nxT 4 tok;refine wpList_store_row rfl 39 (.tmp 5) (.tmp 28) rfl pp (pfC (pvB 2 f1 f2 f3 n9)) rfl rfl 39 _ zp9.out (by kernel_rfl) rfl (by first|rfl|kernel_rfl|(simp [pfC,pvB,Value.oneCell'])) ?_))
     go_meet;rw [hx2];exact Xj hb.out hlrp hlpp hnp.out hC5'.out hR1x.out hR1l hR9.out hC6.out hC7.out hC8.out hC9.out hF6.out hF7.out hF8.out hN9.out zp9.out
    ·have n2:(XB.toList==[108,101,97,118,101,115])=false:=by rw [hXl,beq_eq_false_iff_ne];exact hx2
     by_cases hx3:X=Fd
     ·have n3:(XB.toList==[98,101,115,116])=true:=by rw [hXl,hx3];decide
      clear hXl;go_wp2_with (go_at_call 37;refine KB.out.mono ?_;intro e w6 hQ;(have hq:=mK (Ac1 (b:=b) (w4:=w4) hb.out hC5'.out hR1l hQ));(obtain ⟨rfl,-⟩:=hQ));go_meet;rw [hx3];exact hq.out
     ·have n3:(XB.toList==[98,101,115,116])=false:=by rw [hXl,beq_eq_false_iff_ne];exact hx3
      clear hXl;go_wp2_with fail;go_meet;exact hsw4.out hx1 hx2 hx3
  case rest=>
   clear hBest hR5 hC5;have hcut:=mK hcut.bn;go_wp2_with fail;go_loopw [] (fun wr=>BnQ rp pp b (X::R1) w4 wr) (fun wr=>Gs rp wr)
   case atStart=>exact hcut.out
   case round=>
    clear hcut;obtain ⟨wr',rfl⟩:∃ wr':World,wr'=wr:=⟨_,rfl⟩
    obtain ⟨R,bad,hR,hC,hRx,hRl,hbad,hgood⟩:=hrel;obtain ⟨ra,rc,y0,y1⟩:=hR.cells;have hlrp:rp<b:=by have:=hpp.out;have:=hbp.out;omega
    have hlpp:pp<b:=by have:=hbp.out;omega
    have hnp:pp≠rp:=by have:=hpp.out;omega
    have hEw:=mK (hX.out wr' hC);have hz0:=mK (hZ0.out wr' hC);replace hnp:=mK hnp;cases bad with
    | true=>
     have hnone:=mK (hbad rfl);clear hgood hbad hRx hRl hR hC;by_cases hl:0<R.length
     all_goals
      have hli:(0:Int)<(R.length:Int)∨¬(0:Int)<(R.length:Int):=by omega
      first
       | (have hl1:(0:Int)<(R.length:Int):=by omega)
       | (have hl1:¬(0:Int)<(R.length:Int):=by omega)
      clear hli;go_wp2_with (refine wpList_store_row rfl 39 (.tmp 2) (.tmp 54) rfl w.heap.size (pfC zPV) rfl rfl 39 _ hz0.out (by kernel_rfl) rfl (by kernel_rfl) ?_);refine bodyPost_ret (Aj rfl _ _ w.heap.size 39 (pfC zPV) _ _ rfl rfl (setRow_heap _ _ _ _ _ _ hz0.out) Tryz.underlying39 rfl (by kernel_rfl)) rfl ⟨.inr ⟨fun f hf=>?_,rfl⟩,hEw.out.row (nR _) _⟩;rw [hnone.out] at hf;cases hf
    | false=>
     obtain ⟨x,d,s',os,hp,hO,hL,hLl,hfin,hno,hdl⟩:=hgood rfl;clear hbad hgood;by_cases hl:0<R.length
     ·have hl1:(0:Int)<(R.length:Int):=by omega
      have hne:Hid (R≠[]):=fun e=>by rw [e] at hl;simp at hl
      have hcell:wr'.cell? ⟨pp,1,none⟩=some s':=by simp [World.cell?,hp,pfC,Bp]
      have hRel:=mK (fun W (e:Ext wr' W)=>Lu rp R false W (hR.ext e) hRx (fun W' h=>(hM.out W' ((hC.trans (Chg.of_ext e _)).trans (Ax h pp))).1));have hbw:b≤wr'.heap.size:=by rw [hb.out];exact hC.size
      have hlen:=mK hR.len;replace hR:=mK hR;replace hC:=mK hC;replace hO:=mK hO;replace hL:=mK hL;replace hfin:=mK hfin;replace hno:=mK hno;replace hp:=mK hp;replace hRx:=mK hRx;replace hdl:=mK hdl;go_upto_region 13 with fail
      go_region_law (first
       | (refine Dp rfl (.tmp 42) (.tmp 44) 23 rfl s' _ (.slice (some ⟨g2,0,none⟩) (os.length+1) c2) v4 rfl rfl hrun.out ?_)
       | (
       go_simp;go_at_call 38;refine (hRel.out _ (by first|exact xR _|exact Below.drew (xR _))).mono ?_;rintro e v2 ⟨kd,p,q,j,rfl,hR2,hC2,hok⟩;(have hC2':Chg wr' v2 (· = rp):=by first|exact hC2|exact (Chg.of_ext (Below.drew (xR wr')) _).trans hC2);(have hok':∀ x r,tE R=some (x,r)→r=R.tail.drop j∧kd=x.kd∧FracO v2 wr'.heap.size (.agg #[.bool p.b1,.slice p.a1 p.n1 p.c1,.bool p.b2,.slice p.a2 p.n2 p.c2]) x.p∧FracO v2 wr'.heap.size (.agg #[.bool q.b1,.slice q.a1 q.n1 q.c1,.bool q.b2,.slice q.a2 q.n2 q.c2]) x.q:=hok);(have hT2:TyA b wr' v2:=TyA.of_chg hC2' fun k hk=>by rw [hk];exact hlrp);(have hL2:Lo 9 72 (ElI b) b v2 s' os:=hL.out.ty (Ty.of_chg hC2' fun k hk=>by rw [hk];exact hlrp) fun _ _ x=>x.ty hT2.u);(obtain ⟨s2,v4,hrun,hown,hgrow,hblk⟩:=Le (sl:=23) Tryz.underlying23 Wr rfl (by decide) (by decide) hL2 (nT hbw hC2'.size) (by omega) (.agg #[.int .u8 kd,.bool p.b1,.slice p.a1 p.n1 p.c1,.bool p.b2,.slice p.a2 p.n2 p.c2,.bool q.b1,.slice q.a1 q.n1 q.c1,.bool q.b2,.slice q.a2 q.n2 q.c2]) rfl (by
        intro u hu;simp only [Value.cells,List.mem_cons,List.not_mem_nil,or_false] at hu
        rcases hu with rfl|rfl|rfl|rfl|rfl|rfl|rfl|rfl|rfl<;>rfl));(obtain ⟨g2,c2,rfl,-,-⟩:=hown.form (by omega));(have hrun:(Builtin.append_ #[23,23] 23 #[s',.slice (some ⟨v2.heap.size,0,none⟩) 1 1]).run Tryz.prog (v2.alloc (.cells #[.int .u8 kd,.bool p.b1,.slice p.a1 p.n1 p.c1,.bool p.b2,.slice p.a2 p.n2 p.c2,.bool q.b1,.slice q.a1 q.n1 q.c1,.bool q.b2,.slice q.a2 q.n2 q.c2] 72))=.ok (.slice (some ⟨g2,0,none⟩) (os.length+1) c2) v4:=hrun);(have zp2:v2.heap[pp]? = some (.cells (pfC (Bp x s')) 39 (0,0)):=(hC2'.block pp (Array.getElem?_eq_some_iff.1 hp.out).1 hnp.out).trans hp.out);(have hcell2:v2.cell? ⟨pp,1,none⟩=some s':=by simp [World.cell?,zp2,pfC,Bp]);(have hx3:=(xR v2).al (.cells #[.int .u8 kd,.bool p.b1,.slice p.a1 p.n1 p.c1,.bool p.b2,.slice p.a2 p.n2 p.c2,.bool q.b1,.slice q.a1 q.n1 q.c1,.bool q.b2,.slice q.a2 q.n2 q.c2] 72));(have hcell3:=hx3.cell hcell2);(have zp4:v4.heap[pp]? = some (.cells (pfC (Bp x s')) 39 (0,0)):=Hx (hx3.blk zp2) hgrow (fun g hg=>(hblk g hg).1) (by decide));(have fz:v4.frozen? ⟨pp,1,none⟩=false:=Lib.frozen_of_heap zp4 1);(have cp4:v4.cell? ⟨pp,1,none⟩=some s':=by simp [World.cell?,zp4,pfC,Bp]);(replace hR2:=mK hR2);(replace hC2':=mK hC2');(replace hok':=mK hok');(replace hT2:=mK hT2);(replace hL2:=mK hL2);(replace hown:=mK hown);(replace hgrow:=mK hgrow);(replace hblk:=mK hblk);(replace zp2:=mK zp2);(replace zp4:=mK zp4);(replace hx3:=mK hx3);(replace hrun:=mK hrun);clear hok hC2))
      all_goals
       have hfb:=mK (Ael hb.out hlrp hlpp hnp.out hC.out hRx.out hne.out hRl hlen.out hO.out hLl hfin.out hno.out hdl.out hR2.out hC2'.out hok'.out hL2.out hown.out hgrow.out hblk.out zp4.out);clear hrun fz cp4 hcell hcell2 hcell3;go_wp2_with fail;go_roundw
       case rel=>first|exact hfb.out.1|exact ⟨_,_,_,_,_,_,_,_,_,_,_,_,_,_,_,hfb.out.1,rfl⟩
       case measure=>exact hfb.out.2
     ·have hl1:¬(0:Int)<(R.length:Int):=by omega
      have hR0:R=[]:=List.eq_nil_of_length_eq_zero (by omega);have hZ:=hfin [] (by rw [hR0];rfl);rw [List.append_nil] at hZ;have hAny:=Nr hO hL;obtain ⟨D,hD⟩:=nmE (({ d with be:=(os.map (·.1)).map embE }):AD);rw [←hD] at hZ hAny
      have hDb:D.be.length≤1099511627776∧D.sp.length≤1099511627776∧D.pt.length≤1099511627776∧D.pk.length≤1099511627776:=by
       rw [hD];refine ⟨?_,?_,?_,?_⟩
       ·simp only [List.length_map];omega
       ·have:=hdl.1;show d.sp.length≤_;omega
       ·have:=hdl.2.1;show d.pt.length≤_;omega
       ·have:=hdl.2.2;show d.pk.length≤_;omega
      have KM:=Jx (Bp x s') D wr' hAny hDb;have zE:=mK (fun W (e:Ext wr' W)=>e.blk hp)
      have hFin:=mK (fun (W:World) (e:Ext wr' W) (cs:Array Value)=>(show AnyPf (W.setRow w.heap.size cs) (Bp x s') D from by
       have hT:TyA b wr' (W.setRow w.heap.size cs):=(TyA.of_ext e).trans (TyA.of_chg (Aq W w.heap.size cs) fun k hk=>by rw [hk];omega);rw [hD]
       exact Nr (hO.ty hT) (hL.ty ((Ty.of_ext e).trans (Ty.of_chg (Aq W w.heap.size cs) fun k hk=>by rw [hk];omega)) fun _ _ h=>h.ty hT.u)))
      obtain ⟨B,hB⟩:=nmE (Bw (Bp x s') D);rw [←hB] at KM;have hZ:Hid (ZPf (X::R1) (Bp x s') D):=hZ;have hz6:=mK (fun W (e:Ext wr' W)=>e.blk hz0.out);replace hB:=mK hB;replace hDb:=mK hDb;obtain ⟨cs,hcs⟩:=nmE (pfC (Bp x s'));have hcn:cs.size=27:=by rw [hcs];rfl
      have hc1:cs.all (·.oneCell')=true:=by rw [hcs];exact Adg hO hL
      replace hc1:=mK hc1;rw [←hcs] at KM zE;replace KM:=mK KM;replace hcs:=mK hcs;clear hO hL hfin hno hR hC hRx hRl hp hAny hD hdl hLl hR0;have tok:Tok 0:=.mk _;cases B
      ·go_wp2_with (first
        | (replace tok:Tok 1:=nxT 0 tok;refine Ag (by rfl) 39 (.tmp 5) rfl pp 0 rfl 39 cs cs (0,0) _ (zE.out _ (xR _)) (by simp) Tryz.underlying39 rfl (by rw [hcn];kernel_rfl) ?_)
        | (replace tok:Tok 2:=nxT 1 tok;go_at_call 24;refine KM.out.mono ?_;rintro e v3 ⟨rfl,hx3⟩)
        | (replace tok:Tok 3:=nxT 2 tok;refine wpList_store_row rfl 39 (.tmp 2) (.tmp 54) rfl w.heap.size (pfC zPV) rfl rfl 39 _ (hz6.out _ hx3) (by kernel_rfl) rfl (by kernel_rfl) ?_))
       refine bodyPost_ret (Aj rfl _ _ w.heap.size 39 (pfC zPV) _ _ rfl rfl (setRow_heap _ _ _ _ _ _ (hz6.out _ hx3)) Tryz.underlying39 rfl (by kernel_rfl)) rfl ⟨.inr ⟨fun f hf hok=>?_,rfl⟩,(hEw.out.trans hx3).row (nR _) _⟩;rcases hZ.out with ⟨h1,-⟩|⟨h1,h2⟩
       ·rw [h1] at hf
        cases hf
       ·rw [h1] at hf
        cases hf;rw [←hB.out] at h2;cases h2 hok
      ·go_wp2_with (first
        | (replace tok:Tok 1:=nxT 0 tok;refine Ag (by rfl) 39 (.tmp 5) rfl pp 0 rfl 39 cs cs (0,0) _ (zE.out _ (xR _)) (by simp) Tryz.underlying39 rfl (by rw [hcn];kernel_rfl) ?_)
        | (replace tok:Tok 2:=nxT 1 tok;go_at_call 24;refine KM.out.mono ?_;rintro e v3 ⟨rfl,hx3⟩)
        | (replace tok:Tok 3:=nxT 2 tok;refine wpList_load_row (by rfl) 39 (.tmp 5) rfl pp rfl 39 cs (0,0) _ (zE.out _ hx3) Tryz.underlying39 rfl (by rw [hcn];kernel_rfl) ?_)
        | (replace tok:Tok 4:=nxT 3 tok;refine wpList_store_row rfl 39 (.tmp 2) (.tmp 55) rfl w.heap.size cs rfl rfl 39 _ (hz6.out _ hx3) (by rw [hcn];kernel_rfl) (by rw [hcn];rfl) hc1.out ?_))
       refine bodyPost_ret (Aj rfl _ _ w.heap.size 39 cs _ _ rfl rfl (setRow_heap _ _ _ _ _ _ (hz6.out _ hx3)) Tryz.underlying39 rfl (by rw [hcn];kernel_rfl)) rfl ⟨.inl ?_,(hEw.out.trans hx3).row (nR _) _⟩;have hA:=hFin.out _ hx3 cs;obtain ⟨hP1,hP2⟩:=Aa3 hA hB.out.symm;refine ⟨pfD (Bp x s') D,Bp x s',D,?_,hP2,(show Ending.returned (.tuple #[.agg cs,.int .i64 0])=_ from by rw [hcs.out]),hA,hB.out.symm,hP1,hDb.out⟩;rcases hZ.out with ⟨-,h1⟩|⟨h1,-⟩
       ·rw [←hB.out] at h1
        cases h1
       ·exact h1
theorem Ir:∀ (k:Nat) (R:WL),tFs (k+1) R=(tFs k R).bind fun x=>(tF x.2).map fun y=>(x.1++[y.1],y.2)
 | 0,R=>by
  simp only [tFs,Option.bind_some,List.nil_append]
  cases tF R with
  | none=>rfl
  | some y=>rfl
 | k+1,R=>by
  rw [tFs]
  conv=>rhs;rw [tFs]
  cases h:tF R with
  | none=>rfl
  | some x=>
   simp only [Option.bind_some]
   rw [Ir k x.2]
   cases h2:tFs k x.2 with
   | none=>rfl
   | some z=>
    simp only [Option.bind_some,Option.map_some]
    cases tF z.2 with
    | none=>rfl
    | some y=>rfl
theorem Io:∀ (k:Nat) (R:WL),tNs (k+1) R=(tNs k R).bind fun x=>(tN x.2).map fun y=>(x.1++[y.1],y.2)
 | 0,R=>by
  simp only [tNs,Option.bind_some,List.nil_append]
  cases tN R with
  | none=>rfl
  | some y=>rfl
 | k+1,R=>by
  rw [tNs]
  conv=>rhs;rw [tNs]
  cases h:tN R with
  | none=>rfl
  | some x=>
   simp only [Option.bind_some]
   rw [Io k x.2]
   cases h2:tNs k x.2 with
   | none=>rfl
   | some z=>
    simp only [Option.bind_some,Option.map_some]
    cases tN z.2 with
    | none=>rfl
    | some y=>rfl
theorem Qq {R:WL}{k:Nat}(h:tFs k R=none):∀ m,k≤m→tFs m R=none
 | 0,hm=>by rw [Nat.le_zero.1 hm] at h;exact h
 | m+1,hm=>by
  rcases Nat.eq_or_lt_of_le hm with e|e
  ·rw [←e];exact h
  ·rw [Ir,Qq h m (by omega)]
   rfl
theorem Qo {R:WL}{k:Nat}(h:tNs k R=none):∀ m,k≤m→tNs m R=none
 | 0,hm=>by rw [Nat.le_zero.1 hm] at h;exact h
 | m+1,hm=>by
  rcases Nat.eq_or_lt_of_le hm with e|e
  ·rw [←e];exact h
  ·rw [Io,Qo h m (by omega)]
   rfl
def nV:Value:=.slice none 0 0
def pvT (f:FV)(s2 s3 s4:Value)(g:FV)(co:Int):PVd:=⟨3,nV,zFd,zFd,zFd,0,s2,s3,f,s4,g,co⟩
def FrJ (bad:Bool)(b:Nat)(w:World)(v:Value)(q:Rat):Prop:=(∃ f:FV,v=.agg #[.bool f.b1,.slice f.a1 f.n1 f.c1,.bool f.b2,.slice f.a2 f.n2 f.c2])∧(bad=false→FrI b w v q)
theorem FrJ.ty {bad bad':Bool}{b:Nat}{w w':World}{v:Value}{q:Rat}(h:FrJ bad b w v q)(k:Ty b 150 w w')(hb:bad'=false→bad=false):FrJ bad' b w' v q:=⟨h.1,fun h'=>(h.2 (hb h')).ty k⟩
structure Stp (rp pp b:Nat) (E:TypeId) (w wr v2 v4:World) (cs:Array Value) (s' s2:Value):Prop where
 hb:b=w.heap.size
 lr:rp<b
 lp:pp<b
 np:pp≠rp
 hC:Chg w wr (fun k=>k=rp∨k=pp)
 hC2:Chg wr v2 (· = rp)
 gr:(v2.alloc (.cells cs E)).grownBy v4 s'.ownBlock
 blk:∀ g,s'.ownBlock=some g→(∃ cs',(v2.alloc (.cells cs E)).heap[g]? = some (.cells cs' E (0,0)))∧b≤g
theorem Stp.ty {rp pp b:Nat}{E:TypeId}{w wr v2 v4:World}{cs:Array Value}{s' s2:Value}(h:Stp rp pp b E w wr v2 v4 cs s' s2)(T:TypeId)(hT:E≠T):Ty b T v2 v4:=(Ty.of_ext ((xR v2).al _)).trans (Ty.grown h.gr (fun g hg=>(h.blk g hg).1) hT)
theorem Stp.ty1 {rp pp b:Nat}{E:TypeId}{w wr v2 v4:World}{cs:Array Value}{s' s2:Value}(h:Stp rp pp b E w wr v2 v4 cs s' s2)(T:TypeId):Ty b T wr v2:=Ty.of_chg h.hC2 fun k hk=>by rw [hk];exact h.lr
theorem Stp.ty2 {rp pp b:Nat}{E:TypeId}{w wr v2 v4:World}{cs:Array Value}{s' s2:Value}(h:Stp rp pp b E w wr v2 v4 cs s' s2)(T:TypeId)(c:Array Value):Ty b T v4 (v4.setRow pp c):=Ty.of_chg (Aq v4 pp _) fun k hk=>by rw [hk];exact h.lp
theorem Stp.chg {rp pp b:Nat}{E:TypeId}{w wr v2 v4:World}{cs:Array Value}{s' s2:Value}(h:Stp rp pp b E w wr v2 v4 cs s' s2)(c:Array Value):Chg w (v4.setRow pp c) (fun k=>k=rp∨k=pp):=by
 have h3:Chg w (v2.alloc (.cells cs E)) (fun k=>k=rp∨k=pp):=(h.hC.trans (Ax h.hC2 pp)).trans (Chg.of_ext ((xR v2).al _) _);have h4:Chg w v4 (fun k=>k=rp∨k=pp):=So h3 (Chg.grown h.gr) fun k hk=>.inr (by rw [←h.hb];exact (h.blk k hk.symm).2);exact h4.trans ((Aq v4 pp _).mono fun k _ h=>.inr h)
theorem Stp.rd {rp pp b:Nat}{E:TypeId}{w wr v2 v4:World}{cs:Array Value}{s' s2:Value}(h:Stp rp pp b E w wr v2 v4 cs s' s2){R:WL}{bad:Bool}(hR:RdS rp R bad v2)(h1:E≠9)(h2:E≠82){old:Array Value}(zp:v4.heap[pp]? = some (.cells old 39 (0,0)))(c:Array Value):RdS rp R bad (v4.setRow pp c):=
 ((hR.ext ((xR v2).al _)).grown h.gr (fun g hg=>(h.blk g hg).1) h1 h2).set zp (by decide) h.np _
/-! The spaces. -/
def SpQ (R:WL)(rp pp b:Nat)(R2:WL)(f:FV)(tg:Rat)(w:World)(k:Nat)(W:World):Prop:=
 ∃ (bad:Bool) (s:Value) (os:List (Rat×Value)),RdS rp (R2.drop k) bad W∧Chg w W (fun j=>j=rp∨j=pp)∧W.heap[pp]? = some (.cells (pfC (pvT f s nV nV zFd 0)) 39 (0,0))∧os.length=k ∧
  Lo 4 28 (FrJ bad b) b W s os∧(bad=true→Ce R=none)∧(bad=false→FrI b W (.agg #[.bool f.b1,.slice f.a1 f.n1 f.c1,.bool f.b2,.slice f.a2 f.n2 f.c2]) tg∧tFs k R2=some (os.map (·.1),R2.drop k))
theorem Ac3 {R:WL}{rp pp b k N:Nat}{R2:WL}{f f':FV}{tg:Rat}{w wr v2 v4:World}{bad:Bool}{s' s2:Value}{os:List (Rat×Value)}(S:Stp rp pp b 28 w wr v2 v4 #[.bool f'.b1,.slice f'.a1 f'.n1 f'.c1,.bool f'.b2,.slice f'.a2 f'.n2 f'.c2] s' s2)
  (hno:∀ m,m≤N→tFs m R2=none→Ce R=none) (hk:k<N) (hos:os.length=k) (hbad:bad=true→Ce R=none) (hgood:bad=false→FrI b wr (.agg #[.bool f.b1,.slice f.a1 f.n1 f.c1,.bool f.b2,.slice f.a2 f.n2 f.c2]) tg∧tFs k R2=some (os.map (·.1),R2.drop k))
  (hR2:RdS rp (R2.drop k).tail (bad || !(tF (R2.drop k)).isSome) v2) (hF:∀ x r,tF (R2.drop k)=some (x,r)→FracO v2 wr.heap.size (.agg #[.bool f'.b1,.slice f'.a1 f'.n1 f'.c1,.bool f'.b2,.slice f'.a2 f'.n2 f'.c2]) x)
  (hL2:Lo 4 28 (FrJ bad b) b v2 s' os) (hown:v4.ownsRow b 28 4 s2 (os.length+1) (cv (os.map (·.2))++(Value.agg #[.bool f'.b1,.slice f'.a1 f'.n1 f'.c1,.bool f'.b2,.slice f'.a2 f'.n2 f'.c2]).cells.toList))
  (zp4:v4.heap[pp]? = some (.cells (pfC (pvT f s' nV nV zFd 0)) 39 (0,0))):SpQ R rp pp b R2 f tg w (k+1) (v4.setCell ⟨pp,15,none⟩ s2):=by
 have he:v4.setCell ⟨pp,15,none⟩ s2=v4.setRow pp (pfC (pvT f s2 nV nV zFd 0)):=(setCell_eq_setRow v4 pp 15 _ _ _ s2 zp4).trans rfl;rw [he];have hu:Ty b 150 v2 v4:=S.ty _ (by decide);have hu5:=S.ty2 150 (pfC (pvT f s2 nV nV zFd 0));have hbw:b≤wr.heap.size:=by rw [S.hb];exact S.hC.size
 obtain ⟨bad',hbd⟩:∃ bad',bad'=(bad || !(tF (R2.drop k)).isSome):=⟨_,rfl⟩
 rw [←hbd] at hR2
 have hbb:bad'=false→bad=false:=fun h=>by
  rw [hbd] at h;cases bad
  ·rfl
  ·cases h
 obtain ⟨q,hq⟩:=nmE (((tF (R2.drop k)).map (·.1)).getD 0)
 have hti:bad'=false→tF (R2.drop k)=some (q,R2.drop (k+1)):=fun h=>by
  rw [hbd] at h
  have:(tF (R2.drop k)).isSome=true:=by
   cases bad
   ·simpa using h
   ·cases h
  obtain ⟨x,e⟩:=Gq this;rw [e] at hq;rw [e,hq,List.tail_drop];rfl
 have hv:FrJ bad' b v4 (.agg #[.bool f'.b1,.slice f'.a1 f'.n1 f'.c1,.bool f'.b2,.slice f'.a2 f'.n2 f'.c2]) q:=⟨⟨f',rfl⟩,fun h=>⟨((hF _ _ (hti h)).mono hbw).ty hu,(Do (hti h)).2⟩⟩
 have hL4:Lo 4 28 (FrJ bad' b) b v4 s2 (os++[(q,.agg #[.bool f'.b1,.slice f'.a1 f'.n1 f'.c1,.bool f'.b2,.slice f'.a2 f'.n2 f'.c2])]):=
  Lo.snoc (hL2.mono (nR _) fun _ _ h=>⟨h.1,fun hb'=>h.2 (hbb hb')⟩) hown (fun _ _ h=>h.ty hu id) hv rfl
 rw [List.tail_drop] at hR2;refine ⟨bad',s2,_,S.rd hR2 (by decide) (by decide) zp4 _,S.chg _,setRow_heap _ _ _ _ _ _ zp4,by rw [List.length_append,List.length_singleton,hos],hL4.ty (S.ty2 _ _) fun _ _ h=>h.ty hu5 id,fun h=>?_,fun h=>?_⟩
 ·cases hb0:bad with
  | true=>exact hbad hb0
  | false=>
   refine hno (k+1) (by omega) ?_;rw [Ir,(hgood hb0).2];rw [hbd,hb0] at h;cases hT:tF (R2.drop k) with
   | none=>simp only [Option.bind_some,hT,Option.map_none]
   | some z=>rw [hT] at h;cases h
 ·obtain ⟨g1,g2⟩:=hgood (hbb h)
  refine ⟨((g1.ty (S.ty1 _)).ty hu).ty hu5,?_⟩;rw [Ir,g2];simp only [Option.bind_some,hti h,Option.map_some,List.map_append,List.map_cons,List.map_nil]
/-! The picks. -/
def PkQ (G:Prop)(R:WL)(rp pp b:Nat)(R3:WL)(f:FV)(s2:Value)(tg:Rat)(sp:List Rat)(w:World)(k:Nat)(W:World):Prop:=
 ∃ (bad:Bool) (s:Value) (os:List (Int×Value)),RdS rp (R3.drop k) bad W∧Chg w W (fun j=>j=rp∨j=pp)∧W.heap[pp]? = some (.cells (pfC (pvT f s2 nV s zFd 0)) 39 (0,0))∧os.length=k ∧
  Lo 1 3 NumA b W s os∧(bad=true→Ce R=none)∧(bad=false→G∧FrI b W (.agg #[.bool f.b1,.slice f.a1 f.n1 f.c1,.bool f.b2,.slice f.a2 f.n2 f.c2]) tg∧(∃ osp:List (Rat×Value),osp.map (·.1)=sp∧Lo 4 28 (FrI b) b W s2 osp)∧tNs k R3=some (os.map (·.1),R3.drop k))
theorem Add {G:Prop}{R:WL}{rp pp b k N:Nat}{R3:WL}{f:FV}{sS:Value}{tg:Rat}{sp:List Rat}{n:Int}{w wr v2 v4:World}{bad:Bool}{s' s2:Value}{os:List (Int×Value)}(S:Stp rp pp b 3 w wr v2 v4 #[.int .i64 n] s' s2)
  (hno:∀ m,m≤N→G→tNs m R3=none→Ce R=none) (hk:k<N) (hos:os.length=k) (hbad:bad=true→Ce R=none) (hgood:bad=false→G∧FrI b wr (.agg #[.bool f.b1,.slice f.a1 f.n1 f.c1,.bool f.b2,.slice f.a2 f.n2 f.c2]) tg∧(∃ osp:List (Rat×Value),osp.map (·.1)=sp∧Lo 4 28 (FrI b) b wr sS osp)∧tNs k R3=some (os.map (·.1),R3.drop k))
  (hR2:RdS rp (R3.drop k).tail (bad || !(tN (R3.drop k)).isSome) v2) (hF:∀ m r,tN (R3.drop k)=some (m,r)→n=m)
  (hL2:Lo 1 3 NumA b v2 s' os) (hown:v4.ownsRow b 3 1 s2 (os.length+1) (cv (os.map (·.2))++(Value.int .i64 n).cells.toList))
  (zp4:v4.heap[pp]? = some (.cells (pfC (pvT f sS nV s' zFd 0)) 39 (0,0))):PkQ G R rp pp b R3 f sS tg sp w (k+1) (v4.setCell ⟨pp,21,none⟩ s2):=by
 have he:v4.setCell ⟨pp,21,none⟩ s2=v4.setRow pp (pfC (pvT f sS nV s2 zFd 0)):=(setCell_eq_setRow v4 pp 21 _ _ _ s2 zp4).trans rfl;rw [he];have hu:Ty b 150 v2 v4:=S.ty _ (by decide);have hf:Ty b 28 v2 v4:=S.ty _ (by decide);have hu5:=S.ty2 150 (pfC (pvT f sS nV s2 zFd 0));have hf5:=S.ty2 28 (pfC (pvT f sS nV s2 zFd 0));obtain ⟨bad',hbd⟩:∃ bad',bad'=(bad || !(tN (R3.drop k)).isSome):=⟨_,rfl⟩
 rw [←hbd] at hR2
 have hbb:bad'=false→bad=false:=fun h=>by
  rw [hbd] at h;cases bad
  ·rfl
  ·cases h
 have hti:bad'=false→tN (R3.drop k)=some (n,R3.drop (k+1)):=fun h=>by
  rw [hbd] at h
  have:(tN (R3.drop k)).isSome=true:=by
   cases bad
   ·simpa using h
   ·cases h
  obtain ⟨⟨m,r⟩,e⟩:=Option.isSome_iff_exists.1 this;rw [e,hF _ _ e,Hm e,List.tail_drop]
 have hL4:Lo 1 3 NumA b v4 s2 (os++[(n,.int .i64 n)]):=Lo.snoc hL2 hown (fun _ _ h=>h) rfl rfl;rw [List.tail_drop] at hR2;refine ⟨bad',s2,_,S.rd hR2 (by decide) (by decide) zp4 _,S.chg _,setRow_heap _ _ _ _ _ _ zp4,by rw [List.length_append,List.length_singleton,hos],hL4.ty (S.ty2 _ _) fun _ _ h=>h,fun h=>?_,fun h=>?_⟩
 ·cases hb0:bad with
  | true=>exact hbad hb0
  | false=>
   refine hno (k+1) (by omega) (hgood hb0).1 ?_;rw [Io,(hgood hb0).2.2.2];rw [hbd,hb0] at h;cases hT:tN (R3.drop k) with
   | none=>simp only [Option.bind_some,hT,Option.map_none]
   | some z=>rw [hT] at h;cases h
 ·obtain ⟨g0,g1,⟨osp,o1,o2⟩,g2⟩:=hgood (hbb h)
  refine ⟨g0,((g1.ty (S.ty1 _)).ty hu).ty hu5,⟨osp,o1,((o2.ty (S.ty1 _) fun _ _ h=>h.ty (S.ty1 _)).ty hf fun _ _ h=>h.ty hu).ty hf5 fun _ _ h=>h.ty hu5⟩,?_⟩;rw [Io,g2];simp only [Option.bind_some,hti h,Option.map_some,List.map_append,List.map_cons,List.map_nil]
/-! The parts. -/
structure OwnT (b:Nat) (w:World) (f g:FV) (s2 s4:Value) (tg pw:Rat) (sp:List Rat) (pk:List Int):Prop where
 sp:∃ os:List (Rat×Value),os.map (·.1)=sp∧Lo 4 28 (FrI b) b w s2 os
 pk:∃ os:List (Int×Value),os.map (·.1)=pk∧Lo 1 3 NumA b w s4 os
 ft:FrI b w (.agg #[.bool f.b1,.slice f.a1 f.n1 f.c1,.bool f.b2,.slice f.a2 f.n2 f.c2]) tg
 fp:FrI b w (.agg #[.bool g.b1,.slice g.a1 g.n1 g.c1,.bool g.b2,.slice g.a2 g.n2 g.c2]) pw
theorem OwnT.ty {b:Nat}{w w':World}{f g:FV}{s2 s4:Value}{tg pw:Rat}{sp:List Rat}{pk:List Int}(h:OwnT b w f g s2 s4 tg pw sp pk)(u:Ty b 150 w w')(k:Ty b 28 w w')(i:Ty b 3 w w'):OwnT b w' f g s2 s4 tg pw sp pk:=by
 obtain ⟨⟨o1,e1,h1⟩,⟨o2,e2,h2⟩,h3,h4⟩:=h;exact ⟨⟨o1,e1,h1.ty k fun _ _ h=>h.ty u⟩,⟨o2,e2,h2.ty i fun _ _ h=>h⟩,h3.ty u,h4.ty u⟩
theorem OwnT.pf {b:Nat}{w:World}{f g:FV}{s2 s3 s4:Value}{tg pw:Rat}{sp:List Rat}{pk:List Int}{co:Int}{os:List (PD×Value)}(h:OwnT b w f g s2 s4 tg pw sp pk)(hp:Lo 11 74 (PrI b) b w s3 os)(hc:co≤9223372036854775807):OwnPf b w (pvT f s2 s3 s4 g co) (adT ⟨sp,os.map (·.1),tg⟩ pk pw):=by
 obtain ⟨⟨o1,e1,h1⟩,⟨o2,e2,h2⟩,h3,h4⟩:=h;refine ⟨⟨o1,?_,h1⟩,⟨os,?_,hp⟩,⟨o2,e2.symm,h2⟩,.inl ⟨rfl,rfl⟩,.inl ⟨rfl,rfl⟩,.inl ⟨rfl,rfl⟩,.inr ⟨tg,rfl,h3⟩,.inr ⟨pw,rfl,h4⟩,hc⟩
 ·show sp.map some=_
  rw [←e1,List.map_map];rfl
 ·show (os.map (·.1)).map embP=_
  rw [List.map_map];rfl
end Go.Proofs.YtlknpnommcohkaaGreatDoor
