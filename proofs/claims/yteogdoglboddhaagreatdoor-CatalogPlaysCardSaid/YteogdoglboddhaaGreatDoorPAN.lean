/-
  polestarref01.Digits: the text of a whole number. Plain law of exact.Read: a text's number, nine digits at a time, by limbs. Plain law of a catalogue's text: words, numbers, fractions; what is told is read as it was, and the other way round. polestarref02.Digits: the text of a fraction. Plain law of a catalogue's text: lines and texts that are read. The reference's Line of a part. The reference's Text. The reference's Near, where the power is one (printed by tools/gen_rnear.py). The nearest lens is the least: no lens comes before it by distance, then cost, then name.
-/
import Derived.Test.YteogdoglboddhaaGreatDoorPAM
import Derived.Test.YteogdoglboddhaaGreatDoorPAE
import Derived.Test.YteogdoglboddhaaGreatDoorPAK
import Derived.Test.YteogdoglboddhaaGreatDoorPAG
import Derived.Laws.IdiomStrings
import Derived.Test.YteogdoglboddhaaGreatDoorPAB
import Derived.Test.YteogdoglboddhaaGreatDoorPAA
import Derived.Lib.Atoi
import Derived.Lib.SlTrimSet
import Derived.Lib.SplitLaws
import Derived.Test.YteogdoglboddhaaGreatDoorPAJ
import Derived.Test.YteogdoglboddhaaGreatDoorPAL
import Derived.Test.YteogdoglboddhaaGreatDoorPAI
set_option maxHeartbeats 6400000
namespace Go.Proofs.YteogdoglboddhaaGreatDoor
set_option maxRecDepth 100000
open Go Go.RowKit Go.Proofs Go.Lib
theorem Adg:(Tryz.prog.info? 5).map (fun i=>(i.zero,i.size,i.bytes))=some (some (.int .u8 0),1,1):=by kernel_rfl
def BytO (w:World)(base:Nat)(v:Value)(l:List UInt8):Prop:=w.ownsRow base 5 1 v l.length (byteCells l)
def DgA (w1:World)(N k:Nat)(t3 t4:Value)(wr:World):Prop:=
 ∃ ps:List Nat,N=val9 ps+1000000000 ^ ps.length*k∧(∀ p∈ps,p<1000000000)∧(k=0→0<ps.getLastD 0)∧(lim k).length≤65536∧ps.length≤131073∧MagO wr w1.heap.size t3 ps∧MagR wr t4 (lim k)∧Ext w1 wr
def DgB (wL:World)(ps:List Nat)(t7 t8:Value)(wr:World):Prop:=
 ∃ i:Nat,i≤ps.length∧t8=.int .i64 i∧BytO wr wL.heap.size t7 (low9 (ps.take i))∧Ext wL wr
def DgC (wL:World)(pre:List UInt8)(p:Nat)(t7 t9 t10:Value)(wr:World):Prop:=
 ∃ k:Nat,k≤9∧t10=.int .i64 k∧t9=.int .u32 ((p/10 ^ k:Nat):Int)∧BytO wr wL.heap.size t7 (pre++(nine p).reverse.take k)∧Ext wL wr
theorem Afb (p k:Nat)(hk:k<9):(nine p).reverse.take (k+1)=(nine p).reverse.take k++[dg p k]:=by
 have hl:(nine p).reverse.length=9:=by simp [nine]
 rw [List.take_succ_eq_append_getElem (by omega)];congr 2;rw [List.getElem_reverse];simp [nine];congr 1;omega
theorem Ac8 (ps:List Nat)(p:Nat):low9 (ps++[p])=low9 ps++(nine p).reverse:=by simp [low9]
theorem Aij (p k:Nat):((dg p k).toNat:Int)=((p/10 ^ k:Nat):Int)%10+48:=by
 unfold dg;have h:p/10 ^ k%10<10:=Nat.mod_lt _ (by omega);generalize p/10 ^ k=q at *;rw [show ((q:Nat):Int)%10=((q%10:Nat):Int) by simp];generalize q%10=r at *;simp;omega
def swp (L:List UInt8)(i:Nat)(Z:List UInt8):Prop:=Z.length=L.length∧∀ j,j<L.length→Z.getD j 0=if j<i∨L.length-1-j<i then L.getD (L.length-1-j) 0 else L.getD j 0
theorem Sd (L:List UInt8):swp L 0 L:=⟨rfl,fun j _=>by simp⟩
theorem Xf {l:List UInt8}{i j:Nat}{b:UInt8}(hi:i<l.length):(l.set i b).getD j 0=if i=j then b else l.getD j 0:=by
 simp only [List.getD_eq_getElem?_getD,List.getElem?_set];by_cases h:i=j
 ·subst h
  simp [hi]
 ·simp [h]
theorem Vk {L Z:List UInt8}{i:Nat}(h:swp L i Z)(hi:2*i<L.length-1):swp L (i+1) ((Z.set i (Z.getD (L.length-1-i) 0)).set (L.length-1-i) (Z.getD i 0)):=by
 obtain ⟨h1,h2⟩:=h;refine ⟨by simp [h1],fun j hj=>?_⟩;have a1:=h2 i (by omega);have a2:=h2 (L.length-1-i) (by omega);rw [if_neg (by omega)] at a1 a2;rw [Xf (by rw [List.length_set];omega),Xf (by omega),a1,a2];by_cases e1:L.length-1-i=j
 ·subst e1
  rw [if_pos rfl,if_pos (by omega)];congr 1;omega
 ·rw [if_neg e1]
  by_cases e2:i=j
  ·subst e2
   rw [if_pos rfl,if_pos (by omega)]
  ·rw [if_neg e2,h2 j hj]
   by_cases e3:j<i∨L.length-1-j<i
   ·rw [if_pos e3,if_pos (by omega)]
   ·rw [if_neg e3,if_neg (by omega)]
theorem Aa5 {L Z:List UInt8}{i:Nat}(h:swp L i Z)(hi:L.length-1≤2*i):Z=L.reverse:=by
 obtain ⟨h1,h2⟩:=h;refine List.ext_getElem (by simp [h1]) fun j hj hj'=>?_;have hjl:j<L.length:=by rw [←h1];exact hj
 have e:=h2 j hjl;have e1:Z.getD j 0=Z[j]:=by simp [List.getD_eq_getElem?_getD,hj]
 rw [e1] at e;rw [e,List.getElem_reverse];have e2:L.getD (L.length-1-j) 0=L[L.length-1-j]'(by omega):=by simp [List.getD_eq_getElem?_getD,show L.length-1-j<L.length by omega]
 split
 ·exact e2
 ·rename_i hn
  have:L.length-1-j=j:=by omega
  rw [←e2,this]
def DgE (w1:World)(L:List UInt8)(g c:Nat)(t11:Value)(wr:World):Prop:=
 ∃ (i:Nat) (Z:List UInt8),2*i≤L.length∧t11=.int .i64 i∧swp L i Z∧BytO wr w1.heap.size (.slice (some ⟨g,0,none⟩) L.length c) Z∧Ext w1 wr
theorem Afr (X:Int):itoa X=((decDigits X.natAbs).reverse++(if X<0 then [45] else [])).reverse:=by
 unfold itoa;by_cases h:X<0
 ·rw [if_pos h,if_pos h]
  simp
 ·rw [if_neg h,if_neg h,show X.toNat=X.natAbs by omega]
  simp
def lenV:Value→Nat
 | .slice _ n _=>n
 | _=>0
theorem Nc {w:World}{base:Nat}{v:Value}{l:List UInt8}(h:BytO w base v l)(hl:0<l.length):∃ g c,v=.slice (some ⟨g,0,none⟩) l.length c∧base≤g∧g<w.heap.size:=by
 rcases h.2 with ⟨_,h0⟩|⟨g,cap,cur,e,h2,h3,_⟩
 ·omega
 ·exact ⟨g,cap,e,h2,(Array.getElem?_eq_some_iff.1 h3).1⟩
theorem Et {w:World}{base g c:Nat}{l:List UInt8}(h:BytO w base (.slice (some ⟨g,0,none⟩) l.length c) l){k:Nat}(hk:k<l.length):w.cell? ⟨g,k,none⟩=some (.int .u8 ((l.getD k 0).toNat:Int)):=by
 rw [World.ownsRow.cellAt h k (by omega)];simp [byteCells,List.getD_eq_getElem?_getD,hk]
theorem Em (l:List UInt8)(k:Nat)(b:UInt8):(byteCells l).set k (.int .u8 (b.toNat:Int))=byteCells (l.set k b):=by
 simp [byteCells,List.map_set]
def DgD (wL:World)(D:List UInt8)(t7:Value)(wr:World):Prop:=
 ∃ j:Nat,D.length+j≤9*131073∧BytO wr wL.heap.size t7 (D++List.replicate j 48)∧Ext wL wr
theorem Gw (v:Value)(X:Int)(w:World)(hX:nl X≤65536)(h:IntR w v X) :
  Calls Tryz.prog 185 #[v] w fun e w'=>e=.returned (.string ⟨(itoa X).toArray⟩)∧Ext w w':=by
 obtain ⟨i0,hi,hz0,hz1,hz2⟩:=info_parts Dp;obtain ⟨b0,bi,bz0,bz1,bz2⟩:=info_parts Adg;obtain ⟨s,rfl,a,c,rfl,hcap,hrow⟩:=h;obtain ⟨bx,hbx⟩:=nmE (decide (X<0));rw [←hbx];obtain ⟨w1,hw1⟩:=nmE (w.alloc (.cells #[.bool bx,.slice a (lim X.natAbs).length c] 52));have hE1:=aLe1 hw1;have z0:=mK (aL10 hw1);have hlen:(lim X.natAbs).length≤65536:=hX
 have hXb:X.natAbs<2 ^ (32*(lim X.natAbs).length):=by
  have:=Cj (Ap X.natAbs);rw [Aj,show (4294967296:Nat)=2 ^ 32 from rfl,←Nat.pow_mul] at this;exact this
 have hrow1:=mK (show MagR w1 (.slice a (lim X.natAbs).length c) (lim X.natAbs) from ⟨a,c,rfl,hcap,hrow.ext hE1⟩);have hrev:=mK (Afr X);have hbx2:bx=true↔X<0:=by rw [hbx];exact decide_eq_true_iff
 replace hbx:=mK hbx;replace hbx2:=mK hbx2;replace hw1:=mK hw1;replace hE1:=mK hE1;replace hXb:=mK hXb;clear hrow hcap hX;have hX0:X.natAbs=0↔X=0:=by omega
 replace hX0:=mK hX0;generalize hXX:X.natAbs=N at *;replace hXX:=mK hXX;replace hlen:=mK hlen;have c0:w1.cell? ⟨w.heap.size,0,none⟩=some (.bool bx):=Aa z0.out 0;have c1:w1.cell? ⟨w.heap.size,1,none⟩=some (.slice a (lim N).length c):=Aa z0.out 1;by_cases hN:N=0
 ·have hz:=mK (hX0.out.1 hN)
  have hl0:(lim N).length=0:=by rw [hN,Al];rfl
  clear hrow1;rw [hl0] at c1 hw1;go_enter Tryz.func185,Tryz.ntmps185;rw [hl0];go_wp2_with fail;go_ret;rw [hz.out,show itoa 0=[48] by unfold itoa;rw [if_neg (by decide),decDigits,dif_pos (by decide)];rfl];exact ⟨rfl,by rw [←hw1.out];exact hE1.out⟩
 ·have hlp:((lim N).length:Int)≠0:=by rw [Az hN];simp;omega
  have hlpb:(((lim N).length:Int)==0)=false:=by simpa using hlp
  have hlpb2:((lim N).length==0)=false:=by simpa using (fun e=>hlp (by rw [e];rfl))
  clear hlp;replace hN:=mK hN;go_enter Tryz.func185,Tryz.ntmps185;go_wp2_with fail;rw [←hw1.out];have st:Hid (DgA w1 N N (.slice none 0 0) (.slice a (lim N).length c) w1):=⟨[],by simp [val9],by simp,fun h=>absurd h hN.out,hlen.out,by simp,Gy _ _,hrow1.out,xR _⟩
  clear hlpb hlpb2 c0 c1 hrow1 hw1;go_loopg [3,4] N (fun k t3 t4 wr=>DgA w1 N k t3 t4 wr)
  case atStart=>exact st.out
  case round=>
   clear st;obtain ⟨ps,hsum,hps,hlast,hl,hpn,h3,h4,hEr⟩:=hrel;obtain ⟨w2,rfl⟩:=nmE (wr:World);by_cases hk0:gk=0
   ·subst hk0
    have hne:ps≠[]:=by
     intro e;rw [e] at hlast;exact absurd (hlast rfl) (by simp)
    have hv:N=val9 ps:=by rw [hsum];simp
    obtain ⟨a4,c4,e4,-,-⟩:=h4;rw [Al,List.length_nil] at e4;subst e4;have htx:=Gt ps hne hps (.inr (hlast rfl));rw [←hv] at htx;obtain ⟨K,hK⟩:=Wt ps hne hps;rw [htx] at hK;obtain ⟨a3,c3,rfl,hc3,b3,o3,ha3,hcell3⟩:=MagO.r h3;obtain rfl:=ha3 (At (k:=0) (List.length_pos_iff.2 hne));have hd0:Hid (∃ x r,decDigits N=x::r∧x≠48):=Xs N (Nat.pos_of_ne_zero hN.out);have hpl:0<ps.length:=List.length_pos_iff.2 hne;have st:Hid (DgB w2 ps (.slice none 0 0) (.int .i64 0) w2):=⟨0,Nat.zero_le _,rfl,World.ownsRow_nil _ _ _ _,xR _⟩
    replace hps:=mK hps;replace hK:=mK hK;replace hcell3:=mK hcell3;replace hEr:=mK hEr;clear hsum hlast hl h3 hne hv htx hXb ha3;go_wp2_with fail;go_loopw [7,8] (fun t7 t8 wr=>DgB w2 ps t7 t8 wr) (fun _ t8 _=>ps.length-(intOf t8).toNat)
    case atStart=>exact st.out
    case round=>
     clear st;obtain ⟨i,hi',rfl,hO,hE⟩:=hrel;obtain ⟨w3,rfl⟩:=nmE (wr:World);by_cases hil:i<ps.length
     ·obtain ⟨p,hp⟩:=nmE (ps.getD i 0)
      have cP:w3.cell? ⟨b3,o3+i,none⟩=some (.int .u32 (p:Int)):=by rw [hp];exact hE.cell (Bx hcell3.out hil)
      have hpm:p<1000000000:=hps.out p (by rw [hp];simp [List.getD_eq_getElem?_getD,hil])
      have htake:ps.take (i+1)=ps.take i++[p]:=by
       rw [List.take_succ_eq_append_getElem hil,hp];simp [List.getD_eq_getElem?_getD,hil]
      have st2:Hid (DgC w2 (low9 (ps.take i)) p u7 (.int .u32 (p:Int)) (.int .i64 0) w3):=⟨0,by omega,rfl,by simp,by simpa using hO,hE⟩
      replace htake:=mK htake;have hll:(low9 (ps.take i)).length=9*i:=by rw [Qc,List.length_take];omega
      replace hp:=mK hp;clear hO hE;go_wp2_with fail;clear cP;go_loopw [7,9,10] (fun t7 t9 t10 wr=>DgC w2 (low9 (ps.take i)) p t7 t9 t10 wr) (fun _ _ t10 _=>9-(intOf t10).toNat)
      case atStart=>exact st2.out
      case round=>
       clear st2;obtain ⟨k,hk9,rfl,rfl,hO,hE⟩:=hrel;obtain ⟨w4,rfl⟩:=nmE (wr:World);by_cases hk:k<9
       ·have hk':(k:Int)<9:=by omega
        have hdc:=Aij p k;have hnr:=Afb p k hk;have hll2:(low9 (ps.take i)++(nine p).reverse.take k).length=9*i+k:=by rw [List.length_append,hll,List.length_take,List.length_reverse];simp [nine];omega
        obtain ⟨pre,hpre⟩:=nmE (low9 (ps.take i)++(nine p).reverse.take k);rw [←hpre] at hO hll2;obtain ⟨Q,hQ⟩:=nmE (p/10 ^ k);have hQb:Q<1000000000:=by rw [hQ];exact Nat.lt_of_le_of_lt (Nat.div_le_self _ _) hpm
        have hQn:Q/10=p/10 ^ (k+1):=by rw [hQ,Nat.pow_succ,Nat.div_div_eq_div_mul]
        rw [←hQ] at hdc ⊢;have hQb':(Q:Int)≤1000000000:=by omega
        replace hO:=mK hO;replace hE:=mK hE;replace hdc:=mK hdc;replace hnr:=mK hnr;replace hpre:=mK hpre;replace hQ:=mK hQ;replace hQn:=mK hQn;replace hll2:=mK hll2;have hEsz:=mK (fun W (e:Ext w2 W)=>e.size);have tok:Tok 5:=.mk _;go_wp2_with (replace tok:Tok 6:=nxT 5 tok;at_builtin;refine wpList_append_own_at _ ?ya ?yb ?yc 115 ?yd w2.heap.size 5 b0 (.int .u8 0) 1 1 Tryz.underlying115 bi bz0 bz1 bz2 ?ye ?yf u7 pre.length (byteCells pre) ?yh (World.ownsRow.alloc hO.out (.cells #[.int .u8 (48+(Q:Int)%10)] 5)) ⟨w4.heap.size,0,none⟩ 1 1 [.int .u8 (48+(Q:Int)%10)] ?yi ?yj ?zc1 ?zc2 ?zc3 ?zc4 ?zc5 ?_;(case ya=>rfl);(case yd=>rfl);(case ye=>rfl);(case yf=>decide);(case yh=>rfl);(case yi=>rfl);(case yj=>rfl);(case zc1=>intro j u hj;rcases j with _|j;(simp at hj;subst hj;simp [Addr.add]);(simp at hj));(case zc2=>intro u hu;simp at hu;subst hu;rfl);(case zc3=>have:=hll2.out;unfold maxLen;omega);(case zc4=>have:=hll2.out;omega);(case zc5=>have:=hE.out.size;rw [World.size_alloc];omega);intro v7 w7 hown7 hgrow7 _ _;(have hE7:=mK ((hE.out.al (.cells #[.int .u8 (48+(Q:Int)%10)] 5)).gr hgrow7 (fun k e=>(World.ownsRow.lt hO.out k e).1)));replace hown7:=mK hown7;clear hgrow7);go_roundw
        case measure=>simp [intOf];omega
        case rel=>
         refine ⟨k+1,by omega,by go_num,by rw [←hQn.out];simp,?_,hE7.out⟩;have hd:=hdc.out;have ho7:=hown7.out;rw [hnr.out,←List.append_assoc,←hpre.out];unfold BytO;rw [List.length_append,List.length_singleton,byteCells_append]
         have e:byteCells [dg p k]=[.int .u8 (48+(Q:Int)%10)]:=by
          simp only [byteCells,List.map_cons,List.map_nil,hd];rw [Int.add_comm]
         rw [e];exact ho7
       ·have hk9':k=9:=by omega
        subst hk9';have h9:(nine p).reverse.take 9=(nine p).reverse:=List.take_of_length_le (by simp [nine]);rw [h9,←Ac8,←htake.out] at hO;replace hO:=mK hO;replace hE:=mK hE;go_wp2_with fail;go_roundw
        case measure=>simp [intOf];omega
        case rel=>exact ⟨i+1,by omega,by go_num,hO.out,hE.out⟩
     ·have hie:i=ps.length:=by omega
      subst hie;rw [List.take_length,hK.out] at hO
      have hKl:(decDigits N).reverse.length+K≤9*131073:=by
       have e:=congrArg List.length hK.out;rw [Qc,List.length_append,List.length_replicate] at e;omega
      have st3:Hid (DgD w2 ((decDigits N).reverse) u7 w3):=⟨K,hKl,hO,hE⟩
      clear hKl;clear hO hE hil hi';go_wp2_with fail
      have hDn:0<(decDigits N).reverse.length:=by
       obtain ⟨x,r,e,-⟩:=hd0.out;rw [e];simp
      have hDl:(decDigits N).reverse.length≤9*131073:=by
       have e:=congrArg List.length hK.out;rw [Qc,List.length_append] at e;omega
      have hlast:(decDigits N).reverse.getD ((decDigits N).reverse.length-1) 0≠48:=by
       obtain ⟨x,r,e,hx⟩:=hd0.out;rw [e];simp [List.getD_eq_getElem?_getD];exact hx
      generalize hDD:(decDigits N).reverse=D at *;go_loopw [7] (fun t7 wr=>DgD w2 D t7 wr) (fun t7 _=>lenV t7)
      case atStart=>exact st3.out
      case round=>
       clear st3;obtain ⟨j,hjb,hO,hE⟩:=hrel;obtain ⟨w4,rfl⟩:=nmE (wr:World);cases j with
       | succ j=>
        have hgd:(D++List.replicate (j+1) 48).getD (D.length+j) 0=48:=by simp [List.getD_eq_getElem?_getD]
        have htk:(byteCells (D++List.replicate (j+1) 48)).take (D.length+j)=byteCells (D++List.replicate j 48):=by
         rw [List.replicate_succ',←List.append_assoc,byteCells_append,List.take_left' (by rw [byteCells_length,List.length_append,List.length_replicate])]
        have hln:(D++List.replicate (j+1) 48).length=D.length+j+1:=by simp;omega
        obtain ⟨L1,hL1⟩:=nmE (D++List.replicate (j+1) 48);rw [←hL1] at hO hgd htk hln;obtain ⟨g,c7,rfl,hg,hgl⟩:=Nc hO (by omega);have cl:=Et hO (k:=D.length+j) (by omega);rw [hgd] at cl;have htake:=Hi hO (m:=D.length+j) (by omega);rw [htk] at htake;obtain ⟨M,hM⟩:=nmE (D.length+j);rw [←hM] at cl htake hln;have hLi:((L1.length:Int)-1)=(M:Int):=by omega
        have hLi2:(M:Int)<(L1.length:Int):=by omega
        have hnew:DgD w2 D (.slice (some ⟨g,0,none⟩) M c7) w4:=⟨j,by omega,by unfold BytO;rw [List.length_append,List.length_replicate,←hM];exact htake,hE⟩
        have hLM:M<L1.length:=by omega
        have hMb:M<1179657:=by omega
        replace hnew:=mK hnew;have hcc:=World.ownsRow.lt hO g rfl
        have hcap:L1.length≤c7:=by
         obtain ⟨-,h|⟨g',cap,cur,e,-,-,h5,-⟩⟩:=hO
         ·cases h.1
         ·simp only [Value.slice.injEq] at e
          omega
        replace hO:=mK hO;replace hE:=mK hE;replace hM:=mK hM;clear hgd htk hL1 htake hln;go_wp2_with fail;go_roundw
        case measure=>simp [lenV];omega
        case rel=>exact hnew.out
       | zero=>
        rw [List.replicate_zero,List.append_nil] at hO;obtain ⟨g,c7,rfl,hg,hgl⟩:=Nc hO hDn;obtain ⟨M,hM⟩:∃ M,D.length=M+1:=⟨D.length-1,by omega⟩
        have cl:=Et hO (k:=M) (by omega);rw [hM,Nat.add_sub_cancel] at hlast;have hLi:((D.length:Int)-1)=(M:Int):=by omega
        have hLi2:(M:Int)<(D.length:Int):=by omega
        have hb48:(((D.getD M 0).toNat:Int)==48)=false:=by
         rw [beq_eq_false_iff_ne];intro e;exact hlast (UInt8.toNat_inj.1 (show (D.getD M 0).toNat=(48:UInt8).toNat by rw [show (48:UInt8).toNat=48 from rfl];omega))
        obtain ⟨BV,hBV⟩:=nmE (((D.getD M 0).toNat:Int):Int);rw [←hBV] at cl hb48;have cS:=(hEr.out.trans hE).cell (Aa z0.out 0);replace cS:w4.cell? ⟨w.heap.size,0,none⟩=some (.bool bx):=cS;replace hBV:=mK hBV;replace hM:=mK hM;clear hlast;cases bx with
        | false=>
         have hX:¬X<0:=fun h=>by have:=hbx2.out.2 h;cases this
         have hfin:Ending.returned (.string ⟨(D.reverse).toArray⟩)=.returned (.string ⟨(itoa X).toArray⟩):=by
          rw [hrev.out,if_neg hX,List.append_nil]
         replace hfin:=mK hfin;have ho9:=mK hO;have hE9:=mK hE;clear hO hE;go_wp2_with fail;replace ho9:=ho9.out;replace hE9:=hE9.out;replace hfin:=hfin.out;obtain ⟨w9,rfl⟩:=nmE (w4:World);have hLb:D.length≤1179658:=by omega
         clear hLi hLi2 cl hb48 hBV hM cS hjb;have st:Hid (DgE w2 D g c7 (.int .i64 0) w9):=⟨0,D,by omega,rfl,Sd _,ho9,hE9⟩
         replace hfin:=mK hfin;clear ho9 hE9;go_loopw [11] (fun t11 wr=>DgE w2 D g c7 t11 wr) (fun t11 _=>D.length-(intOf t11).toNat)
         case atStart=>exact st.out
         case round=>
          clear st;obtain ⟨i,Z,hi,rfl,hsw,ho,hE⟩:=hrel;obtain ⟨wz,rfl⟩:=nmE (wr:World);have hZl:Z.length=D.length:=hsw.1;by_cases hlt:2*i<D.length-1
          ·obtain ⟨m,hm⟩:=nmE (D.length-1-i)
           have hmi:((D.length:Int)-1-(i:Int))=(m:Int):=by omega
           have hlt':2*(i:Int)<(D.length:Int)-1:=by omega
           have hiL:i<D.length:=by omega
           have hmL:m<D.length:=by omega
           have him:i≠m:=by omega
           rw [←hZl] at ho;have cA:=Et ho (k:=i) (by omega);have cB:=Et ho (k:=m) (by omega);have fA:=World.ownsRow.frozenAt ho i;have fB:=World.ownsRow.frozenAt ho m;have hnext:=Vk hsw hlt;rw [←hm] at hnext;obtain ⟨h1,-⟩:=World.ownsRow.stored ho i (.int .u8 ((Z.getD m 0).toNat:Int));obtain ⟨h2,-⟩:=World.ownsRow.stored h1 m (.int .u8 ((Z.getD i 0).toNat:Int));rw [Em,Em] at h2;have hoN:=mK (show BytO ((wz.setCell ⟨g,i,none⟩ (.int .u8 ((Z.getD m 0).toNat:Int))).setCell ⟨g,m,none⟩ (.int .u8 ((Z.getD i 0).toNat:Int))) w2.heap.size (.slice (some ⟨g,0,none⟩) D.length c7) ((Z.set i (Z.getD m 0)).set m (Z.getD i 0)) by unfold BytO;rw [List.length_set,List.length_set,hZl];rw [hZl] at h2;exact h2);have hEN:=mK ((hE.st (p:=⟨g,i,none⟩) hg (.int .u8 ((Z.getD m 0).toNat:Int))).st (p:=⟨g,m,none⟩) hg (.int .u8 ((Z.getD i 0).toNat:Int)));obtain ⟨ZA,hZA⟩:=nmE (((Z.getD i 0).toNat:Int):Int);obtain ⟨ZB,hZB⟩:=nmE (((Z.getD m 0).toNat:Int):Int);rw [←hZA] at cA hoN hEN;rw [←hZB] at cB hoN hEN;replace hnext:=mK hnext;replace hsw:=mK hsw;replace ho:=mK ho;replace hE:=mK hE;replace hm:=mK hm;replace hZA:=mK hZA;replace hZB:=mK hZB;replace hZl:=mK hZl;clear h1 h2;go_wp2_with fail;refine ⟨⟨i+1,_,by omega,by go_num,hnext.out,hoN.out,hEN.out⟩,by simp [intOf];omega⟩
          ·have hlt':¬2*(i:Int)<(D.length:Int)-1:=by omega
           have hZ:=Aa5 hsw (by omega);rw [←hZl] at ho
           have kc:(convert 115 9 (.slice (some ⟨g,0,none⟩) Z.length c7)).run Tryz.prog wz=.ok (.string ⟨Z.toArray⟩) wz:=run_convert_bytes_back wz _ _ 5 ⟨g,0,none⟩ c7 Z Tryz.underlying115 Tryz.underlying5 Tryz.underlying9 (fun j hj=>by
            have:=Et ho hj
            have e:(if j=0 then (⟨g,0,none⟩:Addr) else ⟨g,j,none⟩)=⟨g,j,none⟩:=by
             split
             ·rename_i h0
              rw [h0]
             ·rfl
            simp only [Addr.add,Nat.zero_add];rw [e,this]
            simp [List.getD_eq_getElem?_getD,hj])
           rw [hZl] at kc;replace hZ:=mK hZ;replace hE:=mK hE;replace hsw:=mK hsw;replace ho:=mK ho;replace hZl:=mK hZl;go_wp2_with fail;go_ret;exact ⟨by rw [hZ.out];exact hfin.out,(hE1.out.trans hEr.out).trans hE.out⟩
        | true=>
         have hX:X<0:=hbx2.out.1 rfl
         have hfin:Ending.returned (.string ⟨((D++[45]).reverse).toArray⟩)=.returned (.string ⟨(itoa X).toArray⟩):=by
          rw [hrev.out,if_pos hX]
         replace hfin:=mK hfin;have ho8:=mK hO;have hE8:=mK hE;clear hO hE;have tok:Tok 7:=.mk _;go_wp2_with (replace tok:Tok 8:=nxT 7 tok;at_builtin;refine wpList_append_own_at _ ?ma ?mb ?mc 115 ?md w2.heap.size 5 b0 (.int .u8 0) 1 1 Tryz.underlying115 bi bz0 bz1 bz2 ?me ?mf (.slice (some ⟨g,0,none⟩) D.length c7) D.length (byteCells D) ?mh (World.ownsRow.alloc ho8.out (.cells #[.int .u8 45] 5)) ⟨w4.heap.size,0,none⟩ 1 1 [.int .u8 45] ?mi ?mj ?nc1 ?nc2 ?nc3 ?nc4 ?nc5 ?_;(case ma=>rfl);(case md=>rfl);(case me=>rfl);(case mf=>decide);(case mh=>rfl);(case mi=>rfl);(case mj=>rfl);(case nc1=>intro j u hj;rcases j with _|j;(simp at hj;subst hj;simp [Addr.add]);(simp at hj));(case nc2=>intro u hu;simp at hu;subst hu;rfl);(case nc3=>unfold maxLen;omega);(case nc4=>omega);(case nc5=>have:=hE8.out.size;rw [World.size_alloc];omega);intro v7 w9 hown7 hgrow7 _ _;(have hE9:=mK ((hE8.out.al (.cells #[.int .u8 45] 5)).gr hgrow7 (fun k e=>(World.ownsRow.lt ho8.out k e).1)));replace hown7:=mK hown7;clear hgrow7)
         have ho9:BytO w9 w2.heap.size v7 (D++[45]):=by
          unfold BytO;rw [List.length_append,List.length_singleton,byteCells_append];exact hown7.out
         replace hE9:=hE9.out;replace hfin:=hfin.out;have hLb:(D++[45]).length≤1179658:=by rw [List.length_append,List.length_singleton];omega
         have hLn:0<(D++[45]).length:=by simp
         obtain ⟨L,hL⟩:=nmE (D++[45]);rw [←hL] at ho9 hfin hLb hLn;obtain ⟨g9,c9,rfl,hg9,hg9l⟩:=Nc ho9 hLn;replace hL:=mK hL;clear hLi hLi2 cl hb48 hBV hM cS hjb hown7 ho8 hE8;have st:Hid (DgE w2 L g9 c9 (.int .i64 0) w9):=⟨0,L,by omega,rfl,Sd _,ho9,hE9⟩
         replace hfin:=mK hfin;clear ho9 hE9;go_loopw [11] (fun t11 wr=>DgE w2 L g9 c9 t11 wr) (fun t11 _=>L.length-(intOf t11).toNat)
         case atStart=>exact st.out
         case round=>
          clear st;obtain ⟨i,Z,hi,rfl,hsw,ho,hE⟩:=hrel;obtain ⟨wz,rfl⟩:=nmE (wr:World);have hZl:Z.length=L.length:=hsw.1;by_cases hlt:2*i<L.length-1
          ·obtain ⟨m,hm⟩:=nmE (L.length-1-i)
           have hmi:((L.length:Int)-1-(i:Int))=(m:Int):=by omega
           have hlt':2*(i:Int)<(L.length:Int)-1:=by omega
           have hiL:i<L.length:=by omega
           have hmL:m<L.length:=by omega
           have him:i≠m:=by omega
           rw [←hZl] at ho;have cA:=Et ho (k:=i) (by omega);have cB:=Et ho (k:=m) (by omega);have fA:=World.ownsRow.frozenAt ho i;have fB:=World.ownsRow.frozenAt ho m;have hnext:=Vk hsw hlt;rw [←hm] at hnext;obtain ⟨h1,-⟩:=World.ownsRow.stored ho i (.int .u8 ((Z.getD m 0).toNat:Int));obtain ⟨h2,-⟩:=World.ownsRow.stored h1 m (.int .u8 ((Z.getD i 0).toNat:Int));rw [Em,Em] at h2;have hoN:=mK (show BytO ((wz.setCell ⟨g9,i,none⟩ (.int .u8 ((Z.getD m 0).toNat:Int))).setCell ⟨g9,m,none⟩ (.int .u8 ((Z.getD i 0).toNat:Int))) w2.heap.size (.slice (some ⟨g9,0,none⟩) L.length c9) ((Z.set i (Z.getD m 0)).set m (Z.getD i 0)) by unfold BytO;rw [List.length_set,List.length_set,hZl];rw [hZl] at h2;exact h2);have hEN:=mK ((hE.st (p:=⟨g9,i,none⟩) hg9 (.int .u8 ((Z.getD m 0).toNat:Int))).st (p:=⟨g9,m,none⟩) hg9 (.int .u8 ((Z.getD i 0).toNat:Int)));obtain ⟨ZA,hZA⟩:=nmE (((Z.getD i 0).toNat:Int):Int);obtain ⟨ZB,hZB⟩:=nmE (((Z.getD m 0).toNat:Int):Int);rw [←hZA] at cA hoN hEN;rw [←hZB] at cB hoN hEN;replace hnext:=mK hnext;replace hsw:=mK hsw;replace ho:=mK ho;replace hE:=mK hE;replace hm:=mK hm;replace hZA:=mK hZA;replace hZB:=mK hZB;replace hZl:=mK hZl;clear h1 h2;go_wp2_with fail;refine ⟨⟨i+1,_,by omega,by go_num,hnext.out,hoN.out,hEN.out⟩,by simp [intOf];omega⟩
          ·have hlt':¬2*(i:Int)<(L.length:Int)-1:=by omega
           have hZ:=Aa5 hsw (by omega);rw [←hZl] at ho
           have kc:(convert 115 9 (.slice (some ⟨g9,0,none⟩) Z.length c9)).run Tryz.prog wz=.ok (.string ⟨Z.toArray⟩) wz:=run_convert_bytes_back wz _ _ 5 ⟨g9,0,none⟩ c9 Z Tryz.underlying115 Tryz.underlying5 Tryz.underlying9 (fun j hj=>by
            have:=Et ho hj
            have e:(if j=0 then (⟨g9,0,none⟩:Addr) else ⟨g9,j,none⟩)=⟨g9,j,none⟩:=by
             split
             ·rename_i h0
              rw [h0]
             ·rfl
            simp only [Addr.add,Nat.zero_add];rw [e,this]
            simp [List.getD_eq_getElem?_getD,hj])
           rw [hZl] at kc;replace hZ:=mK hZ;replace hE:=mK hE;replace hsw:=mK hsw;replace ho:=mK ho;replace hZl:=mK hZl;go_wp2_with fail;go_ret;exact ⟨by rw [hZ.out];exact hfin.out,(hE1.out.trans hEr.out).trans hE.out⟩
   ·obtain ⟨a4,c4,rfl,hc4,hr4⟩:=h4
    have SH:=Pg a4 c4 (lim gk) 1000000000 w2 (by omega) (Ap _) (by omega) (by omega) hr4;rw [Aj] at SH;have hlk:0<((lim gk).length:Int):=by rw [Az hk0];simp<;>omega
    have hpb:=Nr hsum (Nat.pos_of_ne_zero hk0) hXb.out;have hql:(lim (gk/1000000000)).length≤65536:=nT (An (Nat.div_le_self _ _)) hl;obtain ⟨r,hr⟩:=nmE (gk%1000000000);have hr9:r<1000000000:=by rw [hr];exact Nat.mod_lt _ (by omega)
    rw [←hr] at SH;obtain ⟨q,hq⟩:=nmE (gk/1000000000);rw [←hq] at SH hql;have hdm:gk=1000000000*q+r:=by rw [hq,hr];exact (Nat.div_add_mod _ _).symm
    replace SH:=mK SH;have h3lt:=mK (fun k e=>World.ownsRow.lt h3 k e);replace h3:=mK h3;replace hsum:=mK hsum;replace hps:=mK hps;replace hEr:=mK hEr;replace hdm:=mK hdm;replace hql:=mK hql;have hlen2:=mK hlen.out;clear hr4 hlast hr hq;have tok:Tok 0:=.mk _
    go_wp2_with (first
     | (replace tok:Tok 1:=nxT 0 tok;go_at_call 228;refine SH.out.mono ?_;rintro e w3 ⟨v,rfl,hv,hx⟩;(have h33:=mK (h3.out.ext hx));(have hE3:=mK (hEr.out.trans hx));(have hs23:=mK hx.size);replace hv:=mK hv;clear hx)
     | (replace tok:Tok 2:=nxT 1 tok;at_builtin;refine wpList_append_own_at _ ?oa ?ob ?oc 50 ?od w1.heap.size 136 i0 (.int .u32 0) 1 4 Tryz.underlying50 hi hz0 hz1 hz2 ?oe ?of u3 ps.length (limV ps) ?oh (World.ownsRow.alloc h33.out (.cells #[.int .u32 (r:Int)] 136)) ⟨w3.heap.size,0,none⟩ 1 1 [.int .u32 (r:Int)] ?oi ?oj ?oc1 ?oc2 ?oc3 ?oc4 ?oc5 ?_;(case oa=>rfl);(case od=>rfl);(case oe=>rfl);(case of=>decide);(case oh=>rfl);(case oi=>rfl);(case oj=>rfl);(case oc1=>intro j u hj;rcases j with _|j;(simp at hj;subst hj;simp [Addr.add]);(simp at hj));(case oc2=>intro u hu;simp at hu;subst hu;rfl);(case oc3=>have:=hlen2.out;unfold maxLen;omega);(case oc4=>have:=hlen2.out;omega);(case oc5=>have:=hE3.out.size;rw [World.size_alloc];omega);intro v5 w5 hown5 hgrow5 _ _;(have hE5:=mK ((hE3.out.al (.cells #[.int .u32 (r:Int)] 136)).gr hgrow5 (fun k e=>(h3lt.out k e).1)));(have hv5:=mK (World.ownsRow.kept (World.ownsRow.alloc hv.out (.cells #[.int .u32 (r:Int)] 136)) hgrow5 (by
        cases hob:v.ownBlock with
        | none=>exact .inl rfl
        | some g=>
         refine .inr ?_;intro e;have h1:=(World.ownsRow.lt hv.out g hob).1;have h2:=(h3lt.out g e.symm).2
         omega)));replace hown5:=mK hown5;clear hgrow5))
    have hlt:q<gk:=by have:=hdm.out;omega
    have hnew:DgA w1 N q v5 v w5:=by
     refine ⟨ps++[r],?_,?_,?_,hql.out,?_,?_,MagO.r (base:=w2.heap.size) hv5.out,hE5.out⟩
     ·rw [Ly,List.length_append,List.length_singleton,Nat.pow_succ]
      have:=hsum.out;rw [hdm.out] at this;rw [this];grind
     ·intro x hx
      rcases List.mem_append.1 hx with h|h
      ·exact hps.out x h
      ·rw [List.mem_singleton.1 h]
       exact hr9
     ·intro h0
      rw [List.getLastD_concat];have:=hdm.out;omega
     ·rw [List.length_append,List.length_singleton]
      have:=hlen2.out;omega
     ·unfold MagO
      rw [List.length_append,List.length_singleton,show limV (ps++[r])=limV ps++[.int .u32 (r:Int)] by simp [limV]];exact hown5.out
    go_roundg q
    case measure=>exact hlt
    case rel=>exact hnew
def Rb (s:List UInt8):List UInt8:=if s.head? = some 45 then s.tail else s
def negI (s:List UInt8):Bool:=decide (s.head? = some 45)
def badI (s:List UInt8):Bool:=decide (Rb s=[])||(decide ((Rb s).head? = some 48)&&(decide (1<(Rb s).length)||negI s))
def Aio (s:List UInt8):Option Int:=if badI s=true then none else (decFrom 0 (Rb s)).map fun m=>sg (negI s) m
/-! Numbers. -/
theorem Ny:∀ (x y:List UInt8) (a b:Nat),decFrom a x=some b→decFrom a (x++y)=decFrom b y
 | [],y,a,b,h=>by
  simp only [decFrom,Option.some.injEq] at h
  subst h
  rfl
 | c::r,y,a,b,h=>by
  rw [List.cons_append]
  show (match digitVal c with|some d=>decFrom (a*10+d) (r++y)|none=>none)=_
  have h:(match digitVal c with|some d=>decFrom (a*10+d) r|none=>none)=some b:=h
  cases hd:digitVal c with
  | none=>rw [hd] at h;cases h
  | some d=>
   rw [hd] at h
   exact Ny r y _ b h
theorem Xo {d:Nat}(h:d<10):digitVal (UInt8.ofNat (48+d))=some d:=by
 have:∀ d:Fin 10,digitVal (UInt8.ofNat (48+d.val))=some d.val:=by decide
 exact this ⟨d,h⟩
theorem Nx (n:Nat):decFrom 0 (decDigits n)=some n:=by
 induction n using Nat.strongRecOn with
 | _ n ih=>
  rw [decDigits];by_cases h:n<10
  ·rw [dif_pos h]
   unfold decFrom;rw [Xo h];simp [decFrom]
  ·rw [dif_neg h,Ny _ _ _ _ (ih (n/10) (by omega))]
   unfold decFrom;rw [Xo (by omega)];simp only [decFrom];congr 1;omega
theorem Ajj (n:Nat):decDigits n≠[]:=fun e=>by
 have:=congrArg List.length e
 rw [decDigits_length] at this
 have:=nDigits_pos n
 simp at *
 omega
theorem Aaq (n:Nat):(decDigits n).head?≠some 45:=by
 intro h;cases hd:decDigits n with
 | nil=>rw [hd] at h;cases h
 | cons b r=>
  rw [hd] at h;cases h;have h1:=Nx n;rw [hd] at h1;unfold decFrom at h1;have:digitVal 45=none:=by decide
  rw [this] at h1;cases h1
theorem Aap {n:Nat}(h:(decDigits n).head? = some 48):n=0:=by
 rcases Nat.eq_zero_or_pos n with e|e
 ·exact e
 ·obtain ⟨x,r,h1,h2⟩:=Xs n e
  rw [h1] at h;cases h;exact absurd rfl h2
theorem Zw (X:Int):Rb (itoa X)=decDigits X.natAbs∧negI (itoa X)=decide (X<0):=by
 unfold itoa;by_cases h:X<0
 ·rw [if_pos h]
  simp [Rb,negI,h]
 ·rw [if_neg h,show X.toNat=X.natAbs by omega]
  have:=Aaq X.natAbs;simp [Rb,negI,this,h]
theorem Pk (X:Int):Aio (itoa X)=some X:=by
 obtain ⟨h1,h2⟩:=Zw X;unfold Aio badI;rw [h1,h2,Nx];have hn:=Ajj X.natAbs
 have hb:(decide (decDigits X.natAbs=[])||decide ((decDigits X.natAbs).head? = some 48)&&(decide (1<(decDigits X.natAbs).length)||decide (X<0)))=false:=by
  rw [decide_eq_false hn,Bool.false_or];by_cases h:(decDigits X.natAbs).head? = some 48
  ·have h0:=Aap h
   have:X=0:=by omega
   subst this;have e0:decDigits (Int.natAbs 0)=[48]:=by rw [decDigits,dif_pos (by decide)];rfl
   rw [e0];decide
  ·rw [decide_eq_false h,Bool.false_and]
 rw [hb];simp only [Bool.false_eq_true,if_false,Option.map_some];congr 1;unfold sg;by_cases h:X<0
 ·rw [decide_eq_true h]
  simp;omega
 ·rw [decide_eq_false h]
  simp;omega
/-! Fractions. -/
theorem Abq (x:Rat)(b:Bool)(h:decide (x.den=1)=b):((⟨(itoa (x.den:Int)).toArray⟩:ByteArray).toList==[49])=b:=by
 rw [←h,ByteArray.toList_eq,Bool.eq_iff_iff];simp only [beq_iff_eq,decide_eq_true_eq];have e1:itoa 1=[49]:=by unfold itoa;rw [if_neg (by decide),decDigits,dif_pos (by decide)];rfl
 constructor
 ·intro e
  have e':itoa (x.den:Int)=itoa 1:=by rw [e1];exact e
  have:=Pk (x.den:Int);rw [e',Pk 1] at this;have:=Option.some.inj this;omega
 ·intro e
  rw [e];exact e1
theorem Da (v:Value)(x:Rat)(w:World)(hX:nf x≤65536)(h:FracR w v x) :
  Calls Tryz.prog 186 #[v] w fun e w'=>e=.returned (.string ⟨(Ar x).toArray⟩)∧Ext w w':=by
 have H:=h;obtain ⟨x1,x2,x3,x4,y1,y2,y3,y4,rfl⟩:=h.shape;have hn:nl x.num≤65536:=nT (Nat.le_max_left _ _) hX;have hd:nl (x.den:Int)≤65536:=nT (Nat.le_max_right _ _) hX;have L1:=(show ¬9223372036854775807<(itoa x.num).length+1 by have:=Ep x.num;omega)
 have L2:=(show ¬9223372036854775807<(itoa x.num).length+1+(itoa (x.den:Int)).length by have:=Ep x.num;have:=Ep (x.den:Int);omega)
 have HN:=mK (fun W (e:Ext w W)=>Gw (.agg #[.bool x1,.slice x2 x3 x4]) x.num W hn (H.ext e).num);have HD:=mK (fun W (e:Ext w W)=>Gw (.agg #[.bool y1,.slice y2 y3 y4]) (x.den:Int) W hd (H.ext e).den);clear h H hX hn hd;obtain ⟨wb,hwb⟩:=nmE (w.alloc (.cells #[.bool x1,.slice x2 x3 x4,.bool y1,.slice y2 y3 y4] 54));have hE:=mK (aLe1 hwb);obtain ⟨-,-,c2,c3⟩:=ceX3 (aL10 hwb);replace c2:=mK c2;replace c3:=mK c3;replace hwb:=mK hwb;by_cases hx1:x.den=1
 ·have hrt:=mK (show Ar x=itoa x.num by simp [Ar,hx1])
  have hB:=Abq x true (decide_eq_true hx1);clear hx1 L1 L2;obtain ⟨A,hA⟩:∃ A:ByteArray,A=⟨(itoa x.num).toArray⟩:=⟨_,rfl⟩
  obtain ⟨B,hBB⟩:∃ B:ByteArray,B=⟨(itoa (x.den:Int)).toArray⟩:=⟨_,rfl⟩
  rw [←hBB] at hB HD;rw [←hA] at HN;replace hA:=mK hA;replace hBB:=mK hBB;go_enter Tryz.func186,Tryz.ntmps186;have tok:Tok 0:=.mk _
  go_wp2_with (first
   | (replace tok:Tok 1:=nxT 0 tok;go_at_call 185;rw [←hwb.out];refine (HN.out _ hE.out).mono ?_;rintro e w2 ⟨rfl,h2⟩;(have d2:=c2.out w2 h2);(have d3:=c3.out w2 h2);replace h2:=mK h2)
   | (replace tok:Tok 2:=nxT 1 tok;go_at_call 185;refine (HD.out _ (hE.out.trans h2.out)).mono ?_;rintro e w3 ⟨rfl,h3⟩;replace h3:=mK h3))
  go_ret;rw [hrt.out,hA.out];exact ⟨rfl,(hE.out.trans h2.out).trans h3.out⟩
 ·have hrt:=mK (show Ar x=itoa x.num++47::itoa (x.den:Int) by simp [Ar,hx1])
  have hB:=Abq x false (decide_eq_false hx1);clear hx1;obtain ⟨A,hA⟩:∃ A:ByteArray,A=⟨(itoa x.num).toArray⟩:=⟨_,rfl⟩
  obtain ⟨B,hBB⟩:∃ B:ByteArray,B=⟨(itoa (x.den:Int)).toArray⟩:=⟨_,rfl⟩
  have sA:A.size=(itoa x.num).length:=by rw [hA];rfl
  have sB:B.size=(itoa (x.den:Int)).length:=by rw [hBB];rfl
  rw [←sA] at L1;rw [←sA,←sB] at L2;rw [←hBB] at hB HD;rw [←hA] at HN;replace hA:=mK hA;replace hBB:=mK hBB;have M1:A.size+1≤9223372036854775807:=by omega
  have M2:A.size+1+B.size≤9223372036854775807:=by omega
  clear sA sB;go_enter Tryz.func186,Tryz.ntmps186;have tok:Tok 0:=.mk _
  go_wp2_with (first
   | (replace tok:Tok 1:=nxT 0 tok;go_at_call 185;rw [←hwb.out];refine (HN.out _ hE.out).mono ?_;rintro e w2 ⟨rfl,h2⟩;(have d2:=c2.out w2 h2);(have d3:=c3.out w2 h2);replace h2:=mK h2)
   | (replace tok:Tok 2:=nxT 1 tok;go_at_call 185;refine (HD.out _ (hE.out.trans h2.out)).mono ?_;rintro e w3 ⟨rfl,h3⟩;replace h3:=mK h3))
  go_ret;rw [hrt.out,hA.out,hBB.out,show (⟨#[47]⟩:ByteArray)=⟨([47]:List UInt8).toArray⟩ from rfl,Ez,Ez,List.append_assoc];exact ⟨rfl,(hE.out.trans h2.out).trans h3.out⟩
theorem Ud {d:PD}(h:okPD d):1≤d.kd∧d.kd≤5:=by
 have:=h.2.2.2;unfold mayP mayO mayS at this;simp only [Bool.and_eq_true,decide_eq_true_eq] at this;obtain ⟨-,-,h3⟩:=this;split at h3
 ·omega
 ·split at h3
  ·omega
  ·split at h3
   ·omega
   ·split at h3
    ·omega
    ·split at h3
     ·omega
     ·cases h3
theorem Sc (a b:List PD):Bd (a++b)=Bd a++Bd b:=by simp [Bd]
def Eo (d:PD):List UInt8:=Hs d++Ds (Bp d)
theorem Ah6 (d:PD):Qg d=Eo d++[10]:=rfl
theorem Zj (s:ByteArray):s=⟨s.data.toList.toArray⟩:=by cases s;simp
theorem Ah5 (d:PD)(hn:Dg d.kd=0):d.nm++⟨#[32]⟩++⟨(itoa d.co).toArray⟩++⟨#[32]⟩++⟨(Dl d.kd).toArray⟩=(⟨(Eo d).toArray⟩:ByteArray):=by
 rw [Zj d.nm,show (⟨#[32]⟩:ByteArray)=⟨([32]:List UInt8).toArray⟩ from rfl];simp only [Ez];unfold Eo Hs Bp;rw [hn];simp [Ds]
theorem Ah4 (d:PD)(hn:Dg d.kd=1):d.nm++⟨#[32]⟩++⟨(itoa d.co).toArray⟩++⟨#[32]⟩++⟨(Dl d.kd).toArray⟩++⟨#[32]⟩++⟨(Ar d.p).toArray⟩=(⟨(Eo d).toArray⟩:ByteArray):=by
 rw [Zj d.nm,show (⟨#[32]⟩:ByteArray)=⟨([32]:List UInt8).toArray⟩ from rfl];simp only [Ez];unfold Eo Hs Bp;rw [hn];simp [Ds]
theorem Ah3 (d:PD)(hn:Dg d.kd=2):d.nm++⟨#[32]⟩++⟨(itoa d.co).toArray⟩++⟨#[32]⟩++⟨(Dl d.kd).toArray⟩++⟨#[32]⟩++⟨(Ar d.p).toArray⟩++⟨#[32]⟩++⟨(Ar d.q).toArray⟩=(⟨(Eo d).toArray⟩:ByteArray):=by
 rw [Zj d.nm,show (⟨#[32]⟩:ByteArray)=⟨([32]:List UInt8).toArray⟩ from rfl];simp only [Ez];unfold Eo Hs Bp;rw [hn];simp [Ds]
theorem Ahd (p q:FV)(d:PD)(w:World)(hd:okPD d)(h1:FracR w (.agg #[.bool p.b1,.slice p.a1 p.n1 p.c1,.bool p.b2,.slice p.a2 p.n2 p.c2]) d.p)(h2:FracR w (.agg #[.bool q.b1,.slice q.a1 q.n1 q.c1,.bool q.b2,.slice q.a2 q.n2 q.c2]) d.q)(hn:Dg d.kd=0) :
  Calls Tryz.prog 116 #[.agg #[.string d.nm,.int .u8 d.kd,.bool p.b1,.slice p.a1 p.n1 p.c1,.bool p.b2,.slice p.a2 p.n2 p.c2,.bool q.b1,.slice q.a1 q.n1 q.c1,.bool q.b2,.slice q.a2 q.n2 q.c2,.int .i64 d.co]] w fun e w'=>e=.returned (.string ⟨(Eo d).toArray⟩)∧Ext w w':=by
 have hnm:=hd.nm;obtain ⟨hco0,hco1⟩:=hd.co;obtain ⟨hk1,hk2⟩:=Ud hd;have HW:=fun W=>Tt d.kd W hk1 hk2;have LF:=Ah5 d hn;rw [hn] at HW;have sWB:(⟨(Dl d.kd).toArray⟩:ByteArray).size≤7:=Gs d.kd
 have sD:(⟨(itoa d.co).toArray⟩:ByteArray).size≤32:=by
  show (itoa d.co).length≤32
  unfold itoa;rw [if_neg (by omega)];exact Fh (by omega)
 have sP:(⟨(Ar d.p).toArray⟩:ByteArray).size≤131077:=Ci hd.1;have sQ:(⟨(Ar d.q).toArray⟩:ByteArray).size≤131077:=Ci hd.2.1;have HO:=fun W=>No d.co W (by omega) (by omega);have HD:=fun v W (e:IntR W v d.co)=>Gw v d.co W (nT (Uh (by omega) (by omega)) (by decide)) e;have HP:=fun W (e:Ext w W)=>Da (.agg #[.bool p.b1,.slice p.a1 p.n1 p.c1,.bool p.b2,.slice p.a2 p.n2 p.c2]) d.p W (nT hd.1 (by decide)) (h1.ext e);have HQ:=fun W (e:Ext w W)=>Da (.agg #[.bool q.b1,.slice q.a1 q.n1 q.c1,.bool q.b2,.slice q.a2 q.n2 q.c2]) d.q W (nT hd.2.1 (by decide)) (h2.ext e);obtain ⟨WB,hWB⟩:=nmE (⟨(Dl d.kd).toArray⟩:ByteArray);obtain ⟨D,hD⟩:=nmE (⟨(itoa d.co).toArray⟩:ByteArray);obtain ⟨P,hP⟩:=nmE (⟨(Ar d.p).toArray⟩:ByteArray);obtain ⟨Q,hQ⟩:=nmE (⟨(Ar d.q).toArray⟩:ByteArray);rw [←hWB] at HW sWB;rw [←hD] at HD sD;rw [←hP] at HP sP;rw [←hQ] at HQ sQ;try rw [←hWB] at LF
 try rw [←hD] at LF
 try rw [←hP] at LF
 try rw [←hQ] at LF
 rw [←LF];have M1:d.nm.size+1≤9223372036854775807:=by omega
 have M2:d.nm.size+1+D.size≤9223372036854775807:=by omega
 have M3:d.nm.size+1+D.size+1≤9223372036854775807:=by omega
 have M4:d.nm.size+1+D.size+1+WB.size≤9223372036854775807:=by omega
 have M5:d.nm.size+1+D.size+1+WB.size+1≤9223372036854775807:=by omega
 have M6:d.nm.size+1+D.size+1+WB.size+1+P.size≤9223372036854775807:=by omega
 have M7:d.nm.size+1+D.size+1+WB.size+1+P.size+1≤9223372036854775807:=by omega
 have M8:d.nm.size+1+D.size+1+WB.size+1+P.size+1+Q.size≤9223372036854775807:=by omega
 have L1:¬9223372036854775807<d.nm.size+1:=by omega
 have L2:¬9223372036854775807<d.nm.size+1+D.size:=by omega
 have L3:¬9223372036854775807<d.nm.size+1+D.size+1:=by omega
 have L4:¬9223372036854775807<d.nm.size+1+D.size+1+WB.size:=by omega
 have L5:¬9223372036854775807<d.nm.size+1+D.size+1+WB.size+1:=by omega
 have L6:¬9223372036854775807<d.nm.size+1+D.size+1+WB.size+1+P.size:=by omega
 have L7:¬9223372036854775807<d.nm.size+1+D.size+1+WB.size+1+P.size+1:=by omega
 have L8:¬9223372036854775807<d.nm.size+1+D.size+1+WB.size+1+P.size+1+Q.size:=by omega
 obtain ⟨wb,hwb⟩:=nmE (w.alloc (.cells #[.string d.nm,.int .u8 d.kd,.bool p.b1,.slice p.a1 p.n1 p.c1,.bool p.b2,.slice p.a2 p.n2 p.c2,.bool q.b1,.slice q.a1 q.n1 q.c1,.bool q.b2,.slice q.a2 q.n2 q.c2,.int .i64 d.co] 58));have hE:=mK (aLe1 hwb);have zP:=mK (aL10 hwb);have c0:=mK (fun W (e:Ext wb W)=>show W.cell? ⟨w.heap.size,0,none⟩=some (.string d.nm) from Aa (e.blk zP.out) 0);have c10:=mK (fun W (e:Ext wb W)=>show W.cell? ⟨w.heap.size,10,none⟩=some (.int .i64 d.co) from Aa (e.blk zP.out) 10);have y1:=Aa zP.out 1;replace HW:=mK HW;replace HO:=mK HO;replace HD:=mK HD;replace HP:=mK HP;replace HQ:=mK HQ;replace hwb:=mK hwb;replace hd:=mK hd;clear h1 h2 LF hWB hD hP hQ sWB sD sP sQ hnm hco0 hco1 hk1 hk2 hn;go_enter Tryz.func116,Tryz.ntmps116;have tok:Tok 0:=.mk _
 go_wp2_with (first
  | (replace tok:Tok 1:=nxT 0 tok;go_at_call 184;rw [←hwb.out];refine (HW.out _).mono ?_;rintro e w2 ⟨rfl,rfl⟩))
 apply Ad [.val (.pointer (some ⟨w.heap.size,0,none⟩)),.val (.string d.nm),.val (.string (d.nm++⟨#[32]⟩)),.val (.pointer (some ⟨w.heap.size,10,none⟩)),.val (.int .i64 d.co),.pred (fun W v=>IntR W v d.co),.val (.string D),.val (.string (d.nm++⟨#[32]⟩++D)),.val (.string (d.nm++⟨#[32]⟩++D++⟨#[32]⟩)),.val (.string WB),.val (.string (d.nm++⟨#[32]⟩++D++⟨#[32]⟩++WB))] (by kernel_rfl) (stable_vals _ (stable_vals _ (stable_vals _ (stable_vals _ (stable_vals _ (Bj _ (stable_vals _ (stable_vals _ (stable_vals _ (stable_vals _ (stable_vals _ trivial)))))))))));refine ⟨fun W hW _=>by go_simp;first|exact ⟨xR _,rfl⟩|exact xR _,?_⟩;refine ⟨fun W hW _=>by have c0:=c0.out W hW;go_simp;first|exact ⟨xR _,rfl⟩|exact xR _,?_⟩;iterate 2 (refine ⟨fun W hW _=>by go_simp;first|exact ⟨xR _,rfl⟩|exact xR _,?_⟩)
 refine ⟨fun W hW _=>by have c10:=c10.out W hW;go_simp;first|exact ⟨xR _,rfl⟩|exact xR _,?_⟩;refine ⟨fun W hW _=>by go_simp;exact (HO.out W).mono (by rintro e w' ⟨v,rfl,hv,hx⟩;first|exact ⟨v,rfl,hx,hv⟩|exact ⟨v,rfl,hv,hx⟩),fun vO=>?_⟩;refine ⟨fun W hW hF=>by go_simp;exact (HD.out _ W (hF.1 (by kernel_rfl))).mono (by rintro e w' ⟨rfl,hx⟩;exact ⟨rfl,hx⟩),?_⟩;iterate 4 (refine ⟨fun W hW _=>by go_simp;first|exact ⟨xR _,rfl⟩|exact xR _,?_⟩)
 intro W hW _;have zP':=mK (hW.blk zP.out);have hEW:=mK (hE.out.trans hW);clear hW;go_simp;go_wp2_with fail;go_ret;exact ⟨rfl,hEW.out⟩
theorem Ahc (p q:FV)(d:PD)(w:World)(hd:okPD d)(h1:FracR w (.agg #[.bool p.b1,.slice p.a1 p.n1 p.c1,.bool p.b2,.slice p.a2 p.n2 p.c2]) d.p)(h2:FracR w (.agg #[.bool q.b1,.slice q.a1 q.n1 q.c1,.bool q.b2,.slice q.a2 q.n2 q.c2]) d.q)(hn:Dg d.kd=1) :
  Calls Tryz.prog 116 #[.agg #[.string d.nm,.int .u8 d.kd,.bool p.b1,.slice p.a1 p.n1 p.c1,.bool p.b2,.slice p.a2 p.n2 p.c2,.bool q.b1,.slice q.a1 q.n1 q.c1,.bool q.b2,.slice q.a2 q.n2 q.c2,.int .i64 d.co]] w fun e w'=>e=.returned (.string ⟨(Eo d).toArray⟩)∧Ext w w':=by
 have hnm:=hd.nm;obtain ⟨hco0,hco1⟩:=hd.co;obtain ⟨hk1,hk2⟩:=Ud hd;have HW:=fun W=>Tt d.kd W hk1 hk2;have LF:=Ah4 d hn;rw [hn] at HW;have sWB:(⟨(Dl d.kd).toArray⟩:ByteArray).size≤7:=Gs d.kd
 have sD:(⟨(itoa d.co).toArray⟩:ByteArray).size≤32:=by
  show (itoa d.co).length≤32
  unfold itoa;rw [if_neg (by omega)];exact Fh (by omega)
 have sP:(⟨(Ar d.p).toArray⟩:ByteArray).size≤131077:=Ci hd.1;have sQ:(⟨(Ar d.q).toArray⟩:ByteArray).size≤131077:=Ci hd.2.1;have HO:=fun W=>No d.co W (by omega) (by omega);have HD:=fun v W (e:IntR W v d.co)=>Gw v d.co W (nT (Uh (by omega) (by omega)) (by decide)) e;have HP:=fun W (e:Ext w W)=>Da (.agg #[.bool p.b1,.slice p.a1 p.n1 p.c1,.bool p.b2,.slice p.a2 p.n2 p.c2]) d.p W (nT hd.1 (by decide)) (h1.ext e);have HQ:=fun W (e:Ext w W)=>Da (.agg #[.bool q.b1,.slice q.a1 q.n1 q.c1,.bool q.b2,.slice q.a2 q.n2 q.c2]) d.q W (nT hd.2.1 (by decide)) (h2.ext e);obtain ⟨WB,hWB⟩:=nmE (⟨(Dl d.kd).toArray⟩:ByteArray);obtain ⟨D,hD⟩:=nmE (⟨(itoa d.co).toArray⟩:ByteArray);obtain ⟨P,hP⟩:=nmE (⟨(Ar d.p).toArray⟩:ByteArray);obtain ⟨Q,hQ⟩:=nmE (⟨(Ar d.q).toArray⟩:ByteArray);rw [←hWB] at HW sWB;rw [←hD] at HD sD;rw [←hP] at HP sP;rw [←hQ] at HQ sQ;try rw [←hWB] at LF
 try rw [←hD] at LF
 try rw [←hP] at LF
 try rw [←hQ] at LF
 rw [←LF];have M1:d.nm.size+1≤9223372036854775807:=by omega
 have M2:d.nm.size+1+D.size≤9223372036854775807:=by omega
 have M3:d.nm.size+1+D.size+1≤9223372036854775807:=by omega
 have M4:d.nm.size+1+D.size+1+WB.size≤9223372036854775807:=by omega
 have M5:d.nm.size+1+D.size+1+WB.size+1≤9223372036854775807:=by omega
 have M6:d.nm.size+1+D.size+1+WB.size+1+P.size≤9223372036854775807:=by omega
 have M7:d.nm.size+1+D.size+1+WB.size+1+P.size+1≤9223372036854775807:=by omega
 have M8:d.nm.size+1+D.size+1+WB.size+1+P.size+1+Q.size≤9223372036854775807:=by omega
 have L1:¬9223372036854775807<d.nm.size+1:=by omega
 have L2:¬9223372036854775807<d.nm.size+1+D.size:=by omega
 have L3:¬9223372036854775807<d.nm.size+1+D.size+1:=by omega
 have L4:¬9223372036854775807<d.nm.size+1+D.size+1+WB.size:=by omega
 have L5:¬9223372036854775807<d.nm.size+1+D.size+1+WB.size+1:=by omega
 have L6:¬9223372036854775807<d.nm.size+1+D.size+1+WB.size+1+P.size:=by omega
 have L7:¬9223372036854775807<d.nm.size+1+D.size+1+WB.size+1+P.size+1:=by omega
 have L8:¬9223372036854775807<d.nm.size+1+D.size+1+WB.size+1+P.size+1+Q.size:=by omega
 obtain ⟨wb,hwb⟩:=nmE (w.alloc (.cells #[.string d.nm,.int .u8 d.kd,.bool p.b1,.slice p.a1 p.n1 p.c1,.bool p.b2,.slice p.a2 p.n2 p.c2,.bool q.b1,.slice q.a1 q.n1 q.c1,.bool q.b2,.slice q.a2 q.n2 q.c2,.int .i64 d.co] 58));have hE:=mK (aLe1 hwb);have zP:=mK (aL10 hwb);have c0:=mK (fun W (e:Ext wb W)=>show W.cell? ⟨w.heap.size,0,none⟩=some (.string d.nm) from Aa (e.blk zP.out) 0);have c10:=mK (fun W (e:Ext wb W)=>show W.cell? ⟨w.heap.size,10,none⟩=some (.int .i64 d.co) from Aa (e.blk zP.out) 10);have y1:=Aa zP.out 1;replace HW:=mK HW;replace HO:=mK HO;replace HD:=mK HD;replace HP:=mK HP;replace HQ:=mK HQ;replace hwb:=mK hwb;replace hd:=mK hd;clear h1 h2 LF hWB hD hP hQ sWB sD sP sQ hnm hco0 hco1 hk1 hk2 hn;go_enter Tryz.func116,Tryz.ntmps116;have tok:Tok 0:=.mk _
 go_wp2_with (first
  | (replace tok:Tok 1:=nxT 0 tok;go_at_call 184;rw [←hwb.out];refine (HW.out _).mono ?_;rintro e w2 ⟨rfl,rfl⟩))
 apply Ad [.val (.pointer (some ⟨w.heap.size,0,none⟩)),.val (.string d.nm),.val (.string (d.nm++⟨#[32]⟩)),.val (.pointer (some ⟨w.heap.size,10,none⟩)),.val (.int .i64 d.co),.pred (fun W v=>IntR W v d.co),.val (.string D),.val (.string (d.nm++⟨#[32]⟩++D)),.val (.string (d.nm++⟨#[32]⟩++D++⟨#[32]⟩)),.val (.string WB),.val (.string (d.nm++⟨#[32]⟩++D++⟨#[32]⟩++WB))] (by kernel_rfl) (stable_vals _ (stable_vals _ (stable_vals _ (stable_vals _ (stable_vals _ (Bj _ (stable_vals _ (stable_vals _ (stable_vals _ (stable_vals _ (stable_vals _ trivial)))))))))));refine ⟨fun W hW _=>by go_simp;first|exact ⟨xR _,rfl⟩|exact xR _,?_⟩;refine ⟨fun W hW _=>by have c0:=c0.out W hW;go_simp;first|exact ⟨xR _,rfl⟩|exact xR _,?_⟩;iterate 2 (refine ⟨fun W hW _=>by go_simp;first|exact ⟨xR _,rfl⟩|exact xR _,?_⟩)
 refine ⟨fun W hW _=>by have c10:=c10.out W hW;go_simp;first|exact ⟨xR _,rfl⟩|exact xR _,?_⟩;refine ⟨fun W hW _=>by go_simp;exact (HO.out W).mono (by rintro e w' ⟨v,rfl,hv,hx⟩;first|exact ⟨v,rfl,hx,hv⟩|exact ⟨v,rfl,hv,hx⟩),fun vO=>?_⟩;refine ⟨fun W hW hF=>by go_simp;exact (HD.out _ W (hF.1 (by kernel_rfl))).mono (by rintro e w' ⟨rfl,hx⟩;exact ⟨rfl,hx⟩),?_⟩;iterate 4 (refine ⟨fun W hW _=>by go_simp;first|exact ⟨xR _,rfl⟩|exact xR _,?_⟩)
 intro W hW _;have zP':=mK (hW.blk zP.out);have hEW:=mK (hE.out.trans hW);clear hW;go_simp
 go_wp2_with (first
  | (replace tok:Tok 2:=nxT 1 tok;refine Ab rfl 54 (.tmp 29) rfl w.heap.size 2 rfl 58 #[.string d.nm,.int .u8 d.kd,.bool p.b1,.slice p.a1 p.n1 p.c1,.bool p.b2,.slice p.a2 p.n2 p.c2,.bool q.b1,.slice q.a1 q.n1 q.c1,.bool q.b2,.slice q.a2 q.n2 q.c2,.int .i64 d.co] #[.bool p.b1,.slice p.a1 p.n1 p.c1,.bool p.b2,.slice p.a2 p.n2 p.c2] (0,0) _ zP'.out rfl Tryz.underlying54 rfl (by kernel_rfl) ?_)
  | (replace tok:Tok 3:=nxT 2 tok;go_at_call 186;refine (HP.out _ hEW.out).mono ?_;rintro e w3 ⟨rfl,h3⟩;replace hEW:=mK (hEW.out.trans h3);clear h3))
 go_ret;exact ⟨rfl,hEW.out⟩
theorem Ahb (p q:FV)(d:PD)(w:World)(hd:okPD d)(h1:FracR w (.agg #[.bool p.b1,.slice p.a1 p.n1 p.c1,.bool p.b2,.slice p.a2 p.n2 p.c2]) d.p)(h2:FracR w (.agg #[.bool q.b1,.slice q.a1 q.n1 q.c1,.bool q.b2,.slice q.a2 q.n2 q.c2]) d.q)(hn:Dg d.kd=2) :
  Calls Tryz.prog 116 #[.agg #[.string d.nm,.int .u8 d.kd,.bool p.b1,.slice p.a1 p.n1 p.c1,.bool p.b2,.slice p.a2 p.n2 p.c2,.bool q.b1,.slice q.a1 q.n1 q.c1,.bool q.b2,.slice q.a2 q.n2 q.c2,.int .i64 d.co]] w fun e w'=>e=.returned (.string ⟨(Eo d).toArray⟩)∧Ext w w':=by
 have hnm:=hd.nm;obtain ⟨hco0,hco1⟩:=hd.co;obtain ⟨hk1,hk2⟩:=Ud hd;have HW:=fun W=>Tt d.kd W hk1 hk2;have LF:=Ah3 d hn;rw [hn] at HW;have sWB:(⟨(Dl d.kd).toArray⟩:ByteArray).size≤7:=Gs d.kd
 have sD:(⟨(itoa d.co).toArray⟩:ByteArray).size≤32:=by
  show (itoa d.co).length≤32
  unfold itoa;rw [if_neg (by omega)];exact Fh (by omega)
 have sP:(⟨(Ar d.p).toArray⟩:ByteArray).size≤131077:=Ci hd.1;have sQ:(⟨(Ar d.q).toArray⟩:ByteArray).size≤131077:=Ci hd.2.1;have HO:=fun W=>No d.co W (by omega) (by omega);have HD:=fun v W (e:IntR W v d.co)=>Gw v d.co W (nT (Uh (by omega) (by omega)) (by decide)) e;have HP:=fun W (e:Ext w W)=>Da (.agg #[.bool p.b1,.slice p.a1 p.n1 p.c1,.bool p.b2,.slice p.a2 p.n2 p.c2]) d.p W (nT hd.1 (by decide)) (h1.ext e);have HQ:=fun W (e:Ext w W)=>Da (.agg #[.bool q.b1,.slice q.a1 q.n1 q.c1,.bool q.b2,.slice q.a2 q.n2 q.c2]) d.q W (nT hd.2.1 (by decide)) (h2.ext e);obtain ⟨WB,hWB⟩:=nmE (⟨(Dl d.kd).toArray⟩:ByteArray);obtain ⟨D,hD⟩:=nmE (⟨(itoa d.co).toArray⟩:ByteArray);obtain ⟨P,hP⟩:=nmE (⟨(Ar d.p).toArray⟩:ByteArray);obtain ⟨Q,hQ⟩:=nmE (⟨(Ar d.q).toArray⟩:ByteArray);rw [←hWB] at HW sWB;rw [←hD] at HD sD;rw [←hP] at HP sP;rw [←hQ] at HQ sQ;try rw [←hWB] at LF
 try rw [←hD] at LF
 try rw [←hP] at LF
 try rw [←hQ] at LF
 rw [←LF];have M1:d.nm.size+1≤9223372036854775807:=by omega
 have M2:d.nm.size+1+D.size≤9223372036854775807:=by omega
 have M3:d.nm.size+1+D.size+1≤9223372036854775807:=by omega
 have M4:d.nm.size+1+D.size+1+WB.size≤9223372036854775807:=by omega
 have M5:d.nm.size+1+D.size+1+WB.size+1≤9223372036854775807:=by omega
 have M6:d.nm.size+1+D.size+1+WB.size+1+P.size≤9223372036854775807:=by omega
 have M7:d.nm.size+1+D.size+1+WB.size+1+P.size+1≤9223372036854775807:=by omega
 have M8:d.nm.size+1+D.size+1+WB.size+1+P.size+1+Q.size≤9223372036854775807:=by omega
 have L1:¬9223372036854775807<d.nm.size+1:=by omega
 have L2:¬9223372036854775807<d.nm.size+1+D.size:=by omega
 have L3:¬9223372036854775807<d.nm.size+1+D.size+1:=by omega
 have L4:¬9223372036854775807<d.nm.size+1+D.size+1+WB.size:=by omega
 have L5:¬9223372036854775807<d.nm.size+1+D.size+1+WB.size+1:=by omega
 have L6:¬9223372036854775807<d.nm.size+1+D.size+1+WB.size+1+P.size:=by omega
 have L7:¬9223372036854775807<d.nm.size+1+D.size+1+WB.size+1+P.size+1:=by omega
 have L8:¬9223372036854775807<d.nm.size+1+D.size+1+WB.size+1+P.size+1+Q.size:=by omega
 obtain ⟨wb,hwb⟩:=nmE (w.alloc (.cells #[.string d.nm,.int .u8 d.kd,.bool p.b1,.slice p.a1 p.n1 p.c1,.bool p.b2,.slice p.a2 p.n2 p.c2,.bool q.b1,.slice q.a1 q.n1 q.c1,.bool q.b2,.slice q.a2 q.n2 q.c2,.int .i64 d.co] 58));have hE:=mK (aLe1 hwb);have zP:=mK (aL10 hwb);have c0:=mK (fun W (e:Ext wb W)=>show W.cell? ⟨w.heap.size,0,none⟩=some (.string d.nm) from Aa (e.blk zP.out) 0);have c10:=mK (fun W (e:Ext wb W)=>show W.cell? ⟨w.heap.size,10,none⟩=some (.int .i64 d.co) from Aa (e.blk zP.out) 10);have y1:=Aa zP.out 1;replace HW:=mK HW;replace HO:=mK HO;replace HD:=mK HD;replace HP:=mK HP;replace HQ:=mK HQ;replace hwb:=mK hwb;replace hd:=mK hd;clear h1 h2 LF hWB hD hP hQ sWB sD sP sQ hnm hco0 hco1 hk1 hk2 hn;go_enter Tryz.func116,Tryz.ntmps116;have tok:Tok 0:=.mk _
 go_wp2_with (first
  | (replace tok:Tok 1:=nxT 0 tok;go_at_call 184;rw [←hwb.out];refine (HW.out _).mono ?_;rintro e w2 ⟨rfl,rfl⟩))
 apply Ad [.val (.pointer (some ⟨w.heap.size,0,none⟩)),.val (.string d.nm),.val (.string (d.nm++⟨#[32]⟩)),.val (.pointer (some ⟨w.heap.size,10,none⟩)),.val (.int .i64 d.co),.pred (fun W v=>IntR W v d.co),.val (.string D),.val (.string (d.nm++⟨#[32]⟩++D)),.val (.string (d.nm++⟨#[32]⟩++D++⟨#[32]⟩)),.val (.string WB),.val (.string (d.nm++⟨#[32]⟩++D++⟨#[32]⟩++WB))] (by kernel_rfl) (stable_vals _ (stable_vals _ (stable_vals _ (stable_vals _ (stable_vals _ (Bj _ (stable_vals _ (stable_vals _ (stable_vals _ (stable_vals _ (stable_vals _ trivial)))))))))));refine ⟨fun W hW _=>by go_simp;first|exact ⟨xR _,rfl⟩|exact xR _,?_⟩;refine ⟨fun W hW _=>by have c0:=c0.out W hW;go_simp;first|exact ⟨xR _,rfl⟩|exact xR _,?_⟩;iterate 2 (refine ⟨fun W hW _=>by go_simp;first|exact ⟨xR _,rfl⟩|exact xR _,?_⟩)
 refine ⟨fun W hW _=>by have c10:=c10.out W hW;go_simp;first|exact ⟨xR _,rfl⟩|exact xR _,?_⟩;refine ⟨fun W hW _=>by go_simp;exact (HO.out W).mono (by rintro e w' ⟨v,rfl,hv,hx⟩;first|exact ⟨v,rfl,hx,hv⟩|exact ⟨v,rfl,hv,hx⟩),fun vO=>?_⟩;refine ⟨fun W hW hF=>by go_simp;exact (HD.out _ W (hF.1 (by kernel_rfl))).mono (by rintro e w' ⟨rfl,hx⟩;exact ⟨rfl,hx⟩),?_⟩;iterate 4 (refine ⟨fun W hW _=>by go_simp;first|exact ⟨xR _,rfl⟩|exact xR _,?_⟩)
 intro W hW _;have zP':=mK (hW.blk zP.out);have hEW:=mK (hE.out.trans hW);clear hW;go_simp
 go_wp2_with (first
  | (replace tok:Tok 2:=nxT 1 tok;refine Ab rfl 54 (.tmp 29) rfl w.heap.size 2 rfl 58 #[.string d.nm,.int .u8 d.kd,.bool p.b1,.slice p.a1 p.n1 p.c1,.bool p.b2,.slice p.a2 p.n2 p.c2,.bool q.b1,.slice q.a1 q.n1 q.c1,.bool q.b2,.slice q.a2 q.n2 q.c2,.int .i64 d.co] #[.bool p.b1,.slice p.a1 p.n1 p.c1,.bool p.b2,.slice p.a2 p.n2 p.c2] (0,0) _ zP'.out rfl Tryz.underlying54 rfl (by kernel_rfl) ?_)
  | (replace tok:Tok 3:=nxT 2 tok;go_at_call 186;refine (HP.out _ hEW.out).mono ?_;rintro e w3 ⟨rfl,h3⟩;replace hEW:=mK (hEW.out.trans h3);replace zP':=mK (h3.blk zP'.out);clear h3)
  | (replace tok:Tok 4:=nxT 3 tok;refine Ab rfl 54 (.tmp 38) rfl w.heap.size 6 rfl 58 #[.string d.nm,.int .u8 d.kd,.bool p.b1,.slice p.a1 p.n1 p.c1,.bool p.b2,.slice p.a2 p.n2 p.c2,.bool q.b1,.slice q.a1 q.n1 q.c1,.bool q.b2,.slice q.a2 q.n2 q.c2,.int .i64 d.co] #[.bool q.b1,.slice q.a1 q.n1 q.c1,.bool q.b2,.slice q.a2 q.n2 q.c2] (0,0) _ zP'.out rfl Tryz.underlying54 rfl (by kernel_rfl) ?_)
  | (replace tok:Tok 5:=nxT 4 tok;go_at_call 186;refine (HQ.out _ hEW.out).mono ?_;rintro e w4 ⟨rfl,h4⟩;replace hEW:=mK (hEW.out.trans h4);clear h4))
 go_ret;exact ⟨rfl,hEW.out⟩
theorem Adz {d:PD}:Dg d.kd=0∨Dg d.kd=1∨Dg d.kd=2:=by
 have:=Fm d.kd;omega
theorem Aha (p q:FV)(d:PD)(w:World)(hd:okPD d)(h1:FracR w (.agg #[.bool p.b1,.slice p.a1 p.n1 p.c1,.bool p.b2,.slice p.a2 p.n2 p.c2]) d.p)(h2:FracR w (.agg #[.bool q.b1,.slice q.a1 q.n1 q.c1,.bool q.b2,.slice q.a2 q.n2 q.c2]) d.q) :
  Calls Tryz.prog 116 #[.agg #[.string d.nm,.int .u8 d.kd,.bool p.b1,.slice p.a1 p.n1 p.c1,.bool p.b2,.slice p.a2 p.n2 p.c2,.bool q.b1,.slice q.a1 q.n1 q.c1,.bool q.b2,.slice q.a2 q.n2 q.c2,.int .i64 d.co]] w fun e w'=>e=.returned (.string ⟨(Eo d).toArray⟩)∧Ext w w':=by
 rcases Adz (d:=d) with hn|hn|hn
 ·exact Ahd p q d w hd h1 h2 hn
 ·exact Ahc p q d w hd h1 h2 hn
 ·exact Ahb p q d w hd h1 h2 hn
theorem RefC.rowL {w:World}{s:Value}{es:List (PD×Value)}(h:RefC w s es):RowL w s es:=Ky h.row h.part
theorem Add {d:PD}(h:okPD d):(Eo d).length≤262299:=by
 have:=Sq h;rw [Ah6,List.length_append] at this;simp at this;omega
structure FitT (n:Nat):Prop where
 h:n≤65536
theorem Ab7 (d:PD):Bd [d]=Eo d++[10]:=by
 unfold Bd;rw [List.flatMap_cons,List.flatMap_nil,List.append_nil];rfl
theorem Yo (L:List PD){k:Nat}(hk:k<L.length):Bd (L.take (k+1))=Bd (L.take k)++(Eo L[k]++[10]):=by
 rw [List.take_succ_eq_append_getElem hk,Sc,Ab7]
theorem Yp (L:List PD)(k:Nat):(Bd (L.take k)).length≤(Bd L).length:=by
 have:=congrArg List.length (Sc (L.take k) (L.drop k));rw [List.take_append_drop,List.length_append] at this;omega
theorem Ag3 (l:Value)(es:List (PD×Value))(w:World)(h:RefC w l es) :
  Calls Tryz.prog 28 #[.agg #[.bool false,l]] w (Yg w es):=by
 obtain ⟨a,c,rfl,hc,-⟩:=h.rowL.at';obtain ⟨wb,hwb⟩:=nmE (w.alloc (.cells #[.bool false,.slice a es.length c] 28));have hE:=aLe1 hwb;have zC:=mK (aL10 hwb);have H:=mK (fun W (e:Ext wb W)=>h.rowL.ext (hE.trans e));have hok:=mK h.ok;have hfew:=h.few;have hQ:=mK (fun w' (e:Ext w w')=>(fun (x:Ending) (hx:x=.returned (if (Bd (es.map (·.1))).length≤65536 then .tuple #[.string ⟨(Bd (es.map (·.1))).toArray⟩,.int .i64 0] else .tuple #[.string ⟨#[]⟩,.int .i64 4]))=>(show Yg w es x w' from ⟨hx,e⟩)));have y0:=Aa zC.out 0;have hs:=aLs1 hwb;replace hE:=mK hE;replace hwb:=mK hwb;clear h;go_enter Tryz.func28,Tryz.ntmps28;go_wp2_with fail;rw [←hwb.out];have st:Hid (∃ k:Nat,k≤es.length∧Value.int .i64 0=.int .i64 k∧Value.string ⟨#[]⟩=.string ⟨(Bd ((es.take k).map (·.1))).toArray⟩∧FitT (Bd ((es.take k).map (·.1))).length∧Ext wb wb):=⟨0,Nat.zero_le _,rfl,rfl,⟨by simp [Bd]⟩,xR _⟩
 go_loopw [4,5] (fun s i wr=>∃ k:Nat,k≤es.length∧i=.int .i64 k∧s=.string ⟨(Bd ((es.take k).map (·.1))).toArray⟩∧FitT (Bd ((es.take k).map (·.1))).length∧Ext wb wr) (fun _ i _=>es.length-(intOf i).toNat)
 case atStart=>exact st.out
 case round=>
  clear st;obtain ⟨k,hk,rfl,rfl,hlen,hEr⟩:=hrel;replace hlen:=hlen.h;obtain ⟨w2,rfl⟩:=nmE (wr:World);have y1:=Aa (hEr.blk zC.out) 1;by_cases hlt:k<es.length
  ·have hlt':(k:Int)<(es.length:Int):=by omega
   obtain ⟨b,o,c1,x1,-,p,q,-,hr,hp⟩:=(H.out w2 hEr).get hlt;simp only [Value.slice.injEq,true_and] at x1;obtain ⟨rfl,rfl⟩:=x1;have hdk:=hok.out _ (List.getElem_mem hlt)
   have htk:Bd ((es.take (k+1)).map (·.1))=Bd ((es.take k).map (·.1))++(Eo es[k].1++[10]):=by
    have:=Yo (es.map (·.1)) (k:=k) (by simpa using hlt);rw [←List.map_take,←List.map_take,List.getElem_map] at this;exact this
   have hmono:(Bd ((es.take (k+1)).map (·.1))).length≤(Bd (es.map (·.1))).length:=by
    rw [List.map_take];exact Yp _ _
   generalize es[k].1=d at *;have hll:=Add hdk;have HL:=mK (Aha p q d w2 hdk hp.pq.1 hp.pq.2);obtain ⟨S,hS⟩:∃ S:ByteArray,S=⟨(Bd ((es.take k).map (·.1))).toArray⟩:=⟨_,rfl⟩
   obtain ⟨L,hL⟩:∃ L:ByteArray,L=⟨(Eo d).toArray⟩:=⟨_,rfl⟩
   have hSs:S.size=(Bd ((es.take k).map (·.1))).length:=by rw [hS];rfl
   have hLs:L.size=(Eo d).length:=by rw [hL];rfl
   have htl:=congrArg List.length htk;rw [List.length_append,List.length_append,List.length_singleton] at htl
   have hST:S++L++⟨#[10]⟩=⟨(Bd ((es.take (k+1)).map (·.1))).toArray⟩:=by
    rw [htk,hS,hL,show (⟨#[10]⟩:ByteArray)=⟨([10]:List UInt8).toArray⟩ from rfl,Ez,Ez,List.append_assoc]
   rw [←hS];rw [←hL] at HL;rw [←hSs] at hlen htl;rw [←hLs] at hll htl;have M1:S.size+L.size≤9223372036854775807:=by omega
   have M2:S.size+L.size+1≤9223372036854775807:=by omega
   have L1:¬9223372036854775807<S.size+L.size:=by omega
   have L2:¬9223372036854775807<S.size+L.size+1:=by omega
   replace hST:=mK hST;replace hEr:=mK hEr;clear hp hdk htk hSs hLs hS hL;by_cases hbig:65536<S.size+L.size+1
   ·have hbig':(65536:Int)<(S.size:Int)+(L.size:Int)+1:=by omega
    have hqq:=mK (fun w' (e:Ext w w')=>hQ.out w' e (.returned (.tuple #[.string ⟨#[]⟩,.int .i64 4])) (by rw [if_neg (by omega)]));clear hmono htl;have tok:Tok 0:=.mk _
    go_wp2_with (first
     | (replace tok:Tok 1:=nxT 0 tok;refine Cw (by rfl) 58 (.tmp 19) rfl b (o+k*11) rfl [.string d.nm,.int .u8 d.kd,.bool p.b1,.slice p.a1 p.n1 p.c1,.bool p.b2,.slice p.a2 p.n2 p.c2,.bool q.b1,.slice q.a1 q.n1 q.c1,.bool q.b2,.slice q.a2 q.n2 q.c2,.int .i64 d.co] _ hr Tryz.underlying58 rfl (by kernel_rfl) ?_)
     | (replace tok:Tok 2:=nxT 1 tok;go_at_call 116;refine HL.out.mono ?_;rintro e w3 ⟨rfl,h3⟩;replace h3:=mK h3))
    go_ret2;exact hqq.out _ ((hE.out.trans hEr.out).trans h3.out)
   ·have hbig':decide ((65536:Int)<(S.size:Int)+(L.size:Int)+1)=false:=decide_eq_false (by omega)
    have hend:=mK (show (Bd ((es.take (k+1)).map (·.1))).length≤65536 by omega);clear hmono htl hbig;have tok:Tok 0:=.mk _
    go_wp2_with (first
     | (replace tok:Tok 1:=nxT 0 tok;refine Cw (by rfl) 58 (.tmp 19) rfl b (o+k*11) rfl [.string d.nm,.int .u8 d.kd,.bool p.b1,.slice p.a1 p.n1 p.c1,.bool p.b2,.slice p.a2 p.n2 p.c2,.bool q.b1,.slice q.a1 q.n1 q.c1,.bool q.b2,.slice q.a2 q.n2 q.c2,.int .i64 d.co] _ hr Tryz.underlying58 rfl (by kernel_rfl) ?_)
     | (replace tok:Tok 2:=nxT 1 tok;go_at_call 116;refine HL.out.mono ?_;rintro e w3 ⟨rfl,h3⟩;replace h3:=mK h3))
    refine ⟨⟨k+1,by omega,by go_num,by rw [hST.out],⟨hend.out⟩,hEr.out.trans h3.out⟩,by simp [intOf];omega⟩
  ·have hke:k=es.length:=by omega
   subst hke;rw [List.take_length] at hlen ⊢;have hqq:=mK (fun w' (e:Ext w w')=>hQ.out w' e (.returned (.tuple #[.string ⟨(Bd (es.map (·.1))).toArray⟩,.int .i64 0])) (by rw [if_pos hlen]));replace hEr:=mK hEr;go_wp2_with fail;go_ret2;exact hqq.out _ (hE.out.trans hEr.out)
end Go.Proofs.YteogdoglboddhaaGreatDoor
namespace Go.Proofs.YteogdoglboddhaaGreatDoor
set_option maxRecDepth 100000
open Go Go.RowKit Go.Proofs
def Aa2 (w:World)(x:Rat)(es:List (PD×Value))(e:Ending)(w':World):Prop:=
 Ext w w'∧(Bn x none (es.map (·.1))=none→e=.returned (.tuple #[.agg #[.string ⟨#[]⟩,.int .u8 0,.bool false,.slice none 0 0,.bool false,.slice none 0 0,.bool false,.slice none 0 0,.bool false,.slice none 0 0,.int .i64 0],.int .i64 11]))∧(∀ d,Bn x none (es.map (·.1))=some d→∃ v,e=.returned (.tuple #[v,.int .i64 0])∧PartR w' v d)
theorem Abg (z:Rat):nf (rabs z)≤nf z:=by
 unfold rabs;split
 ·rw [Afd];exact nR _
 ·exact nR _
inductive BestI (x:Rat) (L:List PD) (k:Nat):Value→Prop where
 | none:Bn x none (L.drop k)=Bn x none L→BestI x L k (.int .i64 (-1))
 | some (j:Nat) (h:j<L.length):Bn x (some L[j]) (L.drop k)=Bn x none L→BestI x L k (.int .i64 j)
theorem Wn {x:Rat}{o:Option PD}{d:PD}{r:List PD}(hl:lensB d=false):Bn x o (d::r)=Bn x o r:=by
 cases o<;>simp [Bn,hl]
theorem Ahw {x:Rat}{d:PD}{r:List PD}(hl:lensB d=true):Bn x none (d::r)=Bn x (some d) r:=by
 simp [Bn,hl]
theorem Ahv {x:Rat}{b d:PD}{r:List PD}(hl:lensB d=true):Bn x (some b) (d::r)=Bn x (some (if Gd x d b then d else b)) r:=by
 simp [Bn,hl]
theorem Adv {x:Rat}{L:List PD}{k:Nat}{v:Value}(h:BestI x L k v)(hk:k<L.length)(hl:lensB L[k]=false):BestI x L (k+1) v:=by
 cases h with
 | none h=>
  rw [List.drop_eq_getElem_cons hk,Wn hl] at h;exact .none h
 | some j hj h=>
  rw [List.drop_eq_getElem_cons hk,Wn hl] at h;exact .some j hj h
theorem Aav {x:Rat}{L:List PD}{k:Nat}(h:Bn x none (L.drop k)=Bn x none L)(hk:k<L.length)(hl:lensB L[k]=true):BestI x L (k+1) (.int .i64 k):=by
 rw [List.drop_eq_getElem_cons hk,Ahw hl] at h;exact .some k hk h
theorem Adw {x:Rat}{L:List PD}{k j:Nat}(hj:j<L.length)(h:Bn x (some L[j]) (L.drop k)=Bn x none L)(hk:k<L.length)(hl:lensB L[k]=true):BestI x L (k+1) (.int .i64 (if Gd x L[k] L[j] then k else j:Nat)):=by
 rw [List.drop_eq_getElem_cons hk,Ahv hl] at h;by_cases hc:Gd x L[k] L[j]=true
 ·rw [if_pos hc] at h ⊢
  exact .some k hk h
 ·rw [if_neg hc] at h ⊢
  exact .some j hj h
theorem Ag8 (pw:FV)(x:Rat)(l:Value)(es:List (PD×Value))(w:World)(h:RefC w l es)(hp0:AnyF w (.agg #[.bool pw.b1,.slice pw.a1 pw.n1 pw.c1,.bool pw.b2,.slice pw.a2 pw.n2 pw.c2]) (some x)) :
  Calls Tryz.prog 25 #[.agg #[.bool false,l],.agg #[.bool pw.b1,.slice pw.a1 pw.n1 pw.c1,.bool pw.b2,.slice pw.a2 pw.n2 pw.c2]] w (Aa2 w x es):=by
 obtain ⟨hp,hx⟩:=hp0.frac;obtain ⟨a,c,rfl,hcc,-⟩:=h.rowL.at';obtain ⟨wb,hwb⟩:=nmE (((w.alloc (.cells #[.bool false,.slice a es.length c] 28)).alloc (.cells #[.bool pw.b1,.slice pw.a1 pw.n1 pw.c1,.bool pw.b2,.slice pw.a2 pw.n2 pw.c2] 54)).alloc (.cells #[.string ⟨#[]⟩,.int .u8 0,.bool false,.slice none 0 0,.bool false,.slice none 0 0,.bool false,.slice none 0 0,.bool false,.slice none 0 0,.int .i64 0] 58));have hE:=aLe3 hwb;have zC:=mK (aL30 hwb);have zP:=mK (aL31 hwb);have zR:=mK (aL32 hwb);have hC:=mK (Pp (.agg #[.bool pw.b1,.slice pw.a1 pw.n1 pw.c1,.bool pw.b2,.slice pw.a2 pw.n2 pw.c2]) (some x) wb (hp0.ext hE));have hP:=mK (fun W (e:Ext wb W)=>hp.ext (hE.trans e));have H:=mK (fun W (e:Ext wb W)=>h.rowL.ext (hE.trans e));have hok:=mK h.ok;have hpt:=mK h.part;have hfew:=h.few;replace hE:=mK hE;replace hwb:=mK hwb;have y0:=Aa zC.out 0;clear h hp hp0 hcc;go_enter Tryz.func25,Tryz.ntmps25;have tok:Tok 0:=.mk _
 go_wp2_with (first
  | (replace tok:Tok 1:=nxT 0 tok;rw [←hwb.out];refine wpList_load_row (by rfl) 54 (.tmp 3) rfl (w.heap.size+1) rfl 54 #[.bool pw.b1,.slice pw.a1 pw.n1 pw.c1,.bool pw.b2,.slice pw.a2 pw.n2 pw.c2] (0,0) _ zP.out Tryz.underlying54 rfl (by kernel_rfl) ?_)
  | (replace tok:Tok 2:=nxT 1 tok;go_at_call 106;refine hC.out.mono ?_;rintro e w2 ⟨rfl,hE2⟩;clear y0;replace hE2:=mK hE2))
 have hst:=mK (BestI.none (x:=x) (L:=es.map (·.1)) (k:=0) (by rw [List.drop_zero]));go_loopw [6,7] (fun t6 t7 wr=>∃ k:Nat,k≤es.length∧t7=.int .i64 k∧BestI x (es.map (·.1)) k t6∧Ext wb wr) (fun _ t7 _=>es.length-(intOf t7).toNat)
 case atStart=>exact ⟨0,Nat.zero_le _,rfl,hst.out,hE2.out⟩
 case round=>
  clear hst;obtain ⟨k,hk,rfl,hb,hEr⟩:=hrel;obtain ⟨w3,rfl⟩:=nmE (wr:World);have yl:=Aa (hEr.blk zC.out) 1;by_cases hlt:k<es.length
  ·have hlt':(k:Int)<(es.length:Int):=by omega
   have hkm:k<(es.map (·.1)).length:=by simpa using hlt
   obtain ⟨b,o,c1,x1,-,p,q,-,hr,hpr⟩:=(H.out w3 hEr).get hlt;simp only [Value.slice.injEq,true_and] at x1;obtain ⟨rfl,rfl⟩:=x1;have hgk:(es.map (·.1))[k]=es[k].1:=by simp
   have hdk:=hok.out _ (List.getElem_mem hlt);by_cases hl:lensB es[k].1=true
   ·have hkd:es[k].1.kd=2:=by simpa [lensB] using hl
    have yk:=show w3.cell? ⟨b,o+k*11+1,none⟩=some (.int .u8 es[k].1.kd) from hr 1 _ rfl
    rw [hkd] at yk;cases hb with
    | none h0=>
     have hb2:=mK (Aav h0 hkm (by rw [hgk];exact hl));replace hEr:=mK hEr;clear h0 hr hpr hgk hdk hl hkd;go_wp2_with fail;refine ⟨⟨k+1,by omega,by go_num,hb2.out,hEr.out⟩,by simp [intOf];omega⟩
    | some j hj h0=>
     have hje:j<es.length:=by simpa using hj
     have hje':(j:Int)<(es.length:Int):=by omega
     have hj0:¬(j:Int)<0:=by omega
     obtain ⟨b2,o2,c2,x2,-,p',q',-,hr',hpr'⟩:=(H.out w3 hEr).get hje;simp only [Value.slice.injEq,true_and,Option.some.injEq,Addr.mk.injEq,and_true] at x2;obtain ⟨⟨rfl,rfl⟩,rfl⟩:=x2;have hgj:(es.map (·.1))[j]=es[j].1:=by simp
     have hdj:=hok.out _ (List.getElem_mem hje);have hb2:=Adw hj h0 hkm (by rw [hgk];exact hl);rw [hgk,hgj] at hb2;replace hb2:=mK hb2;generalize es[j].1=d' at *;generalize es[k].1=d at *;have HRk:=mK (fun W (e:Ext w3 W)=>show W.rangeAt b (o+k*11+2) [.bool p.b1,.slice p.a1 p.n1 p.c1,.bool p.b2,.slice p.a2 p.n2 p.c2] from Fy (Bc hr e) 2 4);have HRj:=mK (fun W (e:Ext w3 W)=>show W.rangeAt b (o+j*11+2) [.bool p'.b1,.slice p'.a1 p'.n1 p'.c1,.bool p'.b2,.slice p'.a2 p'.n2 p'.c2] from Fy (Bc hr' e) 2 4);have HCk:=mK (fun W (e:Ext w3 W)=>show W.cell? ⟨b,o+k*11+10,none⟩=some (.int .i64 d.co) from e.cell (hr 10 _ rfl));have HCj:=mK (fun W (e:Ext w3 W)=>show W.cell? ⟨b,o+j*11+10,none⟩=some (.int .i64 d'.co) from e.cell (hr' 10 _ rfl));have y1:=mK (fun W (e:Ext w3 W)=>show W.cell? ⟨w.heap.size,1,none⟩=some (.slice (some ⟨b,o,none⟩) es.length c) from Aa ((hEr.trans e).blk zC.out) 1);have HPW:=mK (fun W (e:Ext w3 W)=>show W.rangeAt (w.heap.size+1) 0 [.bool pw.b1,.slice pw.a1 pw.n1 pw.c1,.bool pw.b2,.slice pw.a2 pw.n2 pw.c2] from fun j v hv=>by rw [Nat.zero_add,Aa ((hEr.trans e).blk zP.out)];simpa using hv);have KO:=mK (fun W (e:Ext w3 W)=>Aes p pw d.p x W hdk.1 hx (hpr.pq.1.ext e) (hP.out W (hEr.trans e)));have KO':=mK (fun W (e:Ext w3 W)=>Aes p' pw d'.p x W hdj.1 hx (hpr'.pq.1.ext e) (hP.out W (hEr.trans e)));have hn1:nf (rabs (d.p-x))≤67108864:=nT (Abg _) (nT (Gx _ _) (by have:=hdk.1;omega));have hn2:nf (rabs (d'.p-x))≤67108864:=nT (Abg _) (nT (Gx _ _) (by have:=hdj.1;omega));have KC:=mK (fun v1 v2 W (h1:FracR W v1 (rabs (d.p-x))) (h2:FracR W v2 (rabs (d'.p-x)))=>Ai4 v1 v2 _ _ W hn1 hn2 h1 h2);replace hEr:=mK hEr;clear h0 hr hr' hpr hpr' hgk hgj hdk hdj hl hkd hn1 hn2;go_wp2_with fail;apply Ad [.val (.pointer (some ⟨w.heap.size,1,none⟩)),.val (.slice (some ⟨b,o,none⟩) es.length c),.val (.int .i64 k),.val (.pointer (some ⟨b,o+k*11,none⟩)),.val (.pointer (some ⟨b,o+k*11+1,none⟩)),.val (.pointer (some ⟨b,o+k*11+2,none⟩)),.val (.agg #[.bool p.b1,.slice p.a1 p.n1 p.c1,.bool p.b2,.slice p.a2 p.n2 p.c2]),.val (.agg #[.bool pw.b1,.slice pw.a1 pw.n1 pw.c1,.bool pw.b2,.slice pw.a2 pw.n2 pw.c2]),.pred (fun W v=>FracR W v (rabs (d.p-x))),.val (.pointer (some ⟨w.heap.size,1,none⟩)),.val (.slice (some ⟨b,o,none⟩) es.length c),.val (.int .i64 j),.val (.pointer (some ⟨b,o+j*11,none⟩)),.val (.pointer (some ⟨b,o+j*11+1,none⟩)),.val (.pointer (some ⟨b,o+j*11+2,none⟩)),.val (.agg #[.bool p'.b1,.slice p'.a1 p'.n1 p'.c1,.bool p'.b2,.slice p'.a2 p'.n2 p'.c2]),.val (.agg #[.bool pw.b1,.slice pw.a1 pw.n1 pw.c1,.bool pw.b2,.slice pw.a2 pw.n2 pw.c2]),.pred (fun W v=>FracR W v (rabs (d'.p-x))),.val (.int .i64 (cS (offP x d) (offP x d')))] (by kernel_rfl) (stable_vals _ (stable_vals _ (stable_vals _ (stable_vals _ (stable_vals _ (stable_vals _ (stable_vals _ (stable_vals _ (Fo _ (stable_vals _ (stable_vals _ (stable_vals _ (stable_vals _ (stable_vals _ (stable_vals _ (stable_vals _ (stable_vals _ (Fo _ (stable_vals _ (trivial))))))))))))))))))))
     iterate 1 (refine ⟨fun W hW _=>by go_simp<;>first|exact ⟨xR _,rfl⟩|exact xR _,?_⟩)
     refine ⟨fun W hW _=>by have y:=y1.out W hW;go_simp<;>first|exact ⟨xR _,rfl⟩|exact xR _,?_⟩;iterate 4 (refine ⟨fun W hW _=>by go_simp<;>first|exact ⟨xR _,rfl⟩|exact xR _,?_⟩)
     refine ⟨?l1,?_⟩
     case l1=>
      intro W hW hF;have hr:=HRk.out W hW;with_reducible refine Bo ?zhw 54 (.tmp 39) ?zho b (o+k*11+2) ?zhx [.bool p.b1,.slice p.a1 p.n1 p.c1,.bool p.b2,.slice p.a2 p.n2 p.c2] _ hr Tryz.underlying54 ?zhd ?zhi ?zh
      case zhw=>kernel_rfl
      case zho=>rfl
      case zhx=>kernel_rfl
      case zhd=>rfl
      case zhi=>kernel_rfl
      case zh=>exact ⟨xR _,rfl⟩
     refine ⟨?lp41,?_⟩
     case lp41=>
      intro W hW hF;have hr:=HPW.out W hW;with_reducible refine Bo ?zhw 54 (.tmp 3) ?zho (w.heap.size+1) (0) ?zhx [.bool pw.b1,.slice pw.a1 pw.n1 pw.c1,.bool pw.b2,.slice pw.a2 pw.n2 pw.c2] _ hr Tryz.underlying54 ?zhd ?zhi ?zh
      case zhw=>kernel_rfl
      case zho=>rfl
      case zhx=>kernel_rfl
      case zhd=>rfl
      case zhi=>kernel_rfl
      case zh=>exact ⟨xR _,rfl⟩
     refine ⟨fun W hW hF=>by go_simp;exact (KO.out W hW).mono (by rintro e w' ⟨v,rfl,hv,hx⟩;first|exact ⟨v,rfl,hx,hv⟩|exact ⟨v,rfl,hv,hx⟩),fun v1=>?_⟩;iterate 1 (refine ⟨fun W hW _=>by go_simp<;>first|exact ⟨xR _,rfl⟩|exact xR _,?_⟩)
     refine ⟨fun W hW _=>by have y:=y1.out W hW;go_simp<;>first|exact ⟨xR _,rfl⟩|exact xR _,?_⟩;iterate 4 (refine ⟨fun W hW _=>by go_simp<;>first|exact ⟨xR _,rfl⟩|exact xR _,?_⟩)
     refine ⟨?l3,?_⟩
     case l3=>
      intro W hW hF;have hr:=HRj.out W hW;with_reducible refine Bo ?zhw 54 (.tmp 48) ?zho b (o+j*11+2) ?zhx [.bool p'.b1,.slice p'.a1 p'.n1 p'.c1,.bool p'.b2,.slice p'.a2 p'.n2 p'.c2] _ hr Tryz.underlying54 ?zhd ?zhi ?zh
      case zhw=>kernel_rfl
      case zho=>rfl
      case zhx=>kernel_rfl
      case zhd=>rfl
      case zhi=>kernel_rfl
      case zh=>exact ⟨xR _,rfl⟩
     refine ⟨?lp50,?_⟩
     case lp50=>
      intro W hW hF;have hr:=HPW.out W hW;with_reducible refine Bo ?zhw 54 (.tmp 3) ?zho (w.heap.size+1) (0) ?zhx [.bool pw.b1,.slice pw.a1 pw.n1 pw.c1,.bool pw.b2,.slice pw.a2 pw.n2 pw.c2] _ hr Tryz.underlying54 ?zhd ?zhi ?zh
      case zhw=>kernel_rfl
      case zho=>rfl
      case zhx=>kernel_rfl
      case zhd=>rfl
      case zhi=>kernel_rfl
      case zh=>exact ⟨xR _,rfl⟩
     refine ⟨fun W hW hF=>by go_simp;exact (KO'.out W hW).mono (by rintro e w' ⟨v,rfl,hv,hx⟩;first|exact ⟨v,rfl,hx,hv⟩|exact ⟨v,rfl,hv,hx⟩),fun v2=>?_⟩;refine ⟨fun W hW hF=>?cl,?_⟩
     case cl=>
      have h1:=hF.2.1 (by kernel_rfl);have h2:=hF.1 (by kernel_rfl);go_simp;refine (KC.out _ _ W h1 h2).mono ?_;rintro e w' ⟨rfl,hx⟩;first|exact ⟨rfl,hx⟩|exact ⟨hx,rfl⟩
     intro W hW _;replace hEr:=mK (hEr.out.trans hW);replace y1:=mK (fun W' (e:Ext W W')=>y1.out W' (hW.trans e));replace HCk:=mK (fun W' (e:Ext W W')=>HCk.out W' (hW.trans e));replace HCj:=mK (fun W' (e:Ext W W')=>HCj.out W' (hW.trans e));clear hW HRk HRj HPW KO KO' KC;replace hb2:=hb2.out;unfold Gd at hb2;generalize hcs:cS (offP x d) (offP x d')=n at *;have hval:=Agd (offP x d) (offP x d');rw [hcs] at hval;clear hcs;rcases hval with rfl|rfl|rfl
     ·replace hb2:Hid (BestI x (es.map (·.1)) (k+1) (.int .i64 k)):=mK (by simpa using hb2)
      go_simp;go_wp2_with fail;apply Ad [.val (.int .i64 (-1)),.val (.bool true),.val (.bool true),.val undef,.val undef,.val undef,.val undef,.val undef,.val undef,.val undef,.val undef,.val undef,.val undef,.val undef,.val undef,.val undef,.val undef,.val undef,.val undef,.val undef,.val (.bool true)] (by kernel_rfl) (stable_vals _ (stable_vals _ (stable_vals _ (stable_vals _ (stable_vals _ (stable_vals _ (stable_vals _ (stable_vals _ (stable_vals _ (stable_vals _ (stable_vals _ (stable_vals _ (stable_vals _ (stable_vals _ (stable_vals _ (stable_vals _ (stable_vals _ (stable_vals _ (stable_vals _ (stable_vals _ (stable_vals _ (trivial))))))))))))))))))))));iterate 21 (refine ⟨fun W hW _=>by go_simp<;>first|exact ⟨xR _,rfl⟩|exact xR _|(rw [if_neg (by kernel_rfl)];exact ⟨xR _,rfl⟩)|(rw [if_neg (by simp [undef])];exact ⟨xR _,rfl⟩)|(rw [if_neg (by simp [undef])];exact rfl)|simp [undef],?_⟩)
      intro W hW _;replace hEr:=mK (hEr.out.trans hW);clear hW y1 HCk HCj;go_simp;go_wp2_with fail;refine ⟨⟨k+1,by omega,by go_num,hb2.out,hEr.out⟩,by simp [intOf];omega⟩
     ·by_cases hco:d.co<d'.co
      ·replace hb2:Hid (BestI x (es.map (·.1)) (k+1) (.int .i64 k)):=mK (by simpa [hco] using hb2)
       go_simp;go_wp2_with fail;apply Ad [.val (.int .i64 0),.val (.bool false),.val (.bool false),.val (.int .i64 0),.val (.bool true),.val (.bool true),.val (.pointer (some ⟨w.heap.size,1,none⟩)),.val (.slice (some ⟨b,o,none⟩) es.length c),.val (.int .i64 k),.val (.pointer (some ⟨b,o+k*11,none⟩)),.val (.pointer (some ⟨b,o+k*11+10,none⟩)),.val (.int .i64 d.co),.val (.pointer (some ⟨w.heap.size,1,none⟩)),.val (.slice (some ⟨b,o,none⟩) es.length c),.val (.int .i64 j),.val (.pointer (some ⟨b,o+j*11,none⟩)),.val (.pointer (some ⟨b,o+j*11+10,none⟩)),.val (.int .i64 d'.co),.val (.bool true),.val (.bool true),.val (.bool true)] (by kernel_rfl) (stable_vals _ (stable_vals _ (stable_vals _ (stable_vals _ (stable_vals _ (stable_vals _ (stable_vals _ (stable_vals _ (stable_vals _ (stable_vals _ (stable_vals _ (stable_vals _ (stable_vals _ (stable_vals _ (stable_vals _ (stable_vals _ (stable_vals _ (stable_vals _ (stable_vals _ (stable_vals _ (stable_vals _ (trivial))))))))))))))))))))));iterate 7 (refine ⟨fun W hW _=>by go_simp<;>first|exact ⟨xR _,rfl⟩|exact xR _,?_⟩)
       refine ⟨fun W hW _=>by have y:=y1.out W hW;go_simp<;>first|exact ⟨xR _,rfl⟩|exact xR _,?_⟩;iterate 3 (refine ⟨fun W hW _=>by go_simp<;>first|exact ⟨xR _,rfl⟩|exact xR _,?_⟩)
       refine ⟨fun W hW _=>by have y:=HCk.out W hW;go_simp<;>first|exact ⟨xR _,rfl⟩|exact xR _,?_⟩;iterate 1 (refine ⟨fun W hW _=>by go_simp<;>first|exact ⟨xR _,rfl⟩|exact xR _,?_⟩)
       refine ⟨fun W hW _=>by have y:=y1.out W hW;go_simp<;>first|exact ⟨xR _,rfl⟩|exact xR _,?_⟩;iterate 3 (refine ⟨fun W hW _=>by go_simp<;>first|exact ⟨xR _,rfl⟩|exact xR _,?_⟩)
       refine ⟨fun W hW _=>by have y:=HCj.out W hW;go_simp<;>first|exact ⟨xR _,rfl⟩|exact xR _,?_⟩;iterate 3 (refine ⟨fun W hW _=>by go_simp<;>first|exact ⟨xR _,rfl⟩|exact xR _,?_⟩)
       intro W hW _;replace hEr:=mK (hEr.out.trans hW);clear hW y1 HCk HCj;go_simp;go_wp2_with fail;refine ⟨⟨k+1,by omega,by go_num,hb2.out,hEr.out⟩,by simp [intOf];omega⟩
      ·replace hb2:Hid (BestI x (es.map (·.1)) (k+1) (.int .i64 j)):=mK (by simpa [hco] using hb2)
       go_simp;go_wp2_with fail;apply Ad [.val (.int .i64 0),.val (.bool false),.val (.bool false),.val (.int .i64 0),.val (.bool true),.val (.bool true),.val (.pointer (some ⟨w.heap.size,1,none⟩)),.val (.slice (some ⟨b,o,none⟩) es.length c),.val (.int .i64 k),.val (.pointer (some ⟨b,o+k*11,none⟩)),.val (.pointer (some ⟨b,o+k*11+10,none⟩)),.val (.int .i64 d.co),.val (.pointer (some ⟨w.heap.size,1,none⟩)),.val (.slice (some ⟨b,o,none⟩) es.length c),.val (.int .i64 j),.val (.pointer (some ⟨b,o+j*11,none⟩)),.val (.pointer (some ⟨b,o+j*11+10,none⟩)),.val (.int .i64 d'.co),.val (.bool false),.val (.bool false),.val (.bool false)] (by kernel_rfl) (stable_vals _ (stable_vals _ (stable_vals _ (stable_vals _ (stable_vals _ (stable_vals _ (stable_vals _ (stable_vals _ (stable_vals _ (stable_vals _ (stable_vals _ (stable_vals _ (stable_vals _ (stable_vals _ (stable_vals _ (stable_vals _ (stable_vals _ (stable_vals _ (stable_vals _ (stable_vals _ (stable_vals _ (trivial))))))))))))))))))))));iterate 7 (refine ⟨fun W hW _=>by go_simp<;>first|exact ⟨xR _,rfl⟩|exact xR _,?_⟩)
       refine ⟨fun W hW _=>by have y:=y1.out W hW;go_simp<;>first|exact ⟨xR _,rfl⟩|exact xR _,?_⟩;iterate 3 (refine ⟨fun W hW _=>by go_simp<;>first|exact ⟨xR _,rfl⟩|exact xR _,?_⟩)
       refine ⟨fun W hW _=>by have y:=HCk.out W hW;go_simp<;>first|exact ⟨xR _,rfl⟩|exact xR _,?_⟩;iterate 1 (refine ⟨fun W hW _=>by go_simp<;>first|exact ⟨xR _,rfl⟩|exact xR _,?_⟩)
       refine ⟨fun W hW _=>by have y:=y1.out W hW;go_simp<;>first|exact ⟨xR _,rfl⟩|exact xR _,?_⟩;iterate 3 (refine ⟨fun W hW _=>by go_simp<;>first|exact ⟨xR _,rfl⟩|exact xR _,?_⟩)
       refine ⟨fun W hW _=>by have y:=HCj.out W hW;go_simp<;>first|exact ⟨xR _,rfl⟩|exact xR _,?_⟩;iterate 3 (refine ⟨fun W hW _=>by go_simp<;>first|exact ⟨xR _,rfl⟩|exact xR _,?_⟩)
       intro W hW _;replace hEr:=mK (hEr.out.trans hW);clear hW y1 HCk HCj;go_simp;go_wp2_with fail;refine ⟨⟨k+1,by omega,by go_num,hb2.out,hEr.out⟩,by simp [intOf];omega⟩
     ·replace hb2:Hid (BestI x (es.map (·.1)) (k+1) (.int .i64 j)):=mK (by simpa using hb2)
      go_simp;go_wp2_with fail;apply Ad [.val (.int .i64 1),.val (.bool false),.val (.bool false),.val (.int .i64 1),.val (.bool false),.val (.bool false),.val undef,.val undef,.val undef,.val undef,.val undef,.val undef,.val undef,.val undef,.val undef,.val undef,.val undef,.val undef,.val undef,.val (.bool false),.val (.bool false)] (by kernel_rfl) (stable_vals _ (stable_vals _ (stable_vals _ (stable_vals _ (stable_vals _ (stable_vals _ (stable_vals _ (stable_vals _ (stable_vals _ (stable_vals _ (stable_vals _ (stable_vals _ (stable_vals _ (stable_vals _ (stable_vals _ (stable_vals _ (stable_vals _ (stable_vals _ (stable_vals _ (stable_vals _ (stable_vals _ (trivial))))))))))))))))))))));iterate 21 (refine ⟨fun W hW _=>by go_simp<;>first|exact ⟨xR _,rfl⟩|exact xR _|(rw [if_neg (by kernel_rfl)];exact ⟨xR _,rfl⟩)|(rw [if_neg (by simp [undef])];exact ⟨xR _,rfl⟩)|(rw [if_neg (by simp [undef])];exact rfl)|simp [undef],?_⟩)
      intro W hW _;replace hEr:=mK (hEr.out.trans hW);clear hW y1 HCk HCj;go_simp;go_wp2_with fail;refine ⟨⟨k+1,by omega,by go_num,hb2.out,hEr.out⟩,by simp [intOf];omega⟩
   ·have hkd:(es[k].1.kd==2)=false:=by simpa [lensB] using hl
    have hb2:=mK (Adv hb hkm (by rw [hgk];simpa using hl));have yk:=show w3.cell? ⟨b,o+k*11+1,none⟩=some (.int .u8 es[k].1.kd) from hr 1 _ rfl
    generalize es[k].1=d at *;replace hEr:=mK hEr;clear hb hr hpr hgk hdk hl;go_wp2_with fail;refine ⟨⟨k+1,by omega,by go_num,hb2.out,hEr.out⟩,by simp [intOf];omega⟩
  ·have hke:k=es.length:=by omega
   subst hke;have hdr:(es.map (·.1)).drop es.length=[]:=List.drop_eq_nil_of_le (by simp);cases hb with
   | none h0=>
    rw [hdr] at h0;have hq:=mK (fun w' (e:Ext w w')=>(show Aa2 w x es (.returned (.tuple #[.agg #[.string ⟨#[]⟩,.int .u8 0,.bool false,.slice none 0 0,.bool false,.slice none 0 0,.bool false,.slice none 0 0,.bool false,.slice none 0 0,.int .i64 0],.int .i64 11])) w' from ⟨e,fun _=>rfl,fun d hd=>by rw [←h0] at hd;cases hd⟩));have zR3:=mK (hEr.blk zR.out);replace hEr:=mK hEr;clear h0 hdr;have tok:Tok 0:=.mk _;go_wp2_with (replace tok:Tok 1:=nxT 0 tok;refine wpList_store_row rfl 58 (.tmp 4) (.tmp 77) rfl (w.heap.size+2) #[.string ⟨#[]⟩,.int .u8 0,.bool false,.slice none 0 0,.bool false,.slice none 0 0,.bool false,.slice none 0 0,.bool false,.slice none 0 0,.int .i64 0] rfl rfl 58 _ zR3.out (by kernel_rfl) rfl (by kernel_rfl) ?_);refine bodyPost_ret (Ae rfl _ _ (w.heap.size+2) 58 #[.string ⟨#[]⟩,.int .u8 0,.bool false,.slice none 0 0,.bool false,.slice none 0 0,.bool false,.slice none 0 0,.bool false,.slice none 0 0,.int .i64 0] _ _ rfl rfl (setRow_heap _ _ _ _ _ _ zR3.out) Tryz.underlying58 rfl (by kernel_rfl)) rfl ?_;exact hq.out _ ((hE.out.trans hEr.out).row (by omega) _)
   | some j hj h0=>
    rw [hdr] at h0;have hje:j<es.length:=by simpa using hj
    have hgj:(es.map (·.1))[j]=es[j].1:=by simp
    obtain ⟨b,o,c1,x1,-,p,q,ev,hr,-⟩:=(H.out w3 hEr).get hje;have hpr:=hpt.out _ (List.getElem_mem hje);rw [ev] at hpr;clear ev;simp only [Value.slice.injEq,true_and] at x1;obtain ⟨rfl,rfl⟩:=x1;rw [hgj] at h0;have hq:=mK (fun w' (e:Ext w w') (hp':PartR w' (.agg #[.string es[j].1.nm,.int .u8 es[j].1.kd,.bool p.b1,.slice p.a1 p.n1 p.c1,.bool p.b2,.slice p.a2 p.n2 p.c2,.bool q.b1,.slice q.a1 q.n1 q.c1,.bool q.b2,.slice q.a2 q.n2 q.c2,.int .i64 es[j].1.co]) es[j].1)=>(show Aa2 w x es (.returned (.tuple #[.agg #[.string es[j].1.nm,.int .u8 es[j].1.kd,.bool p.b1,.slice p.a1 p.n1 p.c1,.bool p.b2,.slice p.a2 p.n2 p.c2,.bool q.b1,.slice q.a1 q.n1 q.c1,.bool q.b2,.slice q.a2 q.n2 q.c2,.int .i64 es[j].1.co],.int .i64 0])) w' from ⟨e,fun hd=>(by rw [←h0] at hd;cases hd),fun d hd=>(by rw [←h0] at hd;cases hd;exact ⟨_,rfl,hp'⟩)⟩));have zR3:=mK (hEr.blk zR.out);have hje':(j:Int)<(es.length:Int):=by omega
    have hj0:¬(j:Int)<0:=by omega
    replace hEr:=mK hEr;generalize es[j].1=d at *;replace hpr:=mK hpr;clear h0 hdr hgj;have tok:Tok 0:=.mk _
    go_wp2_with (first
     | (replace tok:Tok 1:=nxT 0 tok;refine Cw (by rfl) 58 (.tmp 81) rfl b (o+j*11) rfl [.string d.nm,.int .u8 d.kd,.bool p.b1,.slice p.a1 p.n1 p.c1,.bool p.b2,.slice p.a2 p.n2 p.c2,.bool q.b1,.slice q.a1 q.n1 q.c1,.bool q.b2,.slice q.a2 q.n2 q.c2,.int .i64 d.co] _ hr Tryz.underlying58 rfl (by kernel_rfl) ?_)
     | (replace tok:Tok 2:=nxT 1 tok;refine wpList_store_row rfl 58 (.tmp 4) (.tmp 82) rfl (w.heap.size+2) #[.string d.nm,.int .u8 d.kd,.bool p.b1,.slice p.a1 p.n1 p.c1,.bool p.b2,.slice p.a2 p.n2 p.c2,.bool q.b1,.slice q.a1 q.n1 q.c1,.bool q.b2,.slice q.a2 q.n2 q.c2,.int .i64 d.co] rfl rfl 58 _ zR3.out (by kernel_rfl) rfl (by kernel_rfl) ?_))
    refine bodyPost_ret (Ae rfl _ _ (w.heap.size+2) 58 #[.string d.nm,.int .u8 d.kd,.bool p.b1,.slice p.a1 p.n1 p.c1,.bool p.b2,.slice p.a2 p.n2 p.c2,.bool q.b1,.slice q.a1 q.n1 q.c1,.bool q.b2,.slice q.a2 q.n2 q.c2,.int .i64 d.co] _ _ rfl rfl (setRow_heap _ _ _ _ _ _ zR3.out) Tryz.underlying58 rfl (by kernel_rfl)) rfl ?_;exact hq.out _ ((hE.out.trans hEr.out).row (by omega) _) (hpr.out.ext ((hE.out.trans hEr.out).row (by omega) _))
theorem Ajt {a b c:Rat}(h1:a<b)(h2:b<c):a<c:=by grind
theorem Age (a b:Rat):(cS a b<0↔a<b)∧(cS a b=0↔a=b):=by
 have h1:=Rat.lt_iff (a:=a) (b:=b);have h2:=Rat.lt_iff (a:=b) (b:=a)
 have key:∀ P Q:Int,((P-Q).sign<0↔P<Q)∧((P-Q).sign=0↔P=Q):=by
  intro P Q;rcases Int.lt_trichotomy (P-Q) 0 with h|h|h
  ·rw [Int.sign_eq_neg_one_of_neg h]
   constructor<;>constructor<;>intro _<;>omega
  ·rw [h]
   constructor<;>constructor<;>intro h3<;>first|omega|rfl|(simp at h3)
  ·rw [Int.sign_eq_one_of_pos h]
   constructor<;>constructor<;>intro _<;>omega
 obtain ⟨k1,k2⟩:=key (a.num*b.den) (b.num*a.den);unfold cS;refine ⟨k1.trans h1.symm,k2.trans ⟨fun h=>?_,fun h=>by rw [h]⟩⟩;refine Rat.le_antisymm (Rat.not_lt.1 fun h3=>?_) (Rat.not_lt.1 fun h3=>?_)
 ·have:=h2.1 h3
  omega
 ·have:=h1.1 h3
  omega
def worse (x:Rat)(d m:PD):Prop:=offP x m<offP x d∨(offP x m=offP x d∧(m.co<d.co∨(m.co=d.co∧bytesBefore d.nm.data.toList m.nm.data.toList=false)))
theorem Zl {a b c:List UInt8}(h1:bytesBefore a b=false)(h2:bytesBefore b c=false):bytesBefore a c=false:=by
 cases h:bytesBefore a c with
 | false=>rfl
 | true=>
  have hac:=Ej _ _ h;by_cases e:a=b
  ·rw [e] at h
   rw [h] at h2;cases h2
  ·rcases WideAt.bytes_total a b e with h3|h3
   ·rw [h3] at h1
    cases h1
   ·have hbc:=List.lt_trans (Ej _ _ h3) hac
    by_cases e2:b=c
    ·rw [e2] at hbc
     exact absurd hbc (List.lt_irrefl _)
    ·rcases WideAt.bytes_total b c e2 with h4|h4
     ·rw [h4] at h2
      cases h2
     ·exact absurd (List.lt_trans hbc (Ej _ _ h4)) (List.lt_irrefl _)
theorem Yk (x:Rat)(d:PD):worse x d d:=.inr ⟨rfl,.inr ⟨rfl,WideAt.bytes_irrefl _⟩⟩
theorem Ni {x:Rat}{a b c:PD}(h1:worse x a b)(h2:worse x b c):worse x a c:=by
 unfold worse at *;generalize offP x a=p at *;generalize offP x b=q at *;generalize offP x c=r at *;rcases h1 with h1|⟨h1,h1'⟩
 ·rcases h2 with h2|⟨h2,_⟩
  ·exact .inl (Ajt h2 h1)
  ·exact .inl (h2 ▸ h1)
 ·rcases h2 with h2|⟨h2,h2'⟩
  ·exact .inl (h1 ▸ h2)
  ·refine .inr ⟨h2.trans h1,?_⟩
   rcases h1' with k1|⟨k1,k1'⟩
   ·rcases h2' with k2|⟨k2,_⟩
    ·exact .inl (by omega)
    ·exact .inl (by omega)
   ·rcases h2' with k2|⟨k2,k2'⟩
    ·exact .inl (by omega)
    ·exact .inr ⟨by omega,Zl k1' k2'⟩
theorem Zq {x:Rat}{d b:PD}(h:Gd x d b=true):worse x b d:=by
 unfold Gd at h;simp only [Bool.or_eq_true,decide_eq_true_eq,Bool.and_eq_true] at h;obtain ⟨k1,k2⟩:=Age (offP x d) (offP x b);rcases h with h|⟨h,hc⟩
 ·exact .inl (k1.1 h)
 ·exact .inr ⟨k2.1 h,.inl hc⟩
theorem Pt {x:Rat}{d b:PD}(hb:bef b d=true)(h:¬Gd x d b=true):worse x d b:=by
 unfold Gd at h;simp only [Bool.or_eq_true,decide_eq_true_eq,Bool.and_eq_true,not_or] at h;obtain ⟨k1,k2⟩:=Age (offP x d) (offP x b)
 have hn:bytesBefore d.nm.data.toList b.nm.data.toList=false:=by
  cases hq:bytesBefore d.nm.data.toList b.nm.data.toList with
  | false=>rfl
  | true=>exact absurd (List.lt_trans (Ej _ _ hb) (Ej _ _ hq)) (List.lt_irrefl _)
 have h1:offP x b≤offP x d:=Rat.not_lt.1 fun h3=>h.1 (k1.2 h3);by_cases he:offP x b=offP x d
 ·refine .inr ⟨he,?_⟩
  have h2:¬d.co<b.co:=fun h3=>h.2 ⟨k2.2 he.symm,h3⟩;by_cases hc:b.co=d.co
  ·exact .inr ⟨hc,hn⟩
  ·exact .inl (by omega)
 ·exact .inl (Rat.lt_of_le_of_ne h1 he)
theorem Fp (x:Rat):∀ (l:List PD) (o:Option PD) (m:PD),Bn x o l=some m→l.Pairwise (fun a b=>bef a b=true)→(∀ b,o=some b→lensB b=true∧∀ d∈l,bef b d=true) →
  lensB m=true∧(m∈l∨o=some m)∧(∀ d∈l,lensB d=true→worse x d m)∧(∀ b,o=some b→worse x b m)
 | [],o,m,h,_,ho=>by
  have h:o=some m:=h
  exact ⟨(ho m h).1,.inr h,by simp,fun b hb=>by rw [h] at hb;cases hb;exact Yk x m⟩
 | d::r,o,m,h,hp,ho=>by
  obtain ⟨h3,h4⟩:=List.pairwise_cons.1 hp
  unfold Bn at h
  by_cases hl:lensB d=true
  ·rw [if_pos hl] at h
   cases o with
   | none=>
    obtain ⟨a1,a2,a3,a4⟩:=Fp x r (some d) m h h4 (fun b hb=>by cases hb;exact ⟨hl,h3⟩)
    refine ⟨a1,.inl ?_,fun e he hle=>?_,fun b hb=>by cases hb⟩
    ·rcases a2 with a2|a2
     ·exact List.mem_cons_of_mem _ a2
     ·cases a2;exact List.mem_cons_self ..
    ·rcases List.mem_cons.1 he with rfl|he
     ·exact a4 _ rfl
     ·exact a3 e he hle
   | some b=>
    obtain ⟨hbl,hbb⟩:=ho b rfl
    have h:Bn x (some (if Gd x d b then d else b)) r=some m:=h
    by_cases hq:Gd x d b=true
    ·rw [if_pos hq] at h
     obtain ⟨a1,a2,a3,a4⟩:=Fp x r (some d) m h h4 (fun b hb=>by cases hb;exact ⟨hl,h3⟩)
     refine ⟨a1,.inl ?_,fun e he hle=>?_,fun b' hb'=>?_⟩
     ·rcases a2 with a2|a2
      ·exact List.mem_cons_of_mem _ a2
      ·cases a2;exact List.mem_cons_self ..
     ·rcases List.mem_cons.1 he with rfl|he
      ·exact a4 _ rfl
      ·exact a3 e he hle
     ·cases hb'
      exact Ni (Zq hq) (a4 _ rfl)
    ·rw [if_neg hq] at h
     obtain ⟨a1,a2,a3,a4⟩:=Fp x r (some b) m h h4 (fun b' hb'=>by cases hb';exact ⟨hbl,fun e he=>hbb e (List.mem_cons_of_mem _ he)⟩)
     refine ⟨a1,?_,fun e he hle=>?_,fun b' hb'=>?_⟩
     ·rcases a2 with a2|a2
      ·exact .inl (List.mem_cons_of_mem _ a2)
      ·exact .inr a2
     ·rcases List.mem_cons.1 he with rfl|he
      ·exact Ni (Pt (hbb _ (List.mem_cons_self ..)) hq) (a4 _ rfl)
      ·exact a3 e he hle
     ·cases hb'
      exact a4 _ rfl
  ·rw [if_neg hl] at h
   obtain ⟨a1,a2,a3,a4⟩:=Fp x r o m h h4 (fun b hb=>⟨(ho b hb).1,fun e he=>(ho b hb).2 e (List.mem_cons_of_mem _ he)⟩)
   refine ⟨a1,?_,fun e he hle=>?_,a4⟩
   ·rcases a2 with a2|a2
    ·exact .inl (List.mem_cons_of_mem _ a2)
    ·exact .inr a2
   ·rcases List.mem_cons.1 he with rfl|he
    ·exact absurd hle hl
    ·exact a3 e he hle
end Go.Proofs.YteogdoglboddhaaGreatDoor
