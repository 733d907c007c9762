/-
  exact.Digits: the text of a whole number. ratio.Digits: the text of a fraction. A strings.Builder whose buffer lies above a bound, its struct below; a kind's word; a part's line. The catalogue's Put, where it lets a part in. The reference's Put, where it lets a part in. The reference's Put, where it lets the first part in. The reference's Put, where it refuses a part: printed by tools/gen_rput.py. The reference's Drop, where the name is there.
-/
import Derived.Test.YteogdoglboddhaaGreatDoorPAJ
import Derived.Test.YteogdoglboddhaaGreatDoorPAC
import Derived.Test.YteogdoglboddhaaGreatDoorPAB
import Derived.Maps.AppendAt
import Derived.LoopN
import Derived.Test.YteogdoglboddhaaGreatDoorPAD
import Derived.Test.YteogdoglboddhaaGreatDoorPAI
import Derived.Test.YteogdoglboddhaaGreatDoorPAG
set_option maxHeartbeats 6400000
namespace Go.Proofs.YteogdoglboddhaaGreatDoor
set_option maxRecDepth 100000
open Go Go.RowKit Go.Proofs Go.Lib
theorem Cx {w w':World}{nm:String}{k:IntKind}{zs:List Int}(h:Lib.TabIs Tryz.prog w nm k zs)(e:Ext w w'):Lib.TabIs Tryz.prog w' nm k zs:=by
 unfold Lib.TabIs World.var? at *;cases hg:Tryz.prog.globalNamed nm with
 | none=>rw [hg] at h;cases h
 | some g=>
  rw [hg] at h;simp only [Option.bind_some] at h ⊢;cases hb:w.heap[g]? with
  | none=>rw [hb] at h;cases h
  | some o=>rw [e.blk hb];rw [hb] at h;exact h
theorem Zy:(Tryz.prog.info? 9).map (fun i=>(i.zero,i.size,i.bytes))=some (some (.string ⟨#[]⟩),1,16):=by kernel_rfl
abbrev Tab10 (w:World):Prop:=Lib.TabIs Tryz.prog w "internal/strconv.uint64pow10" .u64 Lib.pow10Tab
theorem Zx (n:Nat)(w:World)(hn:n<4294967296)(ht:Tab10 w) :
  Calls Tryz.prog 112 #[.int .i64 n] w fun e w'=>e=.returned (.string ⟨(decDigits n).toArray⟩)∧Ext w w':=by
 refine (Tryz.strconv_Itoa n (by omega) (by omega) w ht).mono fun e w' h=>?_;obtain ⟨rfl,k,os,rfl⟩:=h;refine ⟨by unfold itoa;rw [if_neg (by omega)];rfl,?_⟩;exact ⟨rfl,rfl,rfl,by simp [Go.Sort.grow,World.drewN],fun j hj=>by simp [Go.Sort.grow,World.drewN,Array.getElem?_append,hj]⟩
def Aby (w:World)(base:Nat)(v:Value)(ss:List (List UInt8)):Prop:=w.ownsRow base 9 1 v ss.length (ss.map fun s=>.string ⟨s.toArray⟩)
def Dig1 (w0:World)(base X k:Nat)(v3 v4:Value)(wr:World):Prop:=
 ∃ ps:List Nat,X=val9 ps+1000000000 ^ ps.length*k∧(∀ p∈ps,p<1000000000)∧(k=0→ps≠[]→0<ps.getLastD 0)∧Aby wr base v3 (ps.map decDigits)∧MagO wr base v4 (lim k) ∧
  (∀ g,v4.ownBlock=some g→v3.ownBlock≠some g)∧(lim k).length≤65536∧ps.length≤131073∧Ext w0 wr
theorem Ca {w wr w5:World}(h:Ext w wr)(hb:Below w.heap.size wr w5):Ext w w5:=by
 obtain ⟨a1,a2,a3,a4,a5⟩:=h;exact ⟨hb.os.trans a1,hb.tape.trans a2,hb.output.trans a3,nT a4 hb.size,fun j hj=>(hb.block j hj).trans (a5 j hj)⟩
theorem Oh {w:World}{b o:Nat}{ps:List Nat}(h:Row w (some ⟨b,o,none⟩) ((ps.map decDigits).map fun s=>Value.string ⟨s.toArray⟩))(j:Nat)(hj:j<ps.length) :
  w.cell? ⟨b,o+j,none⟩=some (.string ⟨(decDigits (ps.getD j 0)).toArray⟩):=by
 obtain ⟨b',o',e,hc⟩:=h;have e:=e (by intro e;simp at e;simp [e] at hj);cases e;rw [hc j (by simpa using hj)];congr 1;rw [List.getD_eq_getElem?_getD,List.getD_eq_getElem?_getD];simp [hj]
theorem Hk {p:Nat}(hp:p<1000000000):nDigits p≤9:=by
 rcases Nat.lt_or_ge 9 (nDigits p) with h|h
 ·rcases Nat.eq_zero_or_pos p with h0|h0
  ·subst h0
   rw [nDigits_small (by omega)] at h;omega
  ·have h1:=Dv p h0
   have h2:10 ^ 9≤10 ^ (nDigits p-1):=Nat.pow_le_pow_right (by omega) (by omega);omega
 ·exact h
theorem Fe (p:Nat):(decDigits p).length=nDigits p:=by rw [decDigits_eq];simp
theorem Ou:∀ ps:List Nat,(∀ p∈ps,p<1000000000)→(txt9 ps).length≤9*ps.length
 | [],_=>by simp [txt9]
 | [p],h=>by
  have:=Hk (h p (by simp))
  rw [txt9,Fe]
  simpa using this
 | p::q::r,h=>by
  have ih:=Ou (q::r) (fun x hx=>h x (by simp [hx]))
  rw [txt9,List.length_append]
  have:(nine p).length=9:=by simp [nine]
  simp only [List.length_cons] at ih ⊢
  omega
theorem Kt (l:List UInt8):(⟨l.toArray⟩:ByteArray).size=l.length:=by simp [ByteArray.size]
theorem zeros9 (n:Nat)(hn:n≤9):Lib.strCells ((⟨#[48,48,48,48,48,48,48,48,48]⟩:ByteArray).extract n 9)=Lib.byteCells (List.replicate (9-n) 48):=by
 have:n=0∨n=1∨n=2∨n=3∨n=4∨n=5∨n=6∨n=7∨n=8∨n=9:=by omega
 rcases this with rfl|rfl|rfl|rfl|rfl|rfl|rfl|rfl|rfl|rfl<;>rfl
def Dig2 (w3:World)(sgn:List UInt8)(ps:List Nat)(k:Nat)(v6:Value)(wr:World):Prop:=
 v6=.int .i64 ((k:Int)-1)∧k≤ps.length∧Lib.IsBuilder 117 5 w3.heap.size w3.heap.size (Lib.byteCells (sgn++txt9 (ps.drop k))) wr∧Ext w3 wr
theorem Nr {X N k m:Nat}{a:Nat}(h:X=a+1000000000 ^ m*k)(hk:0<k)(hX:X<2 ^ (32*N)):m≤2*N:=by
 have h1:2 ^ (29*m)≤1000000000 ^ m:=by
  rw [Nat.pow_mul];exact Nat.pow_le_pow_left (by decide) m
 have h2:1000000000 ^ m≤X:=by
  rw [h];exact nT (Nat.le_mul_of_pos_right _ hk) (Nat.le_add_left _ _)
 have h3:2 ^ (29*m)<2 ^ (32*N):=Nat.lt_of_le_of_lt (nT h1 h2) hX;have:=(Nat.pow_lt_pow_iff_right (by decide:1<2)).1 h3;omega
theorem Xn (v:Value)(X:Int)(w:World)(hX:nl X≤65536)(h:IntR w v X)(ht:Tab10 w) :
  Calls Tryz.prog 183 #[v] w fun e w'=>e=.returned (.string ⟨(itoa X).toArray⟩)∧Ext w w':=by
 obtain ⟨i0,hi,hz0,hz1,hz2⟩:=info_parts Zy;obtain ⟨s,rfl,a,c,rfl,hcap,hrow⟩:=h;obtain ⟨bx,hbx⟩:=nmE (decide (X<0));rw [←hbx];obtain ⟨w1,hw1⟩:=nmE (w.alloc (.cells #[.bool bx,.slice a (lim X.natAbs).length c] 52));have hE1:=aLe1 hw1;have z0:=aL10 hw1;have hlen:(lim X.natAbs).length≤65536:=hX;have CL:=mK (Ux a (lim X.natAbs) c w1 (by omega) (hrow.ext hE1))
 have hXb:X.natAbs<2 ^ (32*(lim X.natAbs).length):=by
  have:=Cj (Ap X.natAbs);rw [Aj,show (4294967296:Nat)=2 ^ 32 from rfl,←Nat.pow_mul] at this;exact this
 have HT:=mK (fun W (e:Ext w W)=>Cx ht e);replace hbx:=mK hbx;replace hw1:=mK hw1;replace z0:=mK z0;replace hE1:=mK hE1;replace hXb:=mK hXb;clear hrow hcap ht hX;generalize hXX:X.natAbs=N at *;replace hXX:=mK hXX;replace hlen:=mK hlen;go_enter Tryz.func183,Tryz.ntmps183;go_wp2_with (go_at_call 224;rw [←hw1.out];refine CL.out.mono ?_;rintro e w2 ⟨v4,rfl,hv4,hx⟩;replace hv4:=mK hv4;replace hx:=mK hx);have st:Hid (Dig1 w1 w1.heap.size N N (.slice none 0 0) v4 w2):=⟨[],by simp [val9],by simp,fun _ h=>absurd rfl h,World.ownsRow_nil _ _ _ _,hv4.out,(fun g _ e=>by cases e),hlen.out,by simp,hx.out⟩
 clear hv4 hx CL;go_loopg [3,4] N (fun k v3 v4 wr=>Dig1 w1 w1.heap.size N k v3 v4 wr)
 case atStart=>exact st.out
 case round=>
  clear st;obtain ⟨ps,hsum,hps,hlast,h3,h4,hne,hl,hpn,hEr⟩:=hrel;obtain ⟨w3,rfl⟩:=nmE (wr:World);by_cases hk0:gk=0
  ·subst hk0
   have hv:N=val9 ps:=by rw [hsum];simp
   obtain ⟨a4,c4,rfl⟩:∃ a4 c4,u4=.slice a4 0 c4:=by
    rcases h4.2 with ⟨e,_⟩|⟨g,cap,cur,e,_⟩
    ·exact ⟨_,_,e⟩
    ·exact ⟨_,_,by rw [e,Al];rfl⟩
   obtain ⟨a3,c3,rfl⟩:∃ a3 c3,u3=.slice a3 ps.length c3:=by
    rcases h3.2 with ⟨e,h⟩|⟨g,cap,cur,e,_⟩
    ·refine ⟨none,0,?_⟩
     rw [e];have:ps.length=0:=by simpa using h
     rw [this]
    ·exact ⟨some ⟨g,0,none⟩,cap,by rw [e,List.length_map]⟩
   obtain ⟨hc3,hr3⟩:ps.length≤c3∧Row w3 a3 ((ps.map decDigits).map fun s=>Value.string ⟨s.toArray⟩):=by
    obtain ⟨_,_,e3,hc3,hr3⟩:=Bz h3;rw [List.length_map] at e3 hc3;cases e3;exact ⟨hc3,hr3⟩
   replace hr3:=mK hr3;replace hlast:=mK hlast;replace hpn:=mK hpn;replace hps:=mK hps;replace hEr:=mK hEr;replace hv:=mK hv;clear h3 h4 hne hl hsum;by_cases hp0:ps=[]
   ·subst hp0
    go_wp2_with fail
    have hX0:X=0:=by
     have h1:=hXX.out;have h2:=hv.out;simp [val9] at h2;omega
    subst hX0
    have h48:itoa 0=[48]:=by
     unfold itoa;rw [if_neg (by omega),show ((0:Int).toNat)=0 from rfl,decDigits_eq,nDigits_small (by omega)];rfl
    rw [h48];exact ⟨rfl,.string ⟨#[48]⟩,by simp [results],rfl,hE1.out.trans hEr.out⟩
   ·have hpl:0<ps.length:=List.length_pos_iff.2 hp0
    obtain ⟨b3,o3,rfl⟩:∃ b o,a3=some ⟨b,o,none⟩:=by
     obtain ⟨b,o,e,_⟩:=hr3.out;exact ⟨b,o,e (by simpa using hp0)⟩
    have c0:∀ o,(w3.alloc o).cell? ⟨w.heap.size,0,none⟩=some (.bool bx):=fun o=>by rw [Lib.cell_of_heap (((xR w3).al o).blk (hEr.out.blk z0.out))];rfl
    generalize hln:ps.length=ln at *;replace hln:=mK hln;have hB:=mK (Lib.fresh_isBuilder 117 5 w3)
    have hwr:IntKind.i64.wrap ((ln:Int)-1)=(ln:Int)-1:=by
     have:=hpn.out;have:=hln.out;rw [IntKind.wrap_i64];omega
    obtain ⟨wb,hwb⟩:=nmE (w3.alloc (.cells #[.pointer none,.slice none 0 0] 117));cases bx
    ·go_wp2_with fail
     obtain ⟨sgn,hsg⟩:=nmE ([]:List UInt8)
     have hit:sgn++txt9 ps=itoa X:=by
      have h1:=hbx.out;have h2:=hXX.out;rw [hsg,Gt ps hp0 hps.out (.inr (hlast.out trivial hp0)),←hv.out];unfold itoa;rw [if_neg (by simpa using h1),List.nil_append,←h2,show X.natAbs=X.toNat from (by have:¬X<0:=(by simpa using h1);omega)]
     have hit0:sgn++txt9 ps≠[]:=by
      rw [hsg,Gt ps hp0 hps.out (.inr (hlast.out trivial hp0)),decDigits_eq];intro e;have:=congrArg List.length e;simp at this;have:=nDigits_pos (val9 ps);omega
     replace hit:=mK hit;replace hit0:=mK hit0;have st:Hid (Dig2 w3 sgn ps ln (.int .i64 ((ln:Int)-1)) (w3.alloc (.cells #[.pointer none,.slice none 0 0] 117))):=⟨rfl,by rw [hln.out];exact nR _,by rw [hsg,←hln.out,List.drop_length];exact hB.out,(xR w3).al _⟩
     replace hsg:=mK hsg;go_loopg [6] ln (fun k v6 wr=>Dig2 w3 sgn ps k v6 wr)
     case atStart=>exact st.out
     case round=>
      obtain ⟨e6,hk,hb,hx⟩:=hrel;clear st c0 hB;by_cases hk0:gk=0
      ·subst hk0
       subst e6;rw [List.drop_zero] at hb;have BS:=mK (Tryz.Builder_String w3.heap.size w3.heap.size _ wr hb hit0.out);go_wp2_with (go_at_call 115;refine BS.out.mono ?_;rintro e w5 ⟨rfl,hB5⟩);rw [hit.out];exact ⟨rfl,.string ⟨(itoa X).toArray⟩,by simp [results],rfl,(hE1.out.trans hEr.out).trans (Ca hx hB5)⟩
      ·obtain ⟨i,rfl⟩:∃ i,gk=i+1:=⟨gk-1,by omega⟩
       rw [show ((i+1:Nat):Int)-1=(i:Int) by omega] at e6;subst e6;have hrw:=hr3.out.ext hx;have hci:=Oh hrw i hk;have hip:i<ln:=by have:=hln.out;omega
       obtain ⟨p,hp⟩:=nmE (ps.getD i 0);rw [←hp] at hci
       have hdr:ps.drop i=p::ps.drop (i+1):=by
        rw [hp,List.drop_eq_getElem_cons hk,List.getD_eq_getElem?_getD,List.getElem?_eq_getElem hk];rfl
       have hp9:p<1000000000:=hps.out p (List.mem_of_mem_drop (i:=i) (by rw [hdr];simp));have hn9:=Hk hp9;have htl:=Ou (ps.drop (i+1)) (fun x hx=>hps.out x (List.mem_of_mem_drop hx))
       have hwi:IntKind.i64.wrap ((i:Int)-1)=(i:Int)-1:=by
        have:=hpn.out;have:=hln.out;rw [IntKind.wrap_i64];omega
       have hsl:sgn.length≤1:=by rw [hsg.out];simp
       have hbl:(Lib.byteCells (sgn++txt9 (ps.drop (i+1)))).length≤2000000:=by
        have:=hpn.out;have:=hln.out;rw [Lib.byteCells_length,List.length_append];simp only [List.length_drop] at htl;omega
       have hxs:=mK hx.size;replace hp:=mK hp;replace hdr:=mK hdr;replace hb:=mK hb;replace hbl:=mK hbl;clear htl hsl;by_cases hi1:i+1=ln
       ·have d1:¬((i:Int)<(ln:Int)-1):=by omega
        go_wp2_with (go_at_call 111;refine (Hc w3.heap.size w3.heap.size _ ⟨(decDigits p).toArray⟩ _ hb.out (by have:=hbl.out;rw [Kt,Fe];omega) hxs.out).mono ?_;rintro e w6 ⟨rfl,hb6,hB6⟩);go_roundg i
        case measure=>omega
        case rel=>
         refine ⟨rfl,by omega,.inr ?_,Ca hx hB6⟩;have he:ps.drop (i+1)=[]:=List.drop_eq_nil_of_le (by have:=hln.out;omega);rw [hdr.out,he,txt9,Lib.byteCells_append];rw [he,txt9,List.append_nil] at hb6;exact hb6
       ·have d1:(i:Int)<(ln:Int)-1:=by omega
        have hd9:(decDigits p).length≤9:=by rw [Fe];exact hn9
        have hz9:=mK (zeros9 _ hd9);have hzs:=mK (show ((⟨#[48,48,48,48,48,48,48,48,48]⟩:ByteArray).extract (decDigits p).length 9).size≤9 by rw [←Lib.strCells_length,hz9.out,Lib.byteCells_length,List.length_replicate];omega);have hne9:((decDigits p).length:Int)≤9:=by omega
        go_wp2_with (first
         | (go_at_call 111;refine (Hc w3.heap.size w3.heap.size _ _ wr hb.out (by have:=hbl.out;have:=hzs.out;omega) hxs.out).mono ?_;rintro e w5 ⟨rfl,hb5,hB5⟩;rw [hz9.out] at hb5;replace hb5:=mK hb5;(have hx5:=mK (Ca hx hB5));(have hci5:=Oh (hr3.out.ext hx5.out) i hk);rw [←hp.out] at hci5)
         | (go_at_call 111;refine (Hc w3.heap.size w3.heap.size _ ⟨(decDigits p).toArray⟩ w5 (.inr hb5.out) (by have:=hbl.out;rw [Kt,Fe,List.length_append,Lib.byteCells_length (List.replicate _ _),List.length_replicate];omega) hx5.out.size).mono ?_;rintro e w6 ⟨rfl,hb6,hB6⟩))
        go_roundg i
        case measure=>omega
        case rel=>
         refine ⟨rfl,by omega,.inr ?_,Ca hx5.out hB6⟩
         have he:ps.drop (i+1)≠[]:=by
          intro e;have:=List.drop_eq_nil_iff.1 e;have:=hln.out;omega
         have hcat:Lib.byteCells (sgn++txt9 (ps.drop i))=Lib.byteCells (sgn++txt9 (ps.drop (i+1)))++Lib.byteCells (List.replicate (9-(decDigits p).length) 48)++Lib.strCells ⟨(decDigits p).toArray⟩:=by
          rw [hdr.out,Lz p he,Ui hp9,Fe,Lib.strCells_eq];simp [Lib.byteCells]
         rw [hcat];exact hb6
    ·go_wp2_with (go_at_call 227;refine (Aik w3.heap.size w3.heap.size [] 45 _ hB.out (by simp) (by simp)).mono ?_;rintro e w4 ⟨rfl,hb4,hB4⟩;replace hb4:=mK hb4;replace hB4:=mK hB4)
     obtain ⟨sgn,hsg⟩:=nmE ([45]:List UInt8)
     have hit:sgn++txt9 ps=itoa X:=by
      have h1:=hbx.out;have h2:=hXX.out;rw [hsg,Gt ps hp0 hps.out (.inr (hlast.out trivial hp0)),←hv.out];unfold itoa;rw [if_pos (by simpa using h1),←h2];rfl
     have hit0:sgn++txt9 ps≠[]:=by
      rw [hsg,Gt ps hp0 hps.out (.inr (hlast.out trivial hp0)),decDigits_eq];intro e;have:=congrArg List.length e;simp at this
     replace hit:=mK hit;replace hit0:=mK hit0;have st:Hid (Dig2 w3 sgn ps ln (.int .i64 ((ln:Int)-1)) w4):=⟨rfl,by rw [hln.out];exact nR _,.inr (by rw [hsg,←hln.out,List.drop_length];exact hb4.out),Ca ((xR w3).al _) hB4.out⟩
     replace hsg:=mK hsg;go_loopg [6] ln (fun k v6 wr=>Dig2 w3 sgn ps k v6 wr)
     case atStart=>exact st.out
     case round=>
      obtain ⟨e6,hk,hb,hx⟩:=hrel;clear st c0 hB hb4 hB4;by_cases hk0:gk=0
      ·subst hk0
       subst e6;rw [List.drop_zero] at hb;have BS:=mK (Tryz.Builder_String w3.heap.size w3.heap.size _ wr hb hit0.out);go_wp2_with (go_at_call 115;refine BS.out.mono ?_;rintro e w5 ⟨rfl,hB5⟩);rw [hit.out];exact ⟨rfl,.string ⟨(itoa X).toArray⟩,by simp [results],rfl,(hE1.out.trans hEr.out).trans (Ca hx hB5)⟩
      ·obtain ⟨i,rfl⟩:∃ i,gk=i+1:=⟨gk-1,by omega⟩
       rw [show ((i+1:Nat):Int)-1=(i:Int) by omega] at e6;subst e6;have hrw:=hr3.out.ext hx;have hci:=Oh hrw i hk;have hip:i<ln:=by have:=hln.out;omega
       obtain ⟨p,hp⟩:=nmE (ps.getD i 0);rw [←hp] at hci
       have hdr:ps.drop i=p::ps.drop (i+1):=by
        rw [hp,List.drop_eq_getElem_cons hk,List.getD_eq_getElem?_getD,List.getElem?_eq_getElem hk];rfl
       have hp9:p<1000000000:=hps.out p (List.mem_of_mem_drop (i:=i) (by rw [hdr];simp));have hn9:=Hk hp9;have htl:=Ou (ps.drop (i+1)) (fun x hx=>hps.out x (List.mem_of_mem_drop hx))
       have hwi:IntKind.i64.wrap ((i:Int)-1)=(i:Int)-1:=by
        have:=hpn.out;have:=hln.out;rw [IntKind.wrap_i64];omega
       have hsl:sgn.length≤1:=by rw [hsg.out];simp
       have hbl:(Lib.byteCells (sgn++txt9 (ps.drop (i+1)))).length≤2000000:=by
        have:=hpn.out;have:=hln.out;rw [Lib.byteCells_length,List.length_append];simp only [List.length_drop] at htl;omega
       have hxs:=mK hx.size;replace hp:=mK hp;replace hdr:=mK hdr;replace hb:=mK hb;replace hbl:=mK hbl;clear htl hsl;by_cases hi1:i+1=ln
       ·have d1:¬((i:Int)<(ln:Int)-1):=by omega
        go_wp2_with (go_at_call 111;refine (Hc w3.heap.size w3.heap.size _ ⟨(decDigits p).toArray⟩ _ hb.out (by have:=hbl.out;rw [Kt,Fe];omega) hxs.out).mono ?_;rintro e w6 ⟨rfl,hb6,hB6⟩);go_roundg i
        case measure=>omega
        case rel=>
         refine ⟨rfl,by omega,.inr ?_,Ca hx hB6⟩;have he:ps.drop (i+1)=[]:=List.drop_eq_nil_of_le (by have:=hln.out;omega);rw [hdr.out,he,txt9,Lib.byteCells_append];rw [he,txt9,List.append_nil] at hb6;exact hb6
       ·have d1:(i:Int)<(ln:Int)-1:=by omega
        have hd9:(decDigits p).length≤9:=by rw [Fe];exact hn9
        have hz9:=mK (zeros9 _ hd9);have hzs:=mK (show ((⟨#[48,48,48,48,48,48,48,48,48]⟩:ByteArray).extract (decDigits p).length 9).size≤9 by rw [←Lib.strCells_length,hz9.out,Lib.byteCells_length,List.length_replicate];omega);have hne9:((decDigits p).length:Int)≤9:=by omega
        go_wp2_with (first
         | (go_at_call 111;refine (Hc w3.heap.size w3.heap.size _ _ wr hb.out (by have:=hbl.out;have:=hzs.out;omega) hxs.out).mono ?_;rintro e w5 ⟨rfl,hb5,hB5⟩;rw [hz9.out] at hb5;replace hb5:=mK hb5;(have hx5:=mK (Ca hx hB5));(have hci5:=Oh (hr3.out.ext hx5.out) i hk);rw [←hp.out] at hci5)
         | (go_at_call 111;refine (Hc w3.heap.size w3.heap.size _ ⟨(decDigits p).toArray⟩ w5 (.inr hb5.out) (by have:=hbl.out;rw [Kt,Fe,List.length_append,Lib.byteCells_length (List.replicate _ _),List.length_replicate];omega) hx5.out.size).mono ?_;rintro e w6 ⟨rfl,hb6,hB6⟩))
        go_roundg i
        case measure=>omega
        case rel=>
         refine ⟨rfl,by omega,.inr ?_,Ca hx5.out hB6⟩
         have he:ps.drop (i+1)≠[]:=by
          intro e;have:=List.drop_eq_nil_iff.1 e;have:=hln.out;omega
         have hcat:Lib.byteCells (sgn++txt9 (ps.drop i))=Lib.byteCells (sgn++txt9 (ps.drop (i+1)))++Lib.byteCells (List.replicate (9-(decDigits p).length) 48)++Lib.strCells ⟨(decDigits p).toArray⟩:=by
          rw [hdr.out,Lz p he,Ui hp9,Fe,Lib.strCells_eq];simp [Lib.byteCells]
         rw [hcat];exact hb6
  ·have hkp:0<gk:=Nat.pos_of_ne_zero hk0
   have hpb:=Nr hsum hkp hXb.out;have hll:=Az (show gk≠0 from hk0)
   obtain ⟨g,cap,cur,rfl,hbg,hbb,hle,hcm,_⟩:∃ g cap cur,u4=.slice (some ⟨g,0,none⟩) (lim gk).length cap∧w1.heap.size≤g∧w3.heap[g]? = some (.cells cur 136 (0,0))∧(lim gk).length≤cap∧cap≤maxLen∧True:=by
    rcases h4.2 with ⟨_,h0⟩|⟨g,cap,cur,e,h1,h2,h3,h5,_⟩
    ·rw [hll] at h0
     simp at h0
    ·exact ⟨g,cap,cur,e,h1,h2,h3,h5,trivial⟩
   obtain ⟨a3,n3,c3,rfl⟩:∃ a3 n3 c3,u3=.slice a3 n3 c3:=by
    rcases h3.2 with ⟨e,_⟩|⟨g,cap,cur,e,_⟩
    ·exact ⟨_,_,_,e⟩
    ·exact ⟨_,_,_,e⟩
   have SH:=mK (Aa8 w1.heap.size g (lim gk).length cap 1000000000 (lim gk) w3 rfl (by omega) (Ap _) (by omega) (by omega) h4);have hne3:=hne g rfl;have hlk:0<(lim gk).length:=by rw [hll];simp
   replace h3:=mK h3;replace hsum:=mK hsum;replace hps:=mK hps;replace hEr:=mK hEr;replace hbg:=mK hbg;replace hll:=mK hll;replace hl:=mK hl;clear hlast h4 hne hbb;generalize hnk:(lim gk).length=nk at *;replace hnk:=mK hnk
   go_wp2_with (first
    | (go_at_call 226;refine SH.out.mono ?_;rintro e w4 ⟨p,r,rfl,hSh,ho4,hg4⟩;replace hSh:=mK hSh;replace ho4:=mK ho4;replace hg4:=mK hg4;(have hr9:=hSh.out.2.2.1);(have hE4:=mK (hEr.out.gr hg4.out (fun k e=>by cases e;exact hbg.out)));(have h34:=mK (show Aby w4 w1.heap.size (.slice a3 n3 c3) (ps.map decDigits) from h3.out.kept hg4.out (.inr hne3)));clear SH h3 hEr)
    | (go_at_call 112;refine (Zx r _ (by omega) (HT.out _ (hE1.out.trans hE4.out))).mono ?_;rintro e w5 ⟨rfl,hx5⟩;(have hE5:=mK (hE4.out.trans hx5));(have h35:=mK (show Aby w5 w1.heap.size (.slice a3 n3 c3) (ps.map decDigits) from Aw h34.out hx5));(have ho5:=mK (Aw ho4.out hx5));clear hx5 h34 ho4)
    | (at_builtin;refine wpList_append_own_at _ rfl _ _ 88 rfl w1.heap.size 9 i0 (.string ⟨#[]⟩) 1 16 Tryz.underlying88 hi hz0 hz1 hz2 rfl (by decide) _ _ _ rfl (h35.out.alloc _) ⟨w5.heap.size,0,none⟩ 1 1 [.string ⟨(decDigits r).toArray⟩] rfl rfl ?zc1 ?zc2 ?zc3 ?zc4 ?zc5 ?_;(case zc1=>intro j u hj;rcases j with _|j;(simp at hj;subst hj;simp [Addr.add]);(simp at hj));(case zc2=>intro u hu;simp at hu;subst hu;rfl);(case zc3=>have:=hlen.out;unfold maxLen;simp;omega);(case zc4=>have:=hlen.out;simp;omega);(case zc5=>have:=hE5.out.size;simp;omega);intro v6 w6 hown6 hgrow6 _ hloc6;(have hE6:=mK ((hE5.out.al _).gr hgrow6 (fun k e=>(h35.out.lt k e).1)));(have ho6:=(ho5.out.alloc _).kept hgrow6 (.inr (fun e=>hne3 e.symm)));(have hpl:p.length=nk:=hSh.out.1.trans hnk.out);(have hM6:MagO w6 w1.heap.size (.slice (some ⟨g,0,none⟩) p.length cap) p:=by unfold MagO;rw [hpl];exact ho6);(have hloc:=mK hloc6);(have hgl:=mK (ho5.out.lt g rfl).2);(have TR:=Yn (some ⟨g,0,none⟩) p cap w6 hSh.out.2.1 (by have:=hl.out;omega) (by omega) (by obtain ⟨_,_,e,_,hr⟩:=hM6.r;cases e;exact hr));rw [hpl] at TR;replace TR:=mK TR;replace hown6:=mK hown6;replace hM6:=mK hM6;replace hpl:=mK hpl;clear hgrow6 hloc6 ho6 h35 ho5 hE5)
    | (go_at_call 225;refine TR.out.mono ?_;rintro e w7 ⟨rfl,rfl⟩))
   have hNN:p.length=(lim gk).length∧OkL p∧r<1000000000∧gk=val p*1000000000+r:=by
    obtain ⟨q1,q2,q3,q4,q5⟩:=hSh.out;rw [List.drop_zero,List.drop_zero,Aj] at q5;exact ⟨q1,q2,q3,q5⟩
   obtain ⟨hq1,hq2,hq3,hq4⟩:=hNN;have hlt:val p<gk:=by omega
   have st2:Dig1 w1 w1.heap.size N (val p) v6 (.slice (some ⟨g,0,none⟩) (lim (val p)).length cap) w6:=by
    refine ⟨ps++[r],?_,?_,?_,?_,?_,?_,?_,?_,hE6.out⟩
    ·rw [Ly,hsum.out,List.length_append,List.length_singleton,Nat.pow_succ,hq4]
     grind
    ·intro x hx
     rcases List.mem_append.1 hx with h|h
     ·exact hps.out x h
     ·simp at h
      omega
    ·intro h0 _
     rw [List.getLastD_concat];omega
    ·have h:=hown6.out
     unfold Aby;rw [List.length_map] at h;rw [List.map_append,List.map_append,List.length_append,List.length_map];exact h
    ·exact MagO.lim hM6.out hq2
    ·intro k hk
     cases hk;rcases hloc.out with h|h
     ·rw [h]
      exact hne3
     ·rw [h]
      intro e;have:=hgl.out;simp at e;omega
    ·exact nT (An (Nat.le_of_lt hlt)) (by have:=hnk.out;have:=hl.out;omega)
    ·have:=hlen.out
     simp;omega
   go_roundg (val p)
   case measure=>exact hlt
   case rel=>exact st2
theorem Abi {n k:Nat}(h:n<2 ^ k):nDigits n≤k+1:=by
 by_cases hn:n=0
 ·subst hn
  rw [nDigits_small (by omega)];omega
 ·have p:=Dv n (by omega)
  have q:2 ^ (nDigits n-1)≤10 ^ (nDigits n-1):=Nat.pow_le_pow_left (by decide) _;have r:2 ^ (nDigits n-1)<2 ^ k:=by omega
  have:=(Nat.pow_lt_pow_iff_right (by decide:1<2)).1 r;omega
theorem Ep (X:Int):(itoa X).length≤32*nl X+2:=by
 have hXb:X.natAbs<2 ^ (32*(lim X.natAbs).length):=by
  have:=Cj (Ap X.natAbs);rw [Aj,show (4294967296:Nat)=2 ^ 32 from rfl,←Nat.pow_mul] at this;exact this
 have h:=Abi hXb;unfold itoa nl;split
 ·rw [List.length_cons,decDigits_length]
  omega
 ·rw [decDigits_length,show X.toNat=X.natAbs by omega]
  omega
theorem Ez (a b:List UInt8):((⟨a.toArray⟩:ByteArray)++⟨b.toArray⟩)=⟨(a++b).toArray⟩:=by
 apply ByteArray.ext;simp
def Ar (x:Rat):List UInt8:=if x.den=1 then itoa x.num else itoa x.num++47::itoa (x.den:Int)
theorem Wa (v:Value)(x:Rat)(w:World)(hX:nf x≤65536)(h:FracR w v x)(ht:Tab10 w) :
  Calls Tryz.prog 113 #[v] w fun e w'=>e=.returned (.string ⟨(Ar x).toArray⟩)∧Ext w w':=by
 have H:=h;obtain ⟨x1,x2,x3,x4,y1,y2,y3,y4,rfl⟩:=h.shape;have hn:nl x.num≤65536:=nT (Nat.le_max_left _ _) hX;have hd:nl (x.den:Int)≤65536:=nT (Nat.le_max_right _ _) hX;have L1:=mK (show ¬9223372036854775807<(itoa x.num).length+1 by have:=Ep x.num;omega);have L2:=mK (show ¬9223372036854775807<(itoa x.num).length+1+(itoa (x.den:Int)).length by have:=Ep x.num;have:=Ep (x.den:Int);omega);have HN:=mK (fun W (e:Ext w W)=>Xn (.agg #[.bool x1,.slice x2 x3 x4]) x.num W hn (H.ext e).num (Cx ht e));have HD:=mK (fun W (e:Ext w W)=>Xn (.agg #[.bool y1,.slice y2 y3 y4]) (x.den:Int) W hd (H.ext e).den (Cx ht e));have HR:=mK (fun W (e:Ext w W)=>(H.ext e).den);replace hd:=mK hd;clear h H ht hX hn;go_enter Tryz.func113,Tryz.ntmps113;go_wp2_with fail;obtain ⟨wb,hwb⟩:=nmE (w.alloc (.cells #[.bool x1,.slice x2 x3 x4,.bool y1,.slice y2 y3 y4] 54));have hE:=aLe1 hwb;obtain ⟨c0,c1⟩:=ceX1 (aL10 hwb);replace c0:=mK c0;replace c1:=mK c1;obtain ⟨-,-,c2,c3⟩:=ceX3 (aL10 hwb);have ho:=mK (fun w=>of_c 1 w (by omega) (by omega));rw [←hwb];replace hE:=mK hE;clear hwb;obtain ⟨sg1,hsg1⟩:=nmE (((x.den:Int)-1).sign)
 have hs0:(sg1==0)=decide (x.den=1):=by
  rw [hsg1,Bool.eq_iff_iff];simp only [beq_iff_eq,decide_eq_true_eq,Int.sign_eq_zero_iff_zero];omega
 replace hsg1:=mK hsg1;apply Ad [.val (.pointer (some ⟨w.heap.size,2,none⟩)),.val (.agg #[.bool y1,.slice y2 y3 y4]),.pred (fun W v=>IntO W 0 v 1),.val (.int .i64 sg1),.val (.bool (sg1==0))] (by kernel_rfl) (stable_vals _ (stable_vals _ (Bq _ _ (stable_vals _ (stable_vals _ trivial)))));refine ⟨fun W hW _=>by go_simp;exact xR _,?_⟩;refine ⟨fun W hW _=>by have:=c2 W hW;have:=c3 W hW;go_simp;exact xR _,?_⟩;refine ⟨fun W hW _=>?g0,fun v0=>?_⟩
 case g0=>
  go_simp;refine (ho.out W).mono ?_;rintro e w' ⟨v,rfl,h1,h2⟩;exact ⟨v,rfl,h1,h2.mono (Nat.zero_le _)⟩
 refine ⟨fun W hW hF=>?g2,?_⟩
 case g2=>
  have h0:Hid (IntO W 0 v0 1):=hF.1 (by kernel_rfl);clear hF;go_simp;refine (Xu _ _ (x.den:Int) 1 W (nT hd.out (by decide)) Pu (HR.out W (hE.out.trans hW)) h0.out.r).mono ?_;rintro e w' ⟨rfl,h1⟩;rw [←hsg1.out];exact ⟨rfl,h1⟩
 refine ⟨fun W hW hF=>by go_simp;first|exact xR _|exact ⟨xR _,by simp⟩|exact ⟨xR _,rfl⟩,fun W hW hF=>?fin⟩
 case fin=>
  clear hF;have hE2:=mK (hE.out.trans hW);rw [hs0];clear hs0;by_cases hx1:x.den=1
  ·have hrt:=mK (show Ar x=itoa x.num by simp [Ar,hx1])
   rw [decide_eq_true hx1];have d0:=c0.out W hW;have d1:=c1.out W hW;clear hx1 c2 c3;go_simp;go_wp2_with (go_at_call 183;refine (HN.out _ hE2.out).mono ?_;rintro e w2 ⟨rfl,h2⟩;replace h2:=mK h2);go_ret;rw [hrt.out];exact ⟨rfl,hE2.out.trans h2.out⟩
  ·have hrt:=mK (show Ar x=itoa x.num++47::itoa (x.den:Int) by simp [Ar,hx1])
   rw [decide_eq_false hx1];have d0:=mK (fun V (e:Ext W V)=>c0.out V (hW.trans e));have d1:=mK (fun V (e:Ext W V)=>c1.out V (hW.trans e));have d2:=mK (fun V (e:Ext W V)=>c2 V (hW.trans e));have d3:=mK (fun V (e:Ext W V)=>c3 V (hW.trans e));clear hx1 c2 c3 c0 c1;go_simp;go_wp2_with fail;apply Ad [.val (.pointer (some ⟨w.heap.size,0,none⟩)),.val (.agg #[.bool x1,.slice x2 x3 x4]),.val (.string ⟨(itoa x.num).toArray⟩),.val _,.val (.pointer (some ⟨w.heap.size,2,none⟩)),.val (.agg #[.bool y1,.slice y2 y3 y4]),.val (.string ⟨(itoa (x.den:Int)).toArray⟩),.val _] (by kernel_rfl) (stable_vals _ (stable_vals _ (stable_vals _ (stable_vals _ (stable_vals _ (stable_vals _ (stable_vals _ (stable_vals _ trivial))))))));refine ⟨fun V hV _=>by go_simp;exact xR _,?_⟩;refine ⟨fun V hV _=>by have:=d0.out V hV;have:=d1.out V hV;go_simp;exact xR _,?_⟩;refine ⟨fun V hV _=>?n1,?_⟩
   case n1=>
    go_simp;refine (HN.out V (hE2.out.trans hV)).mono ?_;rintro e w' ⟨rfl,h1⟩;exact ⟨rfl,h1⟩
   refine ⟨fun V hV _=>by go_simp;rw [if_neg L1.out];exact ⟨xR _,rfl⟩,?_⟩;refine ⟨fun V hV _=>by go_simp;exact xR _,?_⟩;refine ⟨fun V hV _=>by have:=d2.out V hV;have:=d3.out V hV;go_simp;exact xR _,?_⟩;refine ⟨fun V hV _=>?n2,?_⟩
   case n2=>
    go_simp;refine (HD.out V (hE2.out.trans hV)).mono ?_;rintro e w' ⟨rfl,h1⟩;exact ⟨rfl,h1⟩
   refine ⟨fun V hV _=>?n3,fun V hV _=>?fin2⟩
   case n3=>
    go_simp;rw [if_neg L2.out];exact ⟨xR _,rfl⟩
   case fin2=>
   have hEV:=mK (hE2.out.trans hV);clear hV;go_simp;go_wp2_with fail;go_ret;rw [hrt.out,show (#[47]:Array UInt8)=[47].toArray from rfl,Ez,Ez,List.append_assoc];exact ⟨rfl,hEV.out⟩
def BuiltAt (lo b:Nat)(p:Value)(bs:List Value)(w:World):Prop:=b<lo∧∃ v,w.heap[b]? = some (.cells #[p,v] 117 (0,0))∧w.ownsRow lo 5 1 v bs.length bs
def IsBuilt (lo b:Nat)(bs:List Value)(w:World):Prop:=BuiltAt lo b (.pointer none) bs w∨BuiltAt lo b (.pointer (some ⟨b,0,none⟩)) bs w
theorem Jo {w:World}{lo E n:Nat}{v:Value}{xs:List Value}(h:w.ownsRow lo E 1 v n xs):∀ g,v.ownBlock=some g→lo≤g∧g<w.heap.size:=by
 intro g hg;rcases h.2 with ⟨e,_⟩|⟨k,cap,cur,e,h1,h2,_⟩
 ·rw [e] at hg;cases hg
 ·rw [e] at hg
  cases hg;exact ⟨h1,(Array.getElem?_eq_some_iff.1 h2).1⟩
theorem BuiltAt.at {lo b:Nat}{p:Value}{bs:List Value}{w:World}(h:BuiltAt lo b p bs w):Lib.BuilderAt 117 5 b b p bs w:=by
 obtain ⟨h1,v,h2,h3⟩:=h;exact ⟨nR _,v,h2,Db h3 (Nat.le_of_lt h1),fun e=>by have:=(Jo h3 _ e).1;omega⟩
theorem IsBuilt.is {lo b:Nat}{bs:List Value}{w:World}(h:IsBuilt lo b bs w):Lib.IsBuilder 117 5 b b bs w:=by
 rcases h with h|h
 ·exact .inl h.at
 ·exact .inr h.at
theorem BuiltAt.ext {lo b:Nat}{p:Value}{bs:List Value}{w w':World}(h:BuiltAt lo b p bs w)(e:Ext w w'):BuiltAt lo b p bs w':=by
 obtain ⟨h1,v,h2,h3⟩:=h;exact ⟨h1,v,e.blk h2,Aw h3 e⟩
theorem IsBuilt.ext {lo b:Nat}{bs:List Value}{w w':World}(h:IsBuilt lo b bs w)(e:Ext w w'):IsBuilt lo b bs w':=by
 rcases h with h|h
 ·exact .inl (h.ext e)
 ·exact .inr (h.ext e)
def bS (b lo k:Nat):Prop:=k=b∨lo≤k
def Keeps (b:Nat)(w w':World):Prop:=∀ (g:Nat) (cs:Array Value) (T:TypeId) (fr:Nat×Nat),g≠b→T≠5→w.heap[g]? = some (.cells cs T fr)→w'.heap[g]? = some (.cells cs T fr)
theorem Keeps.ext {b:Nat}{w w':World}(e:Ext w w'):Keeps b w w':=fun _ _ _ _ _ _ h=>e.blk h
theorem Keeps.trans {b:Nat}{w w' w'':World}(h:Keeps b w w')(k:Keeps b w' w''):Keeps b w w'':=fun g cs T fr h1 h2 h3=>k g cs T fr h1 h2 (h g cs T fr h1 h2 h3)
theorem bcheck2 (lo b:Nat)(bs:List Value)(w:World)(h:IsBuilt lo b bs w) :
  Calls Tryz.prog 181 #[.pointer (some ⟨b,0,none⟩)] w fun e w'=>e=.returned (.tuple #[])∧(BuiltAt lo b (.pointer (some ⟨b,0,none⟩)) bs w'∧Chg w w' (· = b)):=by
 rcases h with h|h
 ·refine (Lt b w h.at.cell0 h.at.shape h.at.frozen0).mono ?_
  rintro e w' ⟨rfl,rfl⟩;obtain ⟨h1,v,h2,h3⟩:=h;have e1:=setCell_eq_setRow w b 0 _ _ _ (.pointer (some ⟨b,0,none⟩)) h2;rw [e1];refine ⟨rfl,⟨h1,v,setRow_heap _ _ _ _ _ _ h2,Hw h3 h1 _⟩,Chg.set w b _⟩
 ·refine (Nz b w h.at.cell0).mono ?_
  rintro e w' ⟨rfl,rfl⟩;exact ⟨rfl,h,Chg.refl _ _⟩
theorem bwrite2 (lo b:Nat)(bs:List Value)(s:ByteArray)(w:World)(h:IsBuilt lo b bs w)(hlen:bs.length+s.size≤140737488355328)(hlo:lo≤w.heap.size) :
  Calls Tryz.prog 111 #[.pointer (some ⟨b,0,none⟩),.string s] w fun e w'=>e=.returned (.tuple #[.int .i64 s.size,.nilIface])∧(IsBuilt lo b (bs++Lib.strCells s) w'∧Chg w w' (bS b lo)∧Keeps b w w'):=by
 obtain ⟨i0,hi,hz0,hz1,hz2⟩:=info_parts infoByte;go_enter Tryz.func111,Tryz.ntmps111;go_wp2_with (go_at_call 181;refine (bcheck2 lo b bs _ h).mono ?_);rintro e w1 ⟨rfl,h1,hb1⟩;obtain ⟨hB,v,hbk,hown⟩:=h1;have hne:v.ownBlock≠some b:=fun e=>by have:=(Jo hown _ e).1;omega
 have c0:w1.cell? ⟨b,0,none⟩=some (.pointer (some ⟨b,0,none⟩)):=by rw [Lib.cell_of_heap hbk];rfl
 have c1:w1.cell? ⟨b,1,none⟩=some v:=by rw [Lib.cell_of_heap hbk];rfl
 go_wp2_with (at_builtin;refine Lib.wpList_append_own_string _ rfl _ _ 115 9 rfl lo 5 i0 Tryz.underlying115 Tryz.underlying9 hi hz0 hz1 hz2 _ _ _ rfl hown s rfl ?c3 ?c4 ?c5 ?_)
 case c3=>unfold maxLen;omega
 case c4=>omega
 case c5=>have:=hb1.size;omega
 intro v' w2 hown' hgrow _;have hlt:b<w1.heap.size:=(Array.getElem?_eq_some_iff.1 hbk).1
 have hb2:w2.heap[b]? = some (.cells #[.pointer (some ⟨b,0,none⟩),v] 117 (0,0)):=by
  rw [hgrow.block b hlt (fun e=>hne e.symm)];exact hbk
 have d0:w2.cell? ⟨b,0,none⟩=some (.pointer (some ⟨b,0,none⟩)):=by rw [Lib.cell_of_heap hb2];rfl
 have d1:w2.cell? ⟨b,1,none⟩=some v:=by rw [Lib.cell_of_heap hb2];rfl
 have f1:w2.frozen? ⟨b,1,none⟩=false:=Lib.frozen_of_heap hb2 1
 obtain ⟨ao,n',cap,rfl⟩:∃ ao n' cap,v'=.slice ao n' cap:=by
  rcases hown'.2 with ⟨hv,_⟩|⟨g,cap,cur,hv,_⟩
  ·exact ⟨_,_,_,hv⟩
  ·exact ⟨_,_,_,hv⟩
 go_wp2;go_ret2;have e1:=setCell_eq_setRow w2 b 1 _ _ _ (.slice ao n' cap) hb2;rw [e1];refine ⟨rfl,.inr ⟨hB,_,setRow_heap _ _ _ _ _ _ hb2,Hw (by simpa [Lib.strCells_length] using hown') hB _⟩,?_,?_⟩
 ·exact (hb1.mono fun k _ hk=>.inl hk).trans (((Chg.grown hgrow).mono fun k _ hk=>.inr (Jo hown k hk.symm).1).trans ((Chg.set w2 b _).mono fun k _ hk=>.inl hk))
 ·intro g cs T fr hg hT hh
  rw [setRow_other _ _ _ _ hg];have hh1:w1.heap[g]? = some (.cells cs T fr):=(hb1.block g (Array.getElem?_eq_some_iff.1 hh).1 hg).trans hh;rw [hgrow.block g (Array.getElem?_eq_some_iff.1 hh1).1 fun e=>?_]
  ·exact hh1
  ·rcases hown.2 with ⟨e2,_⟩|⟨k,cap,cur,e2,_,h4,_⟩
   ·rw [e2] at e;cases e
   ·rw [e2] at e
    cases e;rw [h4] at hh1;cases hh1;exact hT rfl
theorem Xz {w:World}{b lo:Nat}(hb:b<lo)(h:w.heap[b]? = some (.cells #[.pointer none,.slice none 0 0] 117 (0,0))):IsBuilt lo b [] w:=
 .inl ⟨hb,_,h,World.ownsRow_nil _ _ _ _⟩
def Dl (kd:Int):List UInt8:=if kd=1 then [115,112,97,99,101] else if kd=2 then [108,101,110,115] else if kd=3 then [115,108,97,98] else if kd=4 then [115,117,114,102,97,99,101] else if kd=5 then [102,108,105,112] else []
def Dg (kd:Int):Nat:=if kd=1 then 1 else if kd=2 then 1 else if kd=3 then 2 else if kd=4 then 2 else 0
theorem Fm (kd:Int):Dg kd≤2:=by unfold Dg;split<;>(try split)<;>(try split)<;>(try split)<;>omega
theorem Gs (kd:Int):(Dl kd).length≤7:=by unfold Dl;split<;>(try split)<;>(try split)<;>(try split)<;>(try split)<;>simp
theorem Aiw (kd:Int)(w:World):Calls Tryz.prog 110 #[.int .u8 kd] w fun e w'=>e=.returned (.tuple #[.string ⟨(Dl kd).toArray⟩,.int .i64 (Dg kd)])∧w=w':=by
 by_cases h1:kd=1
 ·subst h1
  go_enter Tryz.func110,Tryz.ntmps110;go_wp2_with fail;go_ret2;exact ⟨rfl,rfl⟩
 by_cases h2:kd=2
 ·subst h2
  go_enter Tryz.func110,Tryz.ntmps110;go_wp2_with fail;go_ret2;exact ⟨rfl,rfl⟩
 by_cases h3:kd=3
 ·subst h3
  go_enter Tryz.func110,Tryz.ntmps110;go_wp2_with fail;go_ret2;exact ⟨rfl,rfl⟩
 by_cases h4:kd=4
 ·subst h4
  go_enter Tryz.func110,Tryz.ntmps110;go_wp2_with fail;go_ret2;exact ⟨rfl,rfl⟩
 by_cases h5:kd=5
 ·subst h5
  go_enter Tryz.func110,Tryz.ntmps110;go_wp2_with fail;go_ret2;exact ⟨rfl,rfl⟩
 have e:Dl kd=[]∧Dg kd=0:=by unfold Dl Dg;simp [h1,h2,h3,h4,h5]
 rw [e.1,e.2];have b1:(kd==1)=false:=by simpa using h1
 have b2:(kd==2)=false:=by simpa using h2
 have b3:(kd==3)=false:=by simpa using h3
 have b4:(kd==4)=false:=by simpa using h4
 have b5:(kd==5)=false:=by simpa using h5
 clear h1 h2 h3 h4 h5 e;go_enter Tryz.func110,Tryz.ntmps110;go_wp2_with fail;go_ret2;exact ⟨rfl,rfl⟩
def Hs (d:PD):List UInt8:=d.nm.data.toList++32::(itoa d.co++32::Dl d.kd)
def Bp (d:PD):List Rat:=[d.p,d.q].take (Dg d.kd)
def Ds (l:List Rat):List UInt8:=l.flatMap fun x=>32::Ar x
def Qg (d:PD):List UInt8:=Hs d++Ds (Bp d)++[10]
def Bd (L:List PD):List UInt8:=L.flatMap Qg
end Go.Proofs.YteogdoglboddhaaGreatDoor
namespace Go.Proofs.YteogdoglboddhaaGreatDoor
set_option maxRecDepth 100000
open Go Go.RowKit Go.Proofs
theorem Oc {ss:List FSpec}(b:Nat)(cs:Array Value)(T:TypeId)(h:StableAll Ext ss):StableAll Ext (.pred (VarAt b cs T)::ss):=⟨fun _ _ _ e h=>VarAt.ext h e,h⟩
theorem Ad8 {ss:List FSpec}(lo:Nat)(d:PD)(h:StableAll Ext ss):StableAll Ext (.pred (fun W v=>PartK lo W v d)::ss):=⟨fun _ _ _ e h=>PartK.ext h e,h⟩
theorem Ai6 (p q:FV)(d:PD)(w:World)(g M:Nat)(es:List (PD×Value))(h:Cat w g M es)(h1:FracR w (.agg #[.bool p.b1,.slice p.a1 p.n1 p.c1,.bool p.b2,.slice p.a2 p.n2 p.c2]) d.p)(h2:FracR w (.agg #[.bool q.b1,.slice q.a1 q.n1 q.c1,.bool q.b2,.slice q.a2 q.n2 q.c2]) d.q)(hd:okPD d)(hs:d.nm.size≤9223372036854775807)(hf:Ay d.nm es=none)(hl:es.length<64) :
  Calls Tryz.prog 17 #[.pointer (some ⟨g,0,none⟩),.agg #[.string d.nm,.int .u8 d.kd,.bool p.b1,.slice p.a1 p.n1 p.c1,.bool p.b2,.slice p.a2 p.n2 p.c2,.bool q.b1,.slice q.a1 q.n1 q.c1,.bool q.b2,.slice q.a2 q.n2 q.c2,.int .i64 d.co]] w fun e w'=>e=.returned (.int .i64 0)∧∃ v,PartK w.heap.size w' v d∧Cat w' g M (insP (d,v) es)∧Chg w w' (· = M):=by
 obtain ⟨wb,hwb⟩:=nmE (w.alloc (.cells #[.string d.nm,.int .u8 d.kd,.bool p.b1,.slice p.a1 p.n1 p.c1,.bool p.b2,.slice p.a2 p.n2 p.c2,.bool q.b1,.slice q.a1 q.n1 q.c1,.bool q.b2,.slice q.a2 q.n2 q.c2,.int .i64 d.co] 58));have hE:=aLe1 hwb;have z0:=aL10 hwb;have hsz:=mK (aLs1 hwb);have hC:=mK (fun W (e:Ext wb W)=>h.ext (hE.trans e));have hM:M<w.heap.size:=h.map.lt;have hG:=mK (fun W (e:Ext wb W)=>Dx g M W (h.ext (hE.trans e)).str);have hN:=fun W=>Ld d.nm W hs;rw [hd.2.2.1] at hN;have hY:=fun W (e:Ext wb W)=>Abk d.nm d.kd d.co p q (some d.p) (some d.q) W (by have:=(h1.ext (hE.trans e)).any (nT hd.1 (by decide));rwa [if_pos hd.1] at this) (by have:=(h2.ext (hE.trans e)).any (nT hd.2.1 (by decide));rwa [if_pos hd.2.1] at this);rw [hd.2.2.2] at hY;replace hN:=mK hN;replace hY:=mK hY;have hK:=mK (fun W (e:Ext wb W)=>Qv (.agg #[.string d.nm,.int .u8 d.kd,.bool p.b1,.slice p.a1 p.n1 p.c1,.bool p.b2,.slice p.a2 p.n2 p.c2,.bool q.b1,.slice q.a1 q.n1 q.c1,.bool q.b2,.slice q.a2 q.n2 q.c2,.int .i64 d.co]) d W (nT hd.1 (by decide)) (nT hd.2.1 (by decide)) (PartR.mk (h1.ext (hE.trans e)) (h2.ext (hE.trans e))));have c0:=mK (ceX0 z0);have cg:Hid (∀ W,Ext wb W→W.cell? ⟨g,0,none⟩=some (.map (some M))):=fun W e=>cell0 (hC.out W e).str
 have hL:∀ W,Ext wb W→(Instr.lookup 70 (.map (some M)) (.string d.nm) true).run Tryz.prog W=.ok (.tuple #[zeroPart,.bool false]) W:=fun W e=>by
  have:=(hC.out W e).map.look d.nm hs;rw [hf] at this;exact this
 replace hd:=mK hd;replace hf:=mK hf;replace hs:=mK hs;replace hE:=mK hE;replace z0:=mK z0;replace hwb:=mK hwb;replace hL:=mK hL;clear h h1 h2;go_enter Tryz.func17,Tryz.ntmps17;have tok:Tok 0:=.mk _
 go_wp2_with (first
  | (replace tok:Tok 1:=nxT 0 tok;go_at_call 30;rw [←hwb.out];refine (hG.out _ (xR _)).mono ?_;rintro e w1 ⟨rfl,rfl⟩;(have y0:=c0.out _ (xR _)))
  | (replace tok:Tok 2:=nxT 1 tok;go_at_call 90;refine (hN.out _).mono ?_;rintro e w2 ⟨rfl,hE2⟩;clear y0;replace hE2:=mK hE2)
  | (replace tok:Tok 3:=nxT 2 tok;refine wpList_load_row (by rfl) 58 (.tmp 3) rfl w.heap.size rfl 58 #[.string d.nm,.int .u8 d.kd,.bool p.b1,.slice p.a1 p.n1 p.c1,.bool p.b2,.slice p.a2 p.n2 p.c2,.bool q.b1,.slice q.a1 q.n1 q.c1,.bool q.b2,.slice q.a2 q.n2 q.c2,.int .i64 d.co] (0,0) _ (hE2.out.blk z0.out) Tryz.underlying58 rfl (by kernel_rfl) ?_)
  | (replace tok:Tok 4:=nxT 3 tok;go_at_call 91;refine (hY.out _ hE2.out).mono ?_;rintro e w3 ⟨rfl,hx⟩;replace hE2:=mK (hE2.out.trans hx);clear hx))
 clear tok
 apply Late.region_late Ext [.val (.pointer (some ⟨g,0,none⟩)),.val (.pointer (some ⟨g,0,none⟩)),.val (.pointer (some ⟨g,0,none⟩)),.val (.map (some M)),.val (.pointer (some ⟨w.heap.size,0,none⟩)),.val (.string d.nm),.val (.tuple #[zeroPart,.bool false]),.val (.tuple #[zeroPart,.bool false]),.val zeroPart,.val (.bool false),.pred (VarAt wb.heap.size #[.string ⟨#[]⟩,.int .u8 0,.bool false,.slice none 0 0,.bool false,.slice none 0 0,.bool false,.slice none 0 0,.bool false,.slice none 0 0,.int .i64 0] 58)] 9 _ 28 (.bool false) mixed (by kernel_rfl) rfl rfl rfl (by kernel_rfl) (by kernel_rfl) (fun _ _ _ h=>h)
  (fun a W _ hf=>by
   have h7:a.tmps.getD 19 undef=.tuple #[zeroPart,.bool false]:=hf 7 _ _ _ rfl rfl rfl (by kernel_rfl);refine .inl ⟨rfl,fun w=>?_⟩;simp only [execOp,Act.eval,h7]
   rfl)
  xR (fun _ _ _=>Ext.trans) (fun w=>(xR w).dr) (stableAll_mem (stable_vals _ (stable_vals _ (stable_vals _ (stable_vals _ (stable_vals _ (stable_vals _ (stable_vals _ (stable_vals _ (stable_vals _ (stable_vals _ (Oc _ _ _ trivial))))))))))))
 iterate 3 (refine ⟨fun W hW _=>by go_simp;first|exact ⟨xR _,rfl⟩|exact xR _,?_⟩)
 refine ⟨fun W hW _=>by have:=cg.out W (hE2.out.trans hW);go_simp;first|exact ⟨xR _,rfl⟩|exact xR _,?_⟩;refine ⟨fun W hW _=>by go_simp;first|exact ⟨xR _,rfl⟩|exact xR _,?_⟩;refine ⟨fun W hW _=>by have:=c0.out W (hE2.out.trans hW);go_simp;first|exact ⟨xR _,rfl⟩|exact xR _,?_⟩;refine ⟨fun W hW _=>by have:=hL.out W (hE2.out.trans hW);go_simp;first|exact ⟨xR _,rfl⟩|exact xR _,?_⟩;iterate 3 (refine ⟨fun W hW _=>by go_simp;first|exact ⟨xR _,rfl⟩|exact xR _,?_⟩)
 refine ⟨fun W hW hF=>?al,fun v10=>fun W hW hF=>?fin⟩
 case al=>
  have hnv:=mK (Ga (b:=wb.heap.size) (cs:=#[.string ⟨#[]⟩,.int .u8 0,.bool false,.slice none 0 0,.bool false,.slice none 0 0,.bool false,.slice none 0 0,.bool false,.slice none 0 0,.int .i64 0]) (T:=58) W (hE2.out.trans hW).size);go_simp;exact ⟨hnv.out.1,hnv.out.2.1⟩
 case fin=>
  obtain ⟨gd,rfl,hgb,hgd⟩:=hF.1 rfl;have hE3:Ext wb (W.setRow gd #[.string ⟨#[]⟩,.int .u8 0,.bool false,.slice none 0 0,.bool false,.slice none 0 0,.bool false,.slice none 0 0,.bool false,.slice none 0 0,.int .i64 0]):=(hE2.out.trans hW).row hgb _;obtain ⟨w4,hw4⟩:=nmE (W.setRow gd #[.string ⟨#[]⟩,.int .u8 0,.bool false,.slice none 0 0,.bool false,.slice none 0 0,.bool false,.slice none 0 0,.bool false,.slice none 0 0,.int .i64 0]);rw [←hw4] at hE3;replace hE3:=mK hE3;replace hw4:=mK hw4;replace hgd:=mK hgd;have y1:=cg.out w4 hE3.out;have y2:=fun ty=>(hC.out w4 hE3.out).map.len ty;have y3:((es.length:Int)<64):=by omega
  clear hF hW hE2;go_simp;go_wp2_with (refine wpList_store_row rfl 58 (.tmp 5) (.tmp 27) rfl gd #[.string ⟨#[]⟩,.int .u8 0,.bool false,.slice none 0 0,.bool false,.slice none 0 0,.bool false,.slice none 0 0,.bool false,.slice none 0 0,.int .i64 0] rfl rfl 58 _ hgd.out (by kernel_rfl) rfl (by kernel_rfl) ?_;rw [←hw4.out]);clear y1 y2;apply Ad [.val (.pointer (some ⟨g,0,none⟩)),.val (.pointer (some ⟨g,0,none⟩)),.val (.pointer (some ⟨g,0,none⟩)),.val (.map (some M)),.val (.pointer (some ⟨w.heap.size,0,none⟩)),.val (.string d.nm),.val (.agg #[.string d.nm,.int .u8 d.kd,.bool p.b1,.slice p.a1 p.n1 p.c1,.bool p.b2,.slice p.a2 p.n2 p.c2,.bool q.b1,.slice q.a1 q.n1 q.c1,.bool q.b2,.slice q.a2 q.n2 q.c2,.int .i64 d.co]),.pred (fun W v=>PartK wb.heap.size W v d)] (by kernel_rfl) (stable_vals _ (stable_vals _ (stable_vals _ (stable_vals _ (stable_vals _ (stable_vals _ (stable_vals _ (Ad8 _ _ trivial))))))));iterate 3 (refine ⟨fun W hW _=>by go_simp;first|exact ⟨xR _,rfl⟩|exact xR _,?_⟩)
  refine ⟨fun W hW _=>by have:=cg.out W (hE3.out.trans hW);go_simp;first|exact ⟨xR _,rfl⟩|exact xR _,?_⟩;refine ⟨fun W hW _=>by go_simp;first|exact ⟨xR _,rfl⟩|exact xR _,?_⟩;refine ⟨fun W hW _=>by have:=c0.out W (hE3.out.trans hW);go_simp;first|exact ⟨xR _,rfl⟩|exact xR _,?_⟩;refine ⟨?ld,?_⟩
  case ld=>
   intro W hW hF;have hr:=hW.blk (hE3.out.blk z0.out);with_reducible refine De ?zhw 58 (.tmp 3) ?zho w.heap.size ?zhx 58 #[.string d.nm,.int .u8 d.kd,.bool p.b1,.slice p.a1 p.n1 p.c1,.bool p.b2,.slice p.a2 p.n2 p.c2,.bool q.b1,.slice q.a1 q.n1 q.c1,.bool q.b2,.slice q.a2 q.n2 q.c2,.int .i64 d.co] (0,0) _ hr Tryz.underlying58 ?zhd ?zhi ?zh
   case zhw=>kernel_rfl
   case zho=>rfl
   case zhx=>kernel_rfl
   case zhd=>rfl
   case zhi=>kernel_rfl
   case zh=>exact ⟨xR _,rfl⟩
  refine ⟨fun W hW hF=>?cp,fun v7=>fun W hW hF=>?fin2⟩
  case cp=>
   clear hF;go_simp;refine (hK.out W (hE3.out.trans hW)).mono ?_;rintro e w' ⟨v,rfl,h1,h2⟩;exact ⟨v,rfl,h1,h2.mono (hE3.out.trans hW).size⟩
  case fin2=>
   have hv:PartK wb.heap.size W v7 d:=hF.1 rfl;have hE5:=hE3.out.trans hW;obtain ⟨w6,r1,r2,r3⟩:=(hC.out W hE5).map.store (d,v7) hs.out (by unfold maxLen;omega) hf.out;have hcat:=(hC.out W hE5).put r2 r3 (hv.mono (show w.heap.size≤wb.heap.size from hE.out.size)) hM hd.out hl
   have hk:PartK w.heap.size w6 v7 d:=by
    have hg:=r3.grown;have hb:∀ k,k<W.heap.size→k≠M→w6.heap[k]? = W.heap[k]?:=fun k hk hne=>hg.block k hk (fun e=>hne (Option.some.inj e));have hs':=hE.out.size;refine (hv.mono hE.out.size).near fun k hk=>hb k (hv.span k hk).2 (by have:=(hv.span k hk).1;omega)
   have hch:Hid (Chg w w6 (· = M)):=(Chg.of_ext (hE.out.trans hE5) _).trans (Cat.turned r3);clear hF hv hW r2 r3 hE5;replace hcat:=mK hcat;replace hk:=mK hk;go_simp;go_wp2_with fail;go_ret;exact ⟨rfl,_,hk.out,hcat.out,hch.out⟩
theorem Mc {w:World}{g T:Nat}{A news B:List Value}(h:w.heap[g]? = some (.cells (A++(news++B)).toArray T (0,0))):∀ j u,news[j]? = some u→w.cell? (Addr.add ⟨g,A.length,none⟩ j)=some u:=by
 intro j u hj
 have e:(Addr.add ⟨g,A.length,none⟩ j)=⟨g,A.length+j,none⟩:=by
  unfold Addr.add;by_cases h0:j=0
  ·subst h0;simp
  ·simp [h0]
 rw [e,Aa h,List.getElem?_toArray,List.getElem?_append_right (by omega),show A.length+j-A.length=j by omega,List.getElem?_append_left (List.getElem?_eq_some_iff.1 hj).1];exact hj
theorem Row.near1 {w w':World}{a:Option Addr}{xs:List Value}(h:Row w a xs)(e:∀ g,a.map (·.block)=some g→g<w.heap.size→w'.heap[g]? = w.heap[g]?):Row w' a xs:=by
 obtain ⟨b,off,h1,h2⟩:=h;by_cases hx:xs=[]
 ·subst hx
  exact ⟨b,off,h1,fun j hj=>by simp at hj⟩
 ·have ha:=h1 hx
  refine ⟨b,off,h1,fun j hj=>?_⟩;have hb:=e b (by rw [ha];rfl) (World.block_lt_of_cell? _ _ (h2 j hj));rw [←h2 j hj];exact World.cell?_of_block hb
theorem IntR.near1 {w w':World}{v:Value}{x:Int}(h:IntR w v x)(e:∀ g∈Aloof.blks v,g<w.heap.size→w'.heap[g]? = w.heap[g]?):IntR w' v x:=by
 obtain ⟨s,rfl,a,c,rfl,h1,h2⟩:=h;exact ⟨_,rfl,_,_,rfl,h1,h2.near1 fun g hg=>e g (Uy hg)⟩
theorem FracR.near1 {w w':World}{v:Value}{q:Rat}(h:FracR w v q)(e:∀ g∈Aloof.blks v,g<w.heap.size→w'.heap[g]? = w.heap[g]?):FracR w' v q:=by
 obtain ⟨b1,a1,n1,c1,b2,a2,n2,c2,rfl,h1,h2⟩:=h;rw [Ei] at e;exact ⟨_,_,_,_,_,_,_,_,rfl,h1.near1 fun g hg=>e g (List.mem_append_left _ hg),h2.near1 fun g hg=>e g (List.mem_append_right _ hg)⟩
theorem PartR.near1 {w w':World}{v:Value}{d:PD}(h:PartR w v d)(e:∀ g∈Aloof.blks v,g<w.heap.size→w'.heap[g]? = w.heap[g]?):PartR w' v d:=by
 obtain ⟨b1,a1,n1,c1,b2,a2,n2,c2,b3,a3,n3,c3,b4,a4,n4,c4,rfl,h1,h2⟩:=h;rw [Fj] at e;exact ⟨_,_,_,_,_,_,_,_,_,_,_,_,_,_,_,_,rfl,h1.near1 fun g hg=>e g (List.mem_append_left _ hg),h2.near1 fun g hg=>e g (List.mem_append_right _ hg)⟩
theorem Wf {w0 w1 w2:World}{v5 v7 v:Value}{d:PD}(h:PartR w0 v d)(g1:w0.grownBy w1 v5.ownBlock)(g2:w1.grownBy w2 v7.ownBlock)(hl:v7.ownBlock=v5.ownBlock∨v7.ownBlock=some w0.heap.size)(hn:∀ k,v5.ownBlock=some k→k∉Aloof.blks v):PartR w2 v d:=by
 refine h.near1 fun g hg hlt=>?_;have hne:some g≠v5.ownBlock:=fun e=>hn g e.symm hg;refine Eq.trans (g2.block g (Nat.lt_of_lt_of_le hlt g1.size) fun e=>?_) (g1.block g hlt hne);rcases hl with hl|hl
 ·exact hne (e.trans hl)
 ·rw [hl] at e
  cases e;omega
theorem Ew {w:World}{lo n:Nat}{v:Value}{xs:List Value}(h:w.ownsRow lo 58 11 v n xs):∃ a m c,v=.slice a m c:=by
 rcases h.2 with ⟨e,_⟩|⟨k,cap,cur,e,_⟩
 ·exact ⟨_,_,_,e⟩
 ·exact ⟨_,_,_,e⟩
theorem Aek {w:World}{g T n:Nat}{A news B:List Value}(h:w.heap[g]? = some (.cells (A++(news++B)).toArray T (0,0)))(hA:A.length=n):∀ j u,news[j]? = some u→w.cell? (Addr.add ⟨g,n,none⟩ j)=some u:=by
 subst hA;exact Mc h
theorem Vr {w:World}{n:Nat}{A:Addr}{news:List Value}(h:news.length=n)(h0:n=0):∀ j u,news[j]? = some u→w.cell? (A.add j)=some u:=by
 intro j u hj;have:=(List.getElem?_eq_some_iff.1 hj).1;omega
theorem PartN.new {lo:Nat}{w:World}{v:Value}{d:PD}(h:PartN lo w v d):PartR w v d∧∀ g∈Aloof.blks v,lo≤g:=by
 obtain ⟨b1,a1,n1,c1,b2,a2,n2,c2,b3,a3,n3,c3,b4,a4,n4,c4,rfl,h1,h2⟩:=h;refine ⟨⟨_,_,_,_,_,_,_,_,_,_,_,_,_,_,_,_,rfl,h1.1,h2.1⟩,fun g hg=>?_⟩;rw [Fj] at hg;have k1:=h1.2 _ _ _ _ rfl;have k2:=h2.2 _ _ _ _ rfl
 have hh:∀ {b:Bool} {a:Option Addr} {n c:Nat},NewV lo (.slice a n c)→g∈Aloof.blks (.agg #[.bool b,.slice a n c])→lo≤g:=by
  intro b a n c k hm;have e:=Ya hm;exact k g (by cases a<;>first|(simp at e;done)|simpa [Value.ownBlock] using e)
 rw [Ei,Ei] at hg;rcases List.mem_append.1 hg with hg|hg
 ·rcases List.mem_append.1 hg with hg|hg
  ·exact hh k1.1 hg
  ·exact hh k1.2 hg
 ·rcases List.mem_append.1 hg with hg|hg
  ·exact hh k2.1 hg
  ·exact hh k2.2 hg
theorem RefC.shape {w:World}{l:Value}{es:List (PD×Value)}(h:RefC w l es):(l=.slice none 0 0∧es=[])∨∃ g c rest,l=.slice (some ⟨g,0,none⟩) es.length c∧es.length≤c∧c≤maxLen∧w.heap[g]? = some (.cells (Af es++rest).toArray 58 (0,0)):=by
 rcases h.row.2 with ⟨e,h0⟩|⟨g,cap,cur,e,-,h4,h5,h6,h7,h8⟩
 ·exact .inl ⟨e,List.eq_nil_of_length_eq_zero (by simpa using h0)⟩
 ·refine .inr ⟨g,cap,cur.toList.drop (es.length*11),e,h5,h6,?_⟩
  rw [←h8,List.take_append_drop,Array.toArray_toList];exact h4
theorem Dc {w:World}{lo E n:Nat}{v:Value}{xs:List Value}(h:w.ownsRow lo E 11 v n xs):∀ g,v.ownBlock=some g→lo≤g∧g<w.heap.size:=by
 intro g hg;rcases h.2 with ⟨e,_⟩|⟨k,cap,cur,e,h1,h2,_⟩
 ·rw [e] at hg;cases hg
 ·rw [e] at hg
  cases hg;exact ⟨h1,(Array.getElem?_eq_some_iff.1 h2).1⟩
theorem Lg (x z:PD×Value):∀ {es:List (PD×Value)},z∈insP x es→z=x∨z∈es
 | [],h=>by
  unfold insP at h
  exact .inl (by simpa using h)
 | y::r,h=>by
  unfold insP at h
  split at h
  ·rcases List.mem_cons.1 h with h|h
   ·exact .inl h
   ·exact .inr h
  ·rcases List.mem_cons.1 h with h|h
   ·exact .inr (h ▸ List.mem_cons_self)
   ·rcases Lg x z h with h|h
    ·exact .inl h
    ·exact .inr (List.mem_cons_of_mem _ h)
theorem Np (x:PD×Value):∀ {es:List (PD×Value)},Rising es→Ay x.1.nm es=none→Rising (insP x es)
 | [],_,_=>by
  unfold insP Rising
  exact List.pairwise_singleton _ _
 | y::r,hr,hf=>by
  obtain ⟨h1,h2⟩:=List.pairwise_cons.1 hr
  unfold Ay at hf
  rw [List.find?_cons] at hf
  have hne:Bb x.1.nm y=false:=by
   cases hn:Bb x.1.nm y with
   | true=>rw [hn] at hf;cases hf
   | false=>rfl
  rw [hne] at hf
  have hne':y.1.nm.data.toList≠x.1.nm.data.toList:=by
   unfold Bb at hne;simpa using hne
  unfold insP;split
  ·rename_i hb
   refine List.pairwise_cons.2 ⟨fun z hz=>?_,hr⟩;rcases List.mem_cons.1 hz with rfl|hz
   ·exact hb
   ·exact WideShapes.bytes_trans _ _ _ hb (h1 z hz)
  ·rename_i hb
   refine List.pairwise_cons.2 ⟨fun z hz=>?_,Np x h2 hf⟩;rcases Lg x z hz with rfl|hz
   ·rcases WideAt.bytes_total _ _ hne' with h|h
    ·exact h
    ·exact absurd h hb
   ·exact h1 z hz
theorem Fk {ops:Array Oper}{rest:List Oper}{o:Oper}{act:Act}{w:World}{Q:Exit→Act→World→Prop}(hgd:o.guard=none)(s x:Operand)(ho:o.op=.call { callee:=.builtin .append,args:=#[s,x],argTypes:=#[26,26] })
  (base:Nat) (v:Value) (n:Nat) (xs:List Value) (hs:act.eval s=v) (hown:w.ownsRow base 58 11 v n xs) (m:Nat) (news:List Value) (hx:∃ ad c,act.eval x=.slice (some ad) m c∧∀ j u,news[j]? = some u→w.cell? (ad.add j)=some u) (hl:news.length=m*11)
  (h1:∀ u∈news,u.oneCell'=true) (hb:n+m≤1000) (hbase:base≤w.heap.size)
  (h:∀ v' w',w'.ownsRow base 58 11 v' (n+m) (xs++news)→w.grownBy w' v.ownBlock→wpList Tryz.prog ops Q rest (act.put o.dst v') w') :
  wpList Tryz.prog ops Q (o::rest) act w:=by
 obtain ⟨ad,c,e,hc⟩:=hx;exact Bh hgd s x ho base v n xs hs hown (some ad) m c news e hl (.inr ⟨ad,rfl,hc⟩) h1 hb hbase fun v' w' k1 k2 _=>h v' w' k1 k2
def Ab0 (w:World)(d:PD)(es:List (PD×Value))(e:Ending)(w':World):Prop:=
 ∃ l' v,e=.returned (.tuple #[.agg #[.bool false,l'],.int .i64 0])∧RefC w' l' (insP (d,v) es)∧(∀ g,l'.ownBlock=some g→w.heap.size≤g)∧(∀ g∈Aloof.blks v,w.heap.size≤g)∧Ext w w'
theorem Xx (x:PD×Value)(r:List (PD×Value)):Af (x::r)=x.2.cells.toList++Af r:=List.flatMap_cons
theorem Vv {w w8:World}{l v8 v:Value}{d:PD}{es:List (PD×Value)}(h:RefC w l es)(hE:Ext w w8)(hown:w8.ownsRow (w.heap.size+3) 58 11 v8 (es.length+1) (Af (insP (d,v) es)))(hP:PartR w8 v d)(hb:∀ k∈Aloof.blks v,w.heap.size+3≤k)(hd:okPD d)(hf:Ay d.nm es=none)(hl:es.length<64)(cs:Array Value) :
  Ab0 w d es (.returned (.tuple #[.agg #[.bool false,v8],.int .i64 0])) (w8.setRow (w.heap.size+2) cs):=by
 have hE9:Ext w (w8.setRow (w.heap.size+2) cs):=hE.row (by omega) _;refine ⟨v8,v,rfl,⟨?_,fun x hx=>?_,Np _ h.ris hf,fun x hx=>?_,by rw [Ge];omega⟩,fun k e=>?_,fun k hk=>?_,hE9⟩
 ·rw [Ge]
  refine ⟨hown.1,?_⟩;rcases hown.2 with h2|⟨g,cap,cur,e2,h3,h4,r⟩
  ·exact .inl h2
  ·exact .inr ⟨g,cap,cur,e2,Nat.zero_le _,(setRow_other _ _ _ _ (by omega)).trans h4,r⟩
 ·rcases Lg _ _ hx with rfl|hx
  ·exact hP.near fun k hk=>setRow_other _ _ _ _ (by have:=hb k hk;omega)
  ·exact (h.part x hx).ext hE9
 ·rcases Lg _ _ hx with rfl|hx
  ·exact hd
  ·exact h.ok x hx
 ·have:=(Dc hown k e).1
  omega
 ·have:=hb k hk
  omega
theorem Ael (p q:FV)(d:PD)(g c:Nat)(rest:List Value)(es:List (PD×Value))(w:World)(h:RefC w (.slice (some ⟨g,0,none⟩) es.length c) es)(hc1:es.length≤c)(hc2:c≤maxLen)(hr:w.heap[g]? = some (.cells (Af es++rest).toArray 58 (0,0)))
  (h1:FracR w (.agg #[.bool p.b1,.slice p.a1 p.n1 p.c1,.bool p.b2,.slice p.a2 p.n2 p.c2]) d.p) (h2:FracR w (.agg #[.bool q.b1,.slice q.a1 q.n1 q.c1,.bool q.b2,.slice q.a2 q.n2 q.c2]) d.q) (hd:okPD d) (hs:d.nm.size≤9223372036854775807) (hf:Ay d.nm es=none) (hl:es.length<64) :
  Calls Tryz.prog 16 #[.agg #[.bool false,.slice (some ⟨g,0,none⟩) es.length c],.agg #[.string d.nm,.int .u8 d.kd,.bool p.b1,.slice p.a1 p.n1 p.c1,.bool p.b2,.slice p.a2 p.n2 p.c2,.bool q.b1,.slice q.a1 q.n1 q.c1,.bool q.b2,.slice q.a2 q.n2 q.c2,.int .i64 d.co]] w (Ab0 w d es):=by
 obtain ⟨wb,hwb⟩:=nmE (((w.alloc (.cells #[.bool false,.slice (some ⟨g,0,none⟩) es.length c] 28)).alloc (.cells #[.string d.nm,.int .u8 d.kd,.bool p.b1,.slice p.a1 p.n1 p.c1,.bool p.b2,.slice p.a2 p.n2 p.c2,.bool q.b1,.slice q.a1 q.n1 q.c1,.bool q.b2,.slice q.a2 q.n2 q.c2,.int .i64 d.co] 58)).alloc (.cells #[.bool false,.slice none 0 0] 28));have hE:=aLe3 hwb;have zC:=mK (aL30 hwb);have zP:=mK (aL31 hwb);have zR:=mK (aL32 hwb);have hN:=fun W=>Iq d.nm W hs;rw [hd.2.2.1] at hN;have hY:=fun W (e:Ext w W)=>Pq d.nm d.kd d.co p.b1 p.a1 p.n1 p.c1 p.b2 p.a2 p.n2 p.c2 q.b1 q.a1 q.n1 q.c1 q.b2 q.a2 q.n2 q.c2 (some d.p) (some d.q) W (by have:=(h1.ext e).any (nT hd.1 (by decide));rwa [if_pos hd.1] at this) (by have:=(h2.ext e).any (nT hd.2.1 (by decide));rwa [if_pos hd.2.1] at this);rw [hd.2.2.2] at hY;have hO:=mK (fun W (e:Ext w W)=>Ae0 (.agg #[.string d.nm,.int .u8 d.kd,.bool p.b1,.slice p.a1 p.n1 p.c1,.bool p.b2,.slice p.a2 p.n2 p.c2,.bool q.b1,.slice q.a1 q.n1 q.c1,.bool q.b2,.slice q.a2 q.n2 q.c2,.int .i64 d.co]) d W hd.1 hd.2.1 (PartR.mk (h1.ext e) (h2.ext e)));have hL:=fun W (e:Ext w W)=>Fz d.nm (.slice (some ⟨g,0,none⟩) es.length c) es W (h.ext e);rw [hf] at hL;have hil:Bk d.nm es≤es.length:=(List.takeWhile_sublist _).length_le;have hins:=fun v=>Qj d v h.ris hf;generalize Bk d.nm es=i at *;have hav:=mK h.allV
 have hsplit:Af es++rest=[]++(Af (es.take i)++(Af (es.drop i)++rest)):=by
  rw [List.nil_append,←List.append_assoc,←Cd,List.take_append_drop]
 have htl:(Af (es.take i)).length=i*11:=by rw [Cn (hav.out.take i),List.length_take,Nat.min_eq_left hil]
 have hdl:(Af (es.drop i)).length=(es.length-i)*11:=by rw [Cn (hav.out.drop i),List.length_drop]
 replace hsplit:=mK hsplit;replace htl:=mK htl;replace hdl:=mK hdl;replace hN:=mK hN;replace hY:=mK hY;replace hL:=mK hL;replace hins:=mK hins;replace hE:=mK hE;replace hwb:=mK hwb;replace hr:=mK hr;replace hf:=mK hf;replace hd:=mK hd;have hRC:=mK h;clear h;have y0:=Aa zC.out 0;have y1:=Aa zC.out 1;have yp:=Aa zP.out 0;have hl':(es.length:Int)<64:=by omega
 have hcI:(c:Int)≤9223372036854775807:=by unfold maxLen at hc2;omega
 have hi':(i:Int)≤(es.length:Int):=by omega
 replace hc2:=mK hc2;clear h1 h2 hs;go_enter Tryz.func16,Tryz.ntmps16;have tok:Tok 0:=.mk _
 go_wp2_with (first
  | (replace tok:Tok 1:=nxT 0 tok;go_at_call 86;rw [←hwb.out];refine (hN.out _).mono ?_;rintro e w2 ⟨rfl,hE2⟩;clear y0 y1 yp;replace hE2:=mK hE2)
  | (replace tok:Tok 2:=nxT 1 tok;refine wpList_load_row (by rfl) 58 (.tmp 3) rfl (w.heap.size+1) rfl 58 #[.string d.nm,.int .u8 d.kd,.bool p.b1,.slice p.a1 p.n1 p.c1,.bool p.b2,.slice p.a2 p.n2 p.c2,.bool q.b1,.slice q.a1 q.n1 q.c1,.bool q.b2,.slice q.a2 q.n2 q.c2,.int .i64 d.co] (0,0) _ (hE2.out.blk zP.out) Tryz.underlying58 rfl (by kernel_rfl) ?_)
  | (replace tok:Tok 3:=nxT 2 tok;go_at_call 87;refine (hY.out _ (hE.out.trans hE2.out)).mono ?_;rintro e w3 ⟨rfl,hx⟩;replace hE2:=mK (hE2.out.trans hx);(have yp:=Aa (hE2.out.blk zP.out) 0);clear hx)
  | (replace tok:Tok 4:=nxT 3 tok;refine wpList_load_row (by rfl) 28 (.tmp 2) rfl w.heap.size rfl 28 #[.bool false,.slice (some ⟨g,0,none⟩) es.length c] (0,0) _ (hE2.out.blk zC.out) Tryz.underlying28 rfl (by kernel_rfl) ?_)
  | (replace tok:Tok 5:=nxT 4 tok;go_at_call 88;refine (hL.out _ (hE.out.trans hE2.out)).mono ?_;rintro e w4 ⟨rfl,hx⟩;replace hE2:=mK (hE2.out.trans hx);clear yp;(have y1:=Aa (hE2.out.blk zC.out) 1);clear hx)
  | (replace tok:Tok 6:=nxT 5 tok;at_builtin;(have hr4:=(hE.out.trans hE2.out).blk hr.out);rw [hsplit.out] at hr4;(have hs4:=hE2.out.size);refine Bh rfl (.tmp 35) (.tmp 39) ?ya wb.heap.size (.slice none 0 0) 0 [] ?yb (World.ownsRow_nil _ _ _ _) (some ⟨g,0,none⟩) i c (Af (es.take i)) ?yc htl.out (.inr ⟨_,rfl,Mc (A:=[]) hr4⟩) (hav.out.take i).one ?yg hs4 ?_;(case ya=>rfl);(case yb=>rfl);(case yc=>rfl);(case yg=>omega);intro v5 w5 hown5 hgrow5 hloc5;replace hE2:=mK (hE2.out.gr hgrow5 (fun k e=>by cases e));(have zC5:=Aa (hE2.out.blk zC.out) 1);(have hlt5:=mK (fun k e=>(Dc hown5 k e).2));replace hown5:=mK hown5;clear hr4 hs4 hgrow5 hloc5 y1)
  | (replace tok:Tok 7:=nxT 6 tok;refine wpList_load_row (by rfl) 58 (.tmp 3) rfl (w.heap.size+1) rfl 58 #[.string d.nm,.int .u8 d.kd,.bool p.b1,.slice p.a1 p.n1 p.c1,.bool p.b2,.slice p.a2 p.n2 p.c2,.bool q.b1,.slice q.a1 q.n1 q.c1,.bool q.b2,.slice q.a2 q.n2 q.c2,.int .i64 d.co] (0,0) _ (hE2.out.blk zP.out) Tryz.underlying58 rfl (by kernel_rfl) ?_)
  | (replace tok:Tok 8:=nxT 7 tok;go_at_call 89;refine (hO.out _ (hE.out.trans hE2.out)).mono ?_;rintro e w6 ⟨v6,rfl,hN6,hx6⟩;(obtain ⟨hP6,hB6⟩:=hN6.new);(obtain ⟨p',q',rfl,-,-⟩:=hP6.fv);replace hown5:=mK (Aw hown5.out hx6);(have hb6:=mK (show ∀ k∈Aloof.blks (.agg #[.string d.nm,.int .u8 d.kd,.bool p'.b1,.slice p'.a1 p'.n1 p'.c1,.bool p'.b2,.slice p'.a2 p'.n2 p'.c2,.bool q'.b1,.slice q'.a1 q'.n1 q'.c1,.bool q'.b2,.slice q'.a2 q'.n2 q'.c2,.int .i64 d.co]),wb.heap.size≤k from fun k hk=>nT hE2.out.size (hB6 k hk)));replace hE2:=mK (hE2.out.trans hx6);(have hn6:=mK (show ∀ k,v5.ownBlock=some k→k∉Aloof.blks (.agg #[.string d.nm,.int .u8 d.kd,.bool p'.b1,.slice p'.a1 p'.n1 p'.c1,.bool p'.b2,.slice p'.a2 p'.n2 p'.c2,.bool q'.b1,.slice q'.a1 q'.n1 q'.c1,.bool q'.b2,.slice q'.a2 q'.n2 q'.c2,.int .i64 d.co]) from fun k e hm=>Nat.lt_irrefl _ (Nat.lt_of_lt_of_le (hlt5.out k e) (hB6 k hm))));replace hP6:=mK hP6;clear hN6 hx6 hB6 zC5 hlt5)
  | (replace tok:Tok 9:=nxT 8 tok;at_builtin;(have hx7:=(xR w6).al (.cells #[.string d.nm,.int .u8 d.kd,.bool p'.b1,.slice p'.a1 p'.n1 p'.c1,.bool p'.b2,.slice p'.a2 p'.n2 p'.c2,.bool q'.b1,.slice q'.a1 q'.n1 q'.c1,.bool q'.b2,.slice q'.a2 q'.n2 q'.c2,.int .i64 d.co] 58));(have hs4:=nT hE2.out.size hx7.size);refine Bh rfl (.tmp 41) (.tmp 44) ?ya2 wb.heap.size v5 (0+i) _ ?yb2 (Aw hown5.out hx7) (some ⟨w6.heap.size,0,none⟩) 1 1 [.string d.nm,.int .u8 d.kd,.bool p'.b1,.slice p'.a1 p'.n1 p'.c1,.bool p'.b2,.slice p'.a2 p'.n2 p'.c2,.bool q'.b1,.slice q'.a1 q'.n1 q'.c1,.bool q'.b2,.slice q'.a2 q'.n2 q'.c2,.int .i64 d.co] ?yc2 rfl (.inr ⟨_,rfl,Jq w6 _ _⟩) (Hv d p' q') ?yg2 hs4 ?_;(case ya2=>rfl);(case yb2=>rfl);(case yc2=>rfl);(case yg2=>omega);intro v7 w7 hown7 hgrow7 hloc7;(have hp7:=mK (hP6.out.ext hx7));replace hE2:=mK ((hE2.out.trans hx7).gr hgrow7 (fun k e=>(Dc hown5.out k e).1));(have zC7:=Aa (hE2.out.blk zC.out) 1);replace hown7:=mK hown7;replace hgrow7:=mK hgrow7;replace hloc7:=mK hloc7;clear hs4 hx7)
  | (replace tok:Tok 10:=nxT 9 tok;at_builtin;(have hr4:=(hE.out.trans hE2.out).blk hr.out);rw [hsplit.out,List.nil_append] at hr4;(have hs4:=hE2.out.size);refine Fk rfl (.tmp 46) (.tmp 50) ?yd wb.heap.size v7 (0+i+1) _ ?ye hown7.out (es.length-i) (Af (es.drop i)) ?yf hdl.out (hav.out.drop i).one ?yh hs4 ?_;(case yd=>rfl);(case ye=>rfl);(case yf=>by_cases hci:c=i<;>simp only [hci,if_true,if_false];refine ⟨_,_,rfl,?_⟩;exact Vr hdl.out (by omega);refine ⟨_,_,rfl,?_⟩;exact Aek hr4 htl.out);(case yh=>omega);intro v8 w8 hown8 hgrow8;(have hp8:=mK (Wf hp7.out hgrow7.out hgrow8 hloc7.out hn6.out));clear hp7;(obtain ⟨a8,n8,c8,rfl⟩:=Ew hown8);replace hown8:=mK hown8;replace hgrow8:=mK hgrow8;replace hE2:=mK (hE2.out.gr hgrow8.out (fun k e=>(Dc hown7.out k e).1));(have zR8:=mK (hE2.out.blk zR.out));clear hr4 hs4 zC7)
  | (replace tok:Tok 11:=nxT 10 tok;refine wpList_store_row rfl 28 (.tmp 4) (.tmp 52) rfl (w.heap.size+2) #[.bool false,.slice a8 n8 c8] rfl rfl 28 _ zR8.out (by kernel_rfl) rfl (by kernel_rfl) ?_))
 all_goals (
  refine bodyPost_ret (Ae rfl _ _ (w.heap.size+2) 28 #[.bool false,.slice a8 n8 c8] _ _ rfl rfl (setRow_heap _ _ _ _ _ _ zR8.out) Tryz.underlying28 rfl (by kernel_rfl)) rfl ?_;have hsz:=aLs3 hwb.out;refine Vv hRC.out (hE.out.trans hE2.out) ?_ hp8.out (fun k hk=>hsz ▸ hb6.out k hk) hd.out hf.out hl _;have:=hown8.out;rw [hsz] at this;rw [hins.out,Cd,Xx,←List.append_assoc];have e:0+i+1+(es.length-i)=es.length+1:=by omega
  rw [e,List.nil_append] at this
  exact this)
theorem Aem (p q:FV)(d:PD)(w:World)
  (h1:FracR w (.agg #[.bool p.b1,.slice p.a1 p.n1 p.c1,.bool p.b2,.slice p.a2 p.n2 p.c2]) d.p) (h2:FracR w (.agg #[.bool q.b1,.slice q.a1 q.n1 q.c1,.bool q.b2,.slice q.a2 q.n2 q.c2]) d.q) (hd:okPD d) (hs:d.nm.size≤9223372036854775807) :
  Calls Tryz.prog 16 #[.agg #[.bool false,.slice none 0 0],.agg #[.string d.nm,.int .u8 d.kd,.bool p.b1,.slice p.a1 p.n1 p.c1,.bool p.b2,.slice p.a2 p.n2 p.c2,.bool q.b1,.slice q.a1 q.n1 q.c1,.bool q.b2,.slice q.a2 q.n2 q.c2,.int .i64 d.co]] w (Ab0 w d []):=by
 obtain ⟨wb,hwb⟩:=nmE (((w.alloc (.cells #[.bool false,.slice none 0 0] 28)).alloc (.cells #[.string d.nm,.int .u8 d.kd,.bool p.b1,.slice p.a1 p.n1 p.c1,.bool p.b2,.slice p.a2 p.n2 p.c2,.bool q.b1,.slice q.a1 q.n1 q.c1,.bool q.b2,.slice q.a2 q.n2 q.c2,.int .i64 d.co] 58)).alloc (.cells #[.bool false,.slice none 0 0] 28));have hE:=mK (aLe3 hwb);have zC:=mK (aL30 hwb);have zP:=mK (aL31 hwb);have zR:=mK (aL32 hwb);have hN:=fun W=>Iq d.nm W hs;rw [hd.2.2.1] at hN;have hY:=fun W (e:Ext w W)=>Pq d.nm d.kd d.co p.b1 p.a1 p.n1 p.c1 p.b2 p.a2 p.n2 p.c2 q.b1 q.a1 q.n1 q.c1 q.b2 q.a2 q.n2 q.c2 (some d.p) (some d.q) W (by have:=(h1.ext e).any (nT hd.1 (by decide));rwa [if_pos hd.1] at this) (by have:=(h2.ext e).any (nT hd.2.1 (by decide));rwa [if_pos hd.2.1] at this);rw [hd.2.2.2] at hY;have hO:=mK (fun W (e:Ext w W)=>Ae0 (.agg #[.string d.nm,.int .u8 d.kd,.bool p.b1,.slice p.a1 p.n1 p.c1,.bool p.b2,.slice p.a2 p.n2 p.c2,.bool q.b1,.slice q.a1 q.n1 q.c1,.bool q.b2,.slice q.a2 q.n2 q.c2,.int .i64 d.co]) d W hd.1 hd.2.1 (PartR.mk (h1.ext e) (h2.ext e)));have hL:=fun W (e:Ext w W)=>Fz d.nm (.slice none 0 0) [] W (Pj W);rw [show Ay d.nm []=none from rfl,show Bk d.nm []=0 from rfl] at hL;replace hN:=mK hN;replace hY:=mK hY;replace hL:=mK hL;replace hwb:=mK hwb;replace hd:=mK hd;have y0:=Aa zC.out 0;have y1:=Aa zC.out 1;have yp:=Aa zP.out 0;clear h1 h2 hs;go_enter Tryz.func16,Tryz.ntmps16;have tok:Tok 0:=.mk _
 go_wp2_with (first
  | (replace tok:Tok 1:=nxT 0 tok;go_at_call 86;rw [←hwb.out];refine (hN.out _).mono ?_;rintro e w2 ⟨rfl,hE2⟩;clear y0 y1 yp;replace hE2:=mK hE2)
  | (replace tok:Tok 2:=nxT 1 tok;refine wpList_load_row (by rfl) 58 (.tmp 3) rfl (w.heap.size+1) rfl 58 #[.string d.nm,.int .u8 d.kd,.bool p.b1,.slice p.a1 p.n1 p.c1,.bool p.b2,.slice p.a2 p.n2 p.c2,.bool q.b1,.slice q.a1 q.n1 q.c1,.bool q.b2,.slice q.a2 q.n2 q.c2,.int .i64 d.co] (0,0) _ (hE2.out.blk zP.out) Tryz.underlying58 rfl (by kernel_rfl) ?_)
  | (replace tok:Tok 3:=nxT 2 tok;go_at_call 87;refine (hY.out _ (hE.out.trans hE2.out)).mono ?_;rintro e w3 ⟨rfl,hx⟩;replace hE2:=mK (hE2.out.trans hx);(have yp:=Aa (hE2.out.blk zP.out) 0);clear hx)
  | (replace tok:Tok 4:=nxT 3 tok;refine wpList_load_row (by rfl) 28 (.tmp 2) rfl w.heap.size rfl 28 #[.bool false,.slice none 0 0] (0,0) _ (hE2.out.blk zC.out) Tryz.underlying28 rfl (by kernel_rfl) ?_)
  | (replace tok:Tok 5:=nxT 4 tok;go_at_call 88;refine (hL.out _ (hE.out.trans hE2.out)).mono ?_;rintro e w4 ⟨rfl,hx⟩;replace hE2:=mK (hE2.out.trans hx);clear yp;(have y1:=Aa (hE2.out.blk zC.out) 1);clear hx)
  | (replace tok:Tok 6:=nxT 5 tok;at_builtin;(have hs4:=hE2.out.size);refine Bh rfl (.tmp 35) (.tmp 39) ?ya wb.heap.size (.slice none 0 0) 0 [] ?yb (World.ownsRow_nil _ _ _ _) none 0 0 [] ?yc rfl (.inl ⟨rfl,rfl,rfl⟩) (fun _ hu=>by cases hu) ?yg hs4 ?_;(case ya=>rfl);(case yb=>rfl);(case yc=>rfl);(case yg=>omega);intro v5 w5 hown5 hgrow5 hloc5;replace hE2:=mK (hE2.out.gr hgrow5 (fun k e=>by cases e));(have zC5:=Aa (hE2.out.blk zC.out) 1);(have hlt5:=mK (fun k e=>(Dc hown5 k e).2));replace hown5:=mK hown5;clear hs4 hgrow5 hloc5 y1)
  | (replace tok:Tok 7:=nxT 6 tok;refine wpList_load_row (by rfl) 58 (.tmp 3) rfl (w.heap.size+1) rfl 58 #[.string d.nm,.int .u8 d.kd,.bool p.b1,.slice p.a1 p.n1 p.c1,.bool p.b2,.slice p.a2 p.n2 p.c2,.bool q.b1,.slice q.a1 q.n1 q.c1,.bool q.b2,.slice q.a2 q.n2 q.c2,.int .i64 d.co] (0,0) _ (hE2.out.blk zP.out) Tryz.underlying58 rfl (by kernel_rfl) ?_)
  | (replace tok:Tok 8:=nxT 7 tok;go_at_call 89;refine (hO.out _ (hE.out.trans hE2.out)).mono ?_;rintro e w6 ⟨v6,rfl,hN6,hx6⟩;(obtain ⟨hP6,hB6⟩:=hN6.new);(obtain ⟨p',q',rfl,-,-⟩:=hP6.fv);replace hown5:=mK (Aw hown5.out hx6);(have hb6:=mK (show ∀ k∈Aloof.blks (.agg #[.string d.nm,.int .u8 d.kd,.bool p'.b1,.slice p'.a1 p'.n1 p'.c1,.bool p'.b2,.slice p'.a2 p'.n2 p'.c2,.bool q'.b1,.slice q'.a1 q'.n1 q'.c1,.bool q'.b2,.slice q'.a2 q'.n2 q'.c2,.int .i64 d.co]),wb.heap.size≤k from fun k hk=>nT hE2.out.size (hB6 k hk)));replace hE2:=mK (hE2.out.trans hx6);(have hn6:=mK (show ∀ k,v5.ownBlock=some k→k∉Aloof.blks (.agg #[.string d.nm,.int .u8 d.kd,.bool p'.b1,.slice p'.a1 p'.n1 p'.c1,.bool p'.b2,.slice p'.a2 p'.n2 p'.c2,.bool q'.b1,.slice q'.a1 q'.n1 q'.c1,.bool q'.b2,.slice q'.a2 q'.n2 q'.c2,.int .i64 d.co]) from fun k e hm=>Nat.lt_irrefl _ (Nat.lt_of_lt_of_le (hlt5.out k e) (hB6 k hm))));replace hP6:=mK hP6;clear hN6 hx6 hB6 zC5 hlt5)
  | (replace tok:Tok 9:=nxT 8 tok;at_builtin;(have hx7:=(xR w6).al (.cells #[.string d.nm,.int .u8 d.kd,.bool p'.b1,.slice p'.a1 p'.n1 p'.c1,.bool p'.b2,.slice p'.a2 p'.n2 p'.c2,.bool q'.b1,.slice q'.a1 q'.n1 q'.c1,.bool q'.b2,.slice q'.a2 q'.n2 q'.c2,.int .i64 d.co] 58));(have hs4:=nT hE2.out.size hx7.size);refine Bh rfl (.tmp 41) (.tmp 44) ?ya2 wb.heap.size v5 (0+0) _ ?yb2 (Aw hown5.out hx7) (some ⟨w6.heap.size,0,none⟩) 1 1 [.string d.nm,.int .u8 d.kd,.bool p'.b1,.slice p'.a1 p'.n1 p'.c1,.bool p'.b2,.slice p'.a2 p'.n2 p'.c2,.bool q'.b1,.slice q'.a1 q'.n1 q'.c1,.bool q'.b2,.slice q'.a2 q'.n2 q'.c2,.int .i64 d.co] ?yc2 rfl (.inr ⟨_,rfl,Jq w6 _ _⟩) (Hv d p' q') ?yg2 hs4 ?_;(case ya2=>rfl);(case yb2=>rfl);(case yc2=>rfl);(case yg2=>omega);intro v7 w7 hown7 hgrow7 hloc7;(have hp7:=mK (hP6.out.ext hx7));replace hE2:=mK ((hE2.out.trans hx7).gr hgrow7 (fun k e=>(Dc hown5.out k e).1));(have zC7:=Aa (hE2.out.blk zC.out) 1);replace hown7:=mK hown7;replace hgrow7:=mK hgrow7;replace hloc7:=mK hloc7;clear hs4 hx7)
  | (replace tok:Tok 10:=nxT 9 tok;at_builtin;(have hs4:=hE2.out.size);refine Bh rfl (.tmp 46) (.tmp 50) ?yd wb.heap.size v7 (0+0+1) _ ?ye hown7.out none 0 0 [] ?yf rfl (.inl ⟨rfl,rfl,rfl⟩) (fun _ hu=>by cases hu) ?yh hs4 ?_;(case yd=>rfl);(case ye=>rfl);(case yf=>rfl);(case yh=>omega);intro v8 w8 hown8 hgrow8 hloc8;(have hp8:=mK (Wf hp7.out hgrow7.out hgrow8 hloc7.out hn6.out));clear hp7;(obtain ⟨a8,n8,c8,rfl⟩:=Ew hown8);replace hown8:=mK hown8;replace hgrow8:=mK hgrow8;replace hE2:=mK (hE2.out.gr hgrow8.out (fun k e=>(Dc hown7.out k e).1));(have zR8:=mK (hE2.out.blk zR.out));clear hs4 zC7 hloc8)
  | (replace tok:Tok 11:=nxT 10 tok;refine wpList_store_row rfl 28 (.tmp 4) (.tmp 52) rfl (w.heap.size+2) #[.bool false,.slice a8 n8 c8] rfl rfl 28 _ zR8.out (by kernel_rfl) rfl (by kernel_rfl) ?_))
 all_goals (
  refine bodyPost_ret (Ae rfl _ _ (w.heap.size+2) 28 #[.bool false,.slice a8 n8 c8] _ _ rfl rfl (setRow_heap _ _ _ _ _ _ zR8.out) Tryz.underlying28 rfl (by kernel_rfl)) rfl ?_;have hsz:=aLs3 hwb.out;refine Vv (Pj w) (hE.out.trans hE2.out) ?_ hp8.out (fun k hk=>hsz ▸ hb6.out k hk) hd.out rfl (by decide) _;have:=hown8.out;rw [hsz] at this;simp [Af,insP];simp at this
  exact this)
theorem Ag5 (p q:FV)(d:PD)(l:Value)(es:List (PD×Value))(w:World)(h:RefC w l es)(h1:FracR w (.agg #[.bool p.b1,.slice p.a1 p.n1 p.c1,.bool p.b2,.slice p.a2 p.n2 p.c2]) d.p)(h2:FracR w (.agg #[.bool q.b1,.slice q.a1 q.n1 q.c1,.bool q.b2,.slice q.a2 q.n2 q.c2]) d.q)(hd:okPD d)(hs:d.nm.size≤9223372036854775807)(hf:Ay d.nm es=none)(hl:es.length<64) :
  Calls Tryz.prog 16 #[.agg #[.bool false,l],.agg #[.string d.nm,.int .u8 d.kd,.bool p.b1,.slice p.a1 p.n1 p.c1,.bool p.b2,.slice p.a2 p.n2 p.c2,.bool q.b1,.slice q.a1 q.n1 q.c1,.bool q.b2,.slice q.a2 q.n2 q.c2,.int .i64 d.co]] w (Ab0 w d es):=by
 rcases h.shape with ⟨rfl,rfl⟩|⟨g,c,rest,rfl,hc1,hc2,hr⟩
 ·exact Aem p q d w h1 h2 hd hs
 ·exact Ael p q d g c rest es w h hc1 hc2 hr h1 h2 hd hs hf hl
theorem Ace (p q:FV)(nm:ByteArray)(kd co:Int)(op oq:Option Rat)(w:World)(a:Option Addr)(c:Nat)(es:List (PD×Value))(_h:RefC w (.slice a es.length c) es)(_h1:AnyF w (.agg #[.bool p.b1,.slice p.a1 p.n1 p.c1,.bool p.b2,.slice p.a2 p.n2 p.c2]) op)(_h2:AnyF w (.agg #[.bool q.b1,.slice q.a1 q.n1 q.c1,.bool q.b2,.slice q.a2 q.n2 q.c2]) oq)(hs:nm.size≤9223372036854775807)(hnm:Co nm.data.toList=false) :
  Calls Tryz.prog 16 #[.agg #[.bool false,.slice a es.length c],.agg #[.string nm,.int .u8 kd,.bool p.b1,.slice p.a1 p.n1 p.c1,.bool p.b2,.slice p.a2 p.n2 p.c2,.bool q.b1,.slice q.a1 q.n1 q.c1,.bool q.b2,.slice q.a2 q.n2 q.c2,.int .i64 co]] w fun e w'=>e=.returned (.tuple #[.agg #[.bool false,.slice a es.length c],.int .i64 9])∧Ext w w':=by
 obtain ⟨wb,hwb⟩:=nmE (((w.alloc (.cells #[.bool false,.slice a es.length c] 28)).alloc (.cells #[.string nm,.int .u8 kd,.bool p.b1,.slice p.a1 p.n1 p.c1,.bool p.b2,.slice p.a2 p.n2 p.c2,.bool q.b1,.slice q.a1 q.n1 q.c1,.bool q.b2,.slice q.a2 q.n2 q.c2,.int .i64 co] 58)).alloc (.cells #[.bool false,.slice none 0 0] 28));have hE:=mK (aLe3 hwb);have zC:=mK (aL30 hwb);have zP:=mK (aL31 hwb);have zR:=mK (aL32 hwb);have hN:=fun W=>Iq nm W hs;rw [hnm] at hN;replace hN:=mK hN;replace hwb:=mK hwb;have y0:=Aa zC.out 0;have yp:=Aa zP.out 0;clear _h _h1 _h2 hs hnm;go_enter Tryz.func16,Tryz.ntmps16;have tok:Tok 0:=.mk _
 go_wp2_with (first
  | (replace tok:Tok 1:=nxT 0 tok;go_at_call 86;rw [←hwb.out];refine (hN.out _).mono ?_;rintro e w2 ⟨rfl,hE2⟩;clear y0 yp;replace hE2:=mK hE2)
  | (replace tok:Tok 2:=nxT 1 tok;refine wpList_load_row (by rfl) 28 (.tmp 2) rfl w.heap.size rfl 28 #[.bool false,.slice a es.length c] (0,0) _ (hE2.out.blk zC.out) Tryz.underlying28 rfl (by kernel_rfl) ?_;have zR2:=mK (hE2.out.blk zR.out))
  | (replace tok:Tok 3:=nxT 2 tok;refine wpList_store_row rfl 28 (.tmp 4) (.tmp 16) rfl (w.heap.size+2) #[.bool false,.slice a es.length c] rfl rfl 28 _ zR2.out (by kernel_rfl) rfl (by kernel_rfl) ?_))
 exact bodyPost_ret (Ae rfl _ _ (w.heap.size+2) 28 #[.bool false,.slice a es.length c] _ _ rfl rfl (setRow_heap _ _ _ _ _ _ zR2.out) Tryz.underlying28 rfl (by kernel_rfl)) rfl ⟨rfl,(hE.out.trans hE2.out).row (by omega) _⟩
theorem Aen (p q:FV)(nm:ByteArray)(kd co:Int)(op oq:Option Rat)(w:World)(a:Option Addr)(c:Nat)(es:List (PD×Value))(_h:RefC w (.slice a es.length c) es)(h1:AnyF w (.agg #[.bool p.b1,.slice p.a1 p.n1 p.c1,.bool p.b2,.slice p.a2 p.n2 p.c2]) op)(h2:AnyF w (.agg #[.bool q.b1,.slice q.a1 q.n1 q.c1,.bool q.b2,.slice q.a2 q.n2 q.c2]) oq)(hs:nm.size≤9223372036854775807)(hnm:Co nm.data.toList=true)(hmy:mayP kd co op oq=false) :
  Calls Tryz.prog 16 #[.agg #[.bool false,.slice a es.length c],.agg #[.string nm,.int .u8 kd,.bool p.b1,.slice p.a1 p.n1 p.c1,.bool p.b2,.slice p.a2 p.n2 p.c2,.bool q.b1,.slice q.a1 q.n1 q.c1,.bool q.b2,.slice q.a2 q.n2 q.c2,.int .i64 co]] w fun e w'=>e=.returned (.tuple #[.agg #[.bool false,.slice a es.length c],.int .i64 1])∧Ext w w':=by
 obtain ⟨wb,hwb⟩:=nmE (((w.alloc (.cells #[.bool false,.slice a es.length c] 28)).alloc (.cells #[.string nm,.int .u8 kd,.bool p.b1,.slice p.a1 p.n1 p.c1,.bool p.b2,.slice p.a2 p.n2 p.c2,.bool q.b1,.slice q.a1 q.n1 q.c1,.bool q.b2,.slice q.a2 q.n2 q.c2,.int .i64 co] 58)).alloc (.cells #[.bool false,.slice none 0 0] 28));have hE:=mK (aLe3 hwb);have zC:=mK (aL30 hwb);have zP:=mK (aL31 hwb);have zR:=mK (aL32 hwb);have hN:=fun W=>Iq nm W hs;rw [hnm] at hN;have hY:=fun W (e:Ext w W)=>Pq nm kd co p.b1 p.a1 p.n1 p.c1 p.b2 p.a2 p.n2 p.c2 q.b1 q.a1 q.n1 q.c1 q.b2 q.a2 q.n2 q.c2 op oq W (h1.ext e) (h2.ext e);rw [hmy] at hY;replace hY:=mK hY;replace hN:=mK hN;replace hwb:=mK hwb;have y0:=Aa zC.out 0;have yp:=Aa zP.out 0;clear _h h1 h2 hs hnm hmy;go_enter Tryz.func16,Tryz.ntmps16;have tok:Tok 0:=.mk _
 go_wp2_with (first
  | (replace tok:Tok 1:=nxT 0 tok;go_at_call 86;rw [←hwb.out];refine (hN.out _).mono ?_;rintro e w2 ⟨rfl,hE2⟩;clear y0 yp;replace hE2:=mK hE2)
  | (replace tok:Tok 2:=nxT 1 tok;refine wpList_load_row (by rfl) 58 (.tmp 3) rfl (w.heap.size+1) rfl 58 #[.string nm,.int .u8 kd,.bool p.b1,.slice p.a1 p.n1 p.c1,.bool p.b2,.slice p.a2 p.n2 p.c2,.bool q.b1,.slice q.a1 q.n1 q.c1,.bool q.b2,.slice q.a2 q.n2 q.c2,.int .i64 co] (0,0) _ (hE2.out.blk zP.out) Tryz.underlying58 rfl (by kernel_rfl) ?_)
  | (replace tok:Tok 3:=nxT 2 tok;go_at_call 87;refine (hY.out _ (hE.out.trans hE2.out)).mono ?_;rintro e w3 ⟨rfl,hx⟩;replace hE2:=mK (hE2.out.trans hx);(have yp:=Aa (hE2.out.blk zP.out) 0);clear hx)
  | (replace tok:Tok 4:=nxT 3 tok;refine wpList_load_row (by rfl) 28 (.tmp 2) rfl w.heap.size rfl 28 #[.bool false,.slice a es.length c] (0,0) _ (hE2.out.blk zC.out) Tryz.underlying28 rfl (by kernel_rfl) ?_;have zR2:=mK (hE2.out.blk zR.out))
  | (replace tok:Tok 5:=nxT 4 tok;refine wpList_store_row rfl 28 (.tmp 4) (.tmp 20) rfl (w.heap.size+2) #[.bool false,.slice a es.length c] rfl rfl 28 _ zR2.out (by kernel_rfl) rfl (by kernel_rfl) ?_))
 exact bodyPost_ret (Ae rfl _ _ (w.heap.size+2) 28 #[.bool false,.slice a es.length c] _ _ rfl rfl (setRow_heap _ _ _ _ _ _ zR2.out) Tryz.underlying28 rfl (by kernel_rfl)) rfl ⟨rfl,(hE.out.trans hE2.out).row (by omega) _⟩
theorem Yy (p q:FV)(nm:ByteArray)(kd co:Int)(op oq:Option Rat)(w:World)(a:Option Addr)(c:Nat)(es:List (PD×Value))(h:RefC w (.slice a es.length c) es)(h1:AnyF w (.agg #[.bool p.b1,.slice p.a1 p.n1 p.c1,.bool p.b2,.slice p.a2 p.n2 p.c2]) op)(h2:AnyF w (.agg #[.bool q.b1,.slice q.a1 q.n1 q.c1,.bool q.b2,.slice q.a2 q.n2 q.c2]) oq)(hs:nm.size≤9223372036854775807)(hnm:Co nm.data.toList=true)(hmy:mayP kd co op oq=true)(x:PD×Value)(hf:Ay nm es=some x) :
  Calls Tryz.prog 16 #[.agg #[.bool false,.slice a es.length c],.agg #[.string nm,.int .u8 kd,.bool p.b1,.slice p.a1 p.n1 p.c1,.bool p.b2,.slice p.a2 p.n2 p.c2,.bool q.b1,.slice q.a1 q.n1 q.c1,.bool q.b2,.slice q.a2 q.n2 q.c2,.int .i64 co]] w fun e w'=>e=.returned (.tuple #[.agg #[.bool false,.slice a es.length c],.int .i64 10])∧Ext w w':=by
 obtain ⟨wb,hwb⟩:=nmE (((w.alloc (.cells #[.bool false,.slice a es.length c] 28)).alloc (.cells #[.string nm,.int .u8 kd,.bool p.b1,.slice p.a1 p.n1 p.c1,.bool p.b2,.slice p.a2 p.n2 p.c2,.bool q.b1,.slice q.a1 q.n1 q.c1,.bool q.b2,.slice q.a2 q.n2 q.c2,.int .i64 co] 58)).alloc (.cells #[.bool false,.slice none 0 0] 28));have hE:=aLe3 hwb;have zC:=mK (aL30 hwb);have zP:=mK (aL31 hwb);have zR:=mK (aL32 hwb);have hN:=fun W=>Iq nm W hs;rw [hnm] at hN;have hY:=fun W (e:Ext w W)=>Pq nm kd co p.b1 p.a1 p.n1 p.c1 p.b2 p.a2 p.n2 p.c2 q.b1 q.a1 q.n1 q.c1 q.b2 q.a2 q.n2 q.c2 op oq W (h1.ext e) (h2.ext e);rw [hmy] at hY;replace hY:=mK hY;have hL:=fun W (e:Ext w W)=>Fz nm (.slice a es.length c) es W (h.ext e);rw [hf] at hL;replace hL:=mK hL;generalize Bk nm es=i at *;have hfew:(es.length:Int)≤64:=by have:=h.few;omega
 replace hN:=mK hN;replace hE:=mK hE;replace hwb:=mK hwb;have y0:=Aa zC.out 0;have yp:=Aa zP.out 0;clear h h1 h2 hs hnm hmy hf;go_enter Tryz.func16,Tryz.ntmps16;have tok:Tok 0:=.mk _
 go_wp2_with (first
  | (replace tok:Tok 1:=nxT 0 tok;go_at_call 86;rw [←hwb.out];refine (hN.out _).mono ?_;rintro e w2 ⟨rfl,hE2⟩;clear y0 yp;replace hE2:=mK hE2)
  | (replace tok:Tok 2:=nxT 1 tok;refine wpList_load_row (by rfl) 58 (.tmp 3) rfl (w.heap.size+1) rfl 58 #[.string nm,.int .u8 kd,.bool p.b1,.slice p.a1 p.n1 p.c1,.bool p.b2,.slice p.a2 p.n2 p.c2,.bool q.b1,.slice q.a1 q.n1 q.c1,.bool q.b2,.slice q.a2 q.n2 q.c2,.int .i64 co] (0,0) _ (hE2.out.blk zP.out) Tryz.underlying58 rfl (by kernel_rfl) ?_)
  | (replace tok:Tok 3:=nxT 2 tok;go_at_call 87;refine (hY.out _ (hE.out.trans hE2.out)).mono ?_;rintro e w3 ⟨rfl,hx⟩;replace hE2:=mK (hE2.out.trans hx);(have yp:=Aa (hE2.out.blk zP.out) 0);clear hx)
  | (replace tok:Tok 4:=nxT 3 tok;refine wpList_load_row (by rfl) 28 (.tmp 2) rfl w.heap.size rfl 28 #[.bool false,.slice a es.length c] (0,0) _ (hE2.out.blk zC.out) Tryz.underlying28 rfl (by kernel_rfl) ?_)
  | (replace tok:Tok 5:=nxT 4 tok;go_at_call 88;refine (hL.out _ (hE.out.trans hE2.out)).mono ?_;rintro e w4 ⟨rfl,hx⟩;replace hE2:=mK (hE2.out.trans hx);clear yp;(have y1:=Aa (hE2.out.blk zC.out) 1);clear hx)
  | (replace tok:Tok 6:=nxT 5 tok;refine wpList_load_row (by rfl) 28 (.tmp 2) rfl w.heap.size rfl 28 #[.bool false,.slice a es.length c] (0,0) _ (hE2.out.blk zC.out) Tryz.underlying28 rfl (by kernel_rfl) ?_;have zR2:=mK (hE2.out.blk zR.out))
  | (replace tok:Tok 7:=nxT 6 tok;refine wpList_store_row rfl 28 (.tmp 4) (.tmp 29) rfl (w.heap.size+2) #[.bool false,.slice a es.length c] rfl rfl 28 _ zR2.out (by kernel_rfl) rfl (by kernel_rfl) ?_))
 exact bodyPost_ret (Ae rfl _ _ (w.heap.size+2) 28 #[.bool false,.slice a es.length c] _ _ rfl rfl (setRow_heap _ _ _ _ _ _ zR2.out) Tryz.underlying28 rfl (by kernel_rfl)) rfl ⟨rfl,(hE.out.trans hE2.out).row (by omega) _⟩
theorem Acf (p q:FV)(nm:ByteArray)(kd co:Int)(op oq:Option Rat)(w:World)(a:Option Addr)(c:Nat)(es:List (PD×Value))(h:RefC w (.slice a es.length c) es)(h1:AnyF w (.agg #[.bool p.b1,.slice p.a1 p.n1 p.c1,.bool p.b2,.slice p.a2 p.n2 p.c2]) op)(h2:AnyF w (.agg #[.bool q.b1,.slice q.a1 q.n1 q.c1,.bool q.b2,.slice q.a2 q.n2 q.c2]) oq)(hs:nm.size≤9223372036854775807)(hnm:Co nm.data.toList=true)(hmy:mayP kd co op oq=true)(hf:Ay nm es=none)(hl:64≤es.length) :
  Calls Tryz.prog 16 #[.agg #[.bool false,.slice a es.length c],.agg #[.string nm,.int .u8 kd,.bool p.b1,.slice p.a1 p.n1 p.c1,.bool p.b2,.slice p.a2 p.n2 p.c2,.bool q.b1,.slice q.a1 q.n1 q.c1,.bool q.b2,.slice q.a2 q.n2 q.c2,.int .i64 co]] w fun e w'=>e=.returned (.tuple #[.agg #[.bool false,.slice a es.length c],.int .i64 12])∧Ext w w':=by
 obtain ⟨wb,hwb⟩:=nmE (((w.alloc (.cells #[.bool false,.slice a es.length c] 28)).alloc (.cells #[.string nm,.int .u8 kd,.bool p.b1,.slice p.a1 p.n1 p.c1,.bool p.b2,.slice p.a2 p.n2 p.c2,.bool q.b1,.slice q.a1 q.n1 q.c1,.bool q.b2,.slice q.a2 q.n2 q.c2,.int .i64 co] 58)).alloc (.cells #[.bool false,.slice none 0 0] 28));have hE:=aLe3 hwb;have zC:=mK (aL30 hwb);have zP:=mK (aL31 hwb);have zR:=mK (aL32 hwb);have hN:=fun W=>Iq nm W hs;rw [hnm] at hN;have hY:=fun W (e:Ext w W)=>Pq nm kd co p.b1 p.a1 p.n1 p.c1 p.b2 p.a2 p.n2 p.c2 q.b1 q.a1 q.n1 q.c1 q.b2 q.a2 q.n2 q.c2 op oq W (h1.ext e) (h2.ext e);rw [hmy] at hY;replace hY:=mK hY;have hL:=fun W (e:Ext w W)=>Fz nm (.slice a es.length c) es W (h.ext e);rw [hf] at hL;replace hL:=mK hL;generalize Bk nm es=i at *;have hfew:(es.length:Int)≤64:=by have:=h.few;omega
 have hfull:(64:Int)≤(es.length:Int):=by omega
 replace hN:=mK hN;replace hE:=mK hE;replace hwb:=mK hwb;have y0:=Aa zC.out 0;have yp:=Aa zP.out 0;clear h h1 h2 hs hnm hmy hf;go_enter Tryz.func16,Tryz.ntmps16;have tok:Tok 0:=.mk _
 go_wp2_with (first
  | (replace tok:Tok 1:=nxT 0 tok;go_at_call 86;rw [←hwb.out];refine (hN.out _).mono ?_;rintro e w2 ⟨rfl,hE2⟩;clear y0 yp;replace hE2:=mK hE2)
  | (replace tok:Tok 2:=nxT 1 tok;refine wpList_load_row (by rfl) 58 (.tmp 3) rfl (w.heap.size+1) rfl 58 #[.string nm,.int .u8 kd,.bool p.b1,.slice p.a1 p.n1 p.c1,.bool p.b2,.slice p.a2 p.n2 p.c2,.bool q.b1,.slice q.a1 q.n1 q.c1,.bool q.b2,.slice q.a2 q.n2 q.c2,.int .i64 co] (0,0) _ (hE2.out.blk zP.out) Tryz.underlying58 rfl (by kernel_rfl) ?_)
  | (replace tok:Tok 3:=nxT 2 tok;go_at_call 87;refine (hY.out _ (hE.out.trans hE2.out)).mono ?_;rintro e w3 ⟨rfl,hx⟩;replace hE2:=mK (hE2.out.trans hx);(have yp:=Aa (hE2.out.blk zP.out) 0);clear hx)
  | (replace tok:Tok 4:=nxT 3 tok;refine wpList_load_row (by rfl) 28 (.tmp 2) rfl w.heap.size rfl 28 #[.bool false,.slice a es.length c] (0,0) _ (hE2.out.blk zC.out) Tryz.underlying28 rfl (by kernel_rfl) ?_)
  | (replace tok:Tok 5:=nxT 4 tok;go_at_call 88;refine (hL.out _ (hE.out.trans hE2.out)).mono ?_;rintro e w4 ⟨rfl,hx⟩;replace hE2:=mK (hE2.out.trans hx);clear yp;(have y1:=Aa (hE2.out.blk zC.out) 1);clear hx)
  | (replace tok:Tok 6:=nxT 5 tok;refine wpList_load_row (by rfl) 28 (.tmp 2) rfl w.heap.size rfl 28 #[.bool false,.slice a es.length c] (0,0) _ (hE2.out.blk zC.out) Tryz.underlying28 rfl (by kernel_rfl) ?_;have zR2:=mK (hE2.out.blk zR.out))
  | (replace tok:Tok 7:=nxT 6 tok;refine wpList_store_row rfl 28 (.tmp 4) (.tmp 34) rfl (w.heap.size+2) #[.bool false,.slice a es.length c] rfl rfl 28 _ zR2.out (by kernel_rfl) rfl (by kernel_rfl) ?_))
 exact bodyPost_ret (Ae rfl _ _ (w.heap.size+2) 28 #[.bool false,.slice a es.length c] _ _ rfl rfl (setRow_heap _ _ _ _ _ _ zR2.out) Tryz.underlying28 rfl (by kernel_rfl)) rfl ⟨rfl,(hE.out.trans hE2.out).row (by omega) _⟩
theorem Ps {s:ByteArray}:∀ {es:List (PD×Value)} {x:PD×Value},Rising es→Ay s es=some x→Bk s es<es.length∧es.filter (fun y=>!Bb s y)=es.take (Bk s es)++es.drop (Bk s es+1)
 | [],_,_,hf=>by cases hf
 | y::r,x,hr,hf=>by
  obtain ⟨h1,h2⟩:=List.pairwise_cons.1 hr
  unfold Ay at hf
  rw [List.find?_cons] at hf
  cases hn:Bb s y with
  | true=>
   have e:y.1.nm.data.toList=s.data.toList:=by
    unfold Bb at hn;simpa using hn
   have hb:befN s y=false:=by
    unfold befN;rw [e];exact WideAt.bytes_irrefl _
   have hp:Bk s (y::r)=0:=by
    unfold Bk;rw [List.takeWhile_cons_of_neg (by rw [hb];simp)];rfl
   rw [hp];refine ⟨by simp,?_⟩;rw [List.filter_cons_of_neg (by rw [hn];simp),List.take_zero,List.nil_append,List.drop_succ_cons,List.drop_zero];refine List.filter_eq_self.2 fun z hz=>?_;cases hm:Bb s z with
   | false=>rfl
   | true=>
    have e2:z.1.nm.data.toList=s.data.toList:=by
     unfold Bb at hm;simpa using hm
    have:=h1 z hz;rw [e,e2,WideAt.bytes_irrefl] at this;cases this
  | false=>
   rw [hn] at hf;obtain ⟨ih1,ih2⟩:=Ps h2 hf;have hx:Bb s x=true:=List.find?_some hf;have hm:x∈r:=List.mem_of_find?_eq_some hf
   have e2:x.1.nm.data.toList=s.data.toList:=by
    unfold Bb at hx;simpa using hx
   have hb:befN s y=true:=by
    unfold befN;rw [←e2];exact h1 x hm
   have hp:Bk s (y::r)=Bk s r+1:=by
    unfold Bk;rw [List.takeWhile_cons_of_pos hb,List.length_cons]
   rw [hp];refine ⟨by simpa using ih1,?_⟩;rw [List.filter_cons_of_pos (by rw [hn];rfl),ih2,List.take_succ_cons,List.drop_succ_cons,List.cons_append]
def Agt (w:World)(s:ByteArray)(es:List (PD×Value))(e:Ending)(w':World):Prop:=
 ∃ l',e=.returned (.tuple #[.agg #[.bool false,l'],.int .i64 0])∧RefC w' l' (es.filter fun y=>!Bb s y)∧(∀ g,l'.ownBlock=some g→w.heap.size≤g)∧Ext w w'
theorem Ack {w w8:World}{l v8:Value}{s:ByteArray}{es:List (PD×Value)}{g:Nat}(h:RefC w l es)(hg:w.heap.size≤g)(hE:Ext w w8)(hown:w8.ownsRow (g+1) 58 11 v8 (es.filter fun y=>!Bb s y).length (Af (es.filter fun y=>!Bb s y)))(cs:Array Value) :
  Agt w s es (.returned (.tuple #[.agg #[.bool false,v8],.int .i64 0])) (w8.setRow g cs):=by
 have hE9:Ext w (w8.setRow g cs):=hE.row hg _;refine ⟨v8,rfl,⟨?_,fun x hx=>?_,h.ris.filter _,fun x hx=>?_,nT (List.length_filter_le _ _) h.few⟩,fun k e=>?_,hE9⟩
 ·refine ⟨hown.1,?_⟩
  rcases hown.2 with h2|⟨k,cap,cur,e2,h3,h4,r⟩
  ·exact .inl h2
  ·exact .inr ⟨k,cap,cur,e2,Nat.zero_le _,(setRow_other _ _ _ _ (by omega)).trans h4,r⟩
 ·exact (h.part x (List.mem_filter.1 hx).1).ext hE9
 ·exact h.ok x (List.mem_filter.1 hx).1
 ·have:=(Dc hown k e).1
  omega
theorem Aew (s:ByteArray)(x:PD×Value)(l:Value)(es:List (PD×Value))(w:World)(h:RefC w l es)(hf:Ay s es=some x) :
  Calls Tryz.prog 19 #[.agg #[.bool false,l],.string s] w (Agt w s es):=by
 rcases h.shape with ⟨-,rfl⟩|⟨g,c,rest,rfl,hc1,hc2,hr⟩
 ·cases hf
 obtain ⟨wb,hwb⟩:=nmE ((w.alloc (.cells #[.bool false,.slice (some ⟨g,0,none⟩) es.length c] 28)).alloc (.cells #[.bool false,.slice none 0 0] 28));have hE:=aLe2 hwb;have zC:=mK (aL20 hwb);have zR:=mK (aL21 hwb);have hL:=fun W (e:Ext w W)=>Fz s (.slice (some ⟨g,0,none⟩) es.length c) es W (h.ext e);rw [hf] at hL;obtain ⟨hil,hflt⟩:=Ps h.ris hf;generalize Bk s es=i at *;have hfew:=h.few;have hav:=mK h.allV
 have hsplit:Af es++rest=[]++(Af (es.take i)++(Af (es.drop i)++rest)):=by
  rw [List.nil_append,←List.append_assoc,←Cd,List.take_append_drop]
 have hsplit2:Af es++rest=Af (es.take (i+1))++(Af (es.drop (i+1))++rest):=by
  rw [←List.append_assoc,←Cd,List.take_append_drop]
 have htl:(Af (es.take i)).length=i*11:=by rw [Cn (hav.out.take i),List.length_take,Nat.min_eq_left (Nat.le_of_lt hil)]
 have htl2:(Af (es.take (i+1))).length=(i+1)*11:=by rw [Cn (hav.out.take (i+1)),List.length_take,Nat.min_eq_left hil]
 have hdl:(Af (es.drop (i+1))).length=(es.length-(i+1))*11:=by rw [Cn (hav.out.drop (i+1)),List.length_drop]
 replace hsplit:=mK hsplit;replace hsplit2:=mK hsplit2;replace htl:=mK htl;replace htl2:=mK htl2;replace hdl:=mK hdl;replace hL:=mK hL;replace hflt:=mK hflt;replace hE:=mK hE;replace hwb:=mK hwb;replace hr:=mK hr;have hRC:=mK h;clear h hf;have y0:=Aa zC.out 0;have hl':(es.length:Int)≤64:=by omega
 have hcI:(c:Int)≤9223372036854775807:=by unfold maxLen at hc2;omega
 have hi':(i:Int)+1≤(es.length:Int):=by omega
 replace hc2:=mK hc2;go_enter Tryz.func19,Tryz.ntmps19;have tok:Tok 0:=.mk _
 go_wp2_with (first
  | (replace tok:Tok 1:=nxT 0 tok;rw [←hwb.out];refine wpList_load_row (by rfl) 28 (.tmp 2) rfl w.heap.size rfl 28 #[.bool false,.slice (some ⟨g,0,none⟩) es.length c] (0,0) _ zC.out Tryz.underlying28 rfl (by kernel_rfl) ?_)
  | (replace tok:Tok 2:=nxT 1 tok;go_at_call 88;refine (hL.out _ hE.out).mono ?_;rintro e w4 ⟨rfl,hE2⟩;replace hE2:=mK hE2;clear y0;(have y1:=Aa (hE2.out.blk zC.out) 1))
  | (replace tok:Tok 3:=nxT 2 tok;at_builtin;(have hr4:=(hE.out.trans hE2.out).blk hr.out);rw [hsplit.out] at hr4;(have hs4:=hE2.out.size);refine Bh rfl (.tmp 21) (.tmp 25) ?ya wb.heap.size (.slice none 0 0) 0 [] ?yb (World.ownsRow_nil _ _ _ _) (some ⟨g,0,none⟩) i c (Af (es.take i)) ?yc htl.out (.inr ⟨_,rfl,Mc (A:=[]) hr4⟩) (hav.out.take i).one ?yg hs4 ?_;(case ya=>rfl);(case yb=>rfl);(case yc=>rfl);(case yg=>omega);intro v5 w5 hown5 hgrow5 hloc5;replace hE2:=mK (hE2.out.gr hgrow5 (fun k e=>by cases e));(have zC5:=Aa (hE2.out.blk zC.out) 1);replace hown5:=mK hown5;clear hr4 hs4 hgrow5 hloc5 y1)
  | (replace tok:Tok 4:=nxT 3 tok;at_builtin;(have hr4:=(hE.out.trans hE2.out).blk hr.out);rw [hsplit2.out] at hr4;(have hs4:=hE2.out.size);refine Fk rfl (.tmp 27) (.tmp 32) ?yd wb.heap.size v5 (0+i) _ ?ye hown5.out (es.length-(i+1)) (Af (es.drop (i+1))) ?yf hdl.out (hav.out.drop (i+1)).one ?yh hs4 ?_;(case yd=>rfl);(case ye=>rfl);(case yf=>by_cases hci:c=i+1<;>simp only [hci,if_true,if_false];refine ⟨_,_,rfl,?_⟩;exact Vr hdl.out (by omega);refine ⟨_,_,rfl,?_⟩;exact Aek hr4 htl2.out);(case yh=>omega);intro v8 w8 hown8 hgrow8;(obtain ⟨a8,n8,c8,rfl⟩:=Ew hown8);replace hown8:=mK hown8;replace hgrow8:=mK hgrow8;replace hE2:=mK (hE2.out.gr hgrow8.out (fun k e=>(Dc hown5.out k e).1));(have zR8:=mK (hE2.out.blk zR.out));clear hr4 hs4 zC5)
  | (replace tok:Tok 5:=nxT 4 tok;refine wpList_store_row rfl 28 (.tmp 4) (.tmp 34) rfl (w.heap.size+1) #[.bool false,.slice a8 n8 c8] rfl rfl 28 _ zR8.out (by kernel_rfl) rfl (by kernel_rfl) ?_))
 all_goals (
  refine bodyPost_ret (Ae rfl _ _ (w.heap.size+1) 28 #[.bool false,.slice a8 n8 c8] _ _ rfl rfl (setRow_heap _ _ _ _ _ _ zR8.out) Tryz.underlying28 rfl (by kernel_rfl)) rfl ?_;have hsz:wb.heap.size=w.heap.size+1+1:=by rw [hwb.out];simp
  refine Ack hRC.out (Nat.le_succ _) (hE.out.trans hE2.out) ?_ _;have:=hown8.out;rw [hsz] at this;rw [hflt.out,Cd,List.length_append,List.length_take,List.length_drop,Nat.min_eq_left (Nat.le_of_lt hil)];rw [Nat.zero_add,List.nil_append] at this
  exact this)
theorem Aex (s:ByteArray)(l:Value)(es:List (PD×Value))(w:World)(h:RefC w l es)(hf:Ay s es=none) :
  Calls Tryz.prog 19 #[.agg #[.bool false,l],.string s] w fun e w'=>e=.returned (.tuple #[.agg #[.bool false,l],.int .i64 11])∧Ext w w':=by
 obtain ⟨a,c,rfl,-⟩:=h.slice;obtain ⟨wb,hwb⟩:=nmE ((w.alloc (.cells #[.bool false,.slice a es.length c] 28)).alloc (.cells #[.bool false,.slice none 0 0] 28));have hE:=aLe2 hwb;have zC:=mK (aL20 hwb);have zR:=mK (aL21 hwb);have hL:=fun W (e:Ext w W)=>Fz s (.slice a es.length c) es W (h.ext e);rw [hf] at hL;generalize Bk s es=i at *;replace hL:=mK hL;replace hE:=mK hE;replace hwb:=mK hwb;clear h hf;have y0:=Aa zC.out 0;go_enter Tryz.func19,Tryz.ntmps19;have tok:Tok 0:=.mk _
 go_wp2_with (first
  | (replace tok:Tok 1:=nxT 0 tok;rw [←hwb.out];refine wpList_load_row (by rfl) 28 (.tmp 2) rfl w.heap.size rfl 28 #[.bool false,.slice a es.length c] (0,0) _ zC.out Tryz.underlying28 rfl (by kernel_rfl) ?_)
  | (replace tok:Tok 2:=nxT 1 tok;go_at_call 88;refine (hL.out _ hE.out).mono ?_;rintro e w4 ⟨rfl,hE2⟩;replace hE2:=mK hE2;clear y0)
  | (replace tok:Tok 3:=nxT 2 tok;refine wpList_load_row (by rfl) 28 (.tmp 2) rfl w.heap.size rfl 28 #[.bool false,.slice a es.length c] (0,0) _ (hE2.out.blk zC.out) Tryz.underlying28 rfl (by kernel_rfl) ?_;have zR2:=mK (hE2.out.blk zR.out))
  | (replace tok:Tok 4:=nxT 3 tok;refine wpList_store_row rfl 28 (.tmp 4) (.tmp 20) rfl (w.heap.size+1) #[.bool false,.slice a es.length c] rfl rfl 28 _ zR2.out (by kernel_rfl) rfl (by kernel_rfl) ?_))
 exact bodyPost_ret (Ae rfl _ _ (w.heap.size+1) 28 #[.bool false,.slice a es.length c] _ _ rfl rfl (setRow_heap _ _ _ _ _ _ zR2.out) Tryz.underlying28 rfl (by kernel_rfl)) rfl ⟨rfl,(hE.out.trans hE2.out).row (Nat.le_succ _) _⟩
end Go.Proofs.YteogdoglboddhaaGreatDoor
